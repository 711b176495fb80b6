/-
  A table's text, plainly: its lines; read again they say the table.
-/
import Derived.Test.YtapikolgpmefbaaGreatDoorLText
import Derived.Test.YtapikolgpmefbaaGreatDoorLSort
namespace Go.Proofs.YtapikolgpmefbaaGreatDoor
open Go.RowKit Go.Mer

/-- A day's date as text, of its count. -/
def dayL (n : Int) : List UInt8 := dateL (ymdF (n + 719162).toNat).1 (ymdF (n + 719162).toNat).2.1 (ymdF (n + 719162).toNat).2.2
def row0 (x : Int × Int) : List UInt8 := dayL x.1 ++ [32] ++ Lib.decDigits x.2.toNat
def rowL (x : Int × Int) : List UInt8 := row0 x ++ [10]
def end0 (e : Int) : List UInt8 := expB ++ dayL e
def endL (e : Int) : List UInt8 := end0 e ++ [10]
/-- A table's lines. -/
def tabL (L : List (Int × Int)) (e : Int) : List (List UInt8) := L.map rowL ++ [endL e]
def textL (L : List (Int × Int)) (e : Int) : List UInt8 := (tabL L e).flatten
/-- A digit or a dash. -/
def isDD (c : UInt8) : Bool := isDig c || c == 45
theorem dateL_dd (y m d : Nat) : (dateL y m d).all isDD = true := by
  have h : ∀ l : List UInt8, l.all isDig = true → l.all isDD = true := fun l h => by
    rw [List.all_eq_true] at h ⊢
    intro x hx
    unfold isDD
    rw [h x hx]
    rfl
  unfold dateL
  rw [List.all_append, List.all_append, List.all_append, List.all_append, h _ (digL_dig 4 y), h _ (digL_dig 2 m), h _ (digL_dig 2 d)]
  rfl
theorem dd_ne {l : List UInt8} (h : l.all isDD = true) {c : UInt8} (hc : isDD c = false) : c ∉ l := fun hm => by
  rw [List.all_eq_true] at h
  rw [h c hm] at hc
  cases hc
theorem dig_ne {l : List UInt8} (h : l.all isDig = true) {c : UInt8} (hc : isDig c = false) : c ∉ l := fun hm => by
  rw [List.all_eq_true] at h
  rw [h c hm] at hc
  cases hc
theorem row0_nl (x : Int × Int) : (10 : UInt8) ∉ row0 x := by
  unfold row0 dayL
  intro h
  rw [List.mem_append, List.mem_append] at h
  rcases h with (h | h) | h
  · exact dd_ne (dateL_dd _ _ _) (by decide) h
  · exact absurd h (by decide)
  · exact dig_ne (dec_dig _) (by decide) h
theorem end0_nl (e : Int) : (10 : UInt8) ∉ end0 e := by
  unfold end0 dayL
  intro h
  rw [List.mem_append] at h
  rcases h with h | h
  · exact absurd h (by decide)
  · exact dd_ne (dateL_dd _ _ _) (by decide) h
theorem linesOf_line (r : List UInt8) : ∀ l : List UInt8, (10 : UInt8) ∉ l → linesOf (l ++ [10] ++ r) = (l ++ [10]) :: linesOf r := by
  intro l
  induction l with
  | nil => intro _; rfl
  | cons c t ih =>
    intro h
    rw [List.mem_cons, not_or] at h
    have e := ih h.2
    show linesOf (c :: (t ++ [10] ++ r)) = _
    rw [linesOf, if_neg (Ne.symm h.1), e]
    rfl
/-- Lines, each with its newline at its end alone. -/
def NlEnd (l : List UInt8) : Prop := ∃ t : List UInt8, l = t ++ [10] ∧ (10 : UInt8) ∉ t
theorem linesOf_flat (A : List (List UInt8)) (h : ∀ l ∈ A, NlEnd l) : linesOf A.flatten = A := by
  induction A with
  | nil => rfl
  | cons l r ih =>
    obtain ⟨t, rfl, ht⟩ := h l (List.mem_cons_self ..)
    rw [List.flatten_cons, linesOf_line _ t ht, ih fun x hx => h x (List.mem_cons_of_mem _ hx)]
theorem tabL_nl (L : List (Int × Int)) (e : Int) : ∀ l ∈ tabL L e, NlEnd l := by
  intro l hl
  unfold tabL at hl
  rw [List.mem_append] at hl
  rcases hl with hl | hl
  · obtain ⟨x, _, rfl⟩ := List.mem_map.1 hl
    exact ⟨_, rfl, row0_nl x⟩
  · rw [List.mem_singleton] at hl
    subst hl
    exact ⟨_, rfl, end0_nl e⟩
theorem trim_nl (t : List UInt8) : Lib.trimSuffix (t ++ [10]) [10] = t := by
  unfold Lib.trimSuffix Lib.hasSuffix
  rw [if_pos (by rw [List.isSuffixOf_iff_suffix]; exact List.suffix_append _ _)]
  simp
theorem cutF_app (c : UInt8) (r : List UInt8) : ∀ l : List UInt8, c ∉ l → cutF c (l ++ [c] ++ r) = (l, r, true) := by
  intro l
  induction l with
  | nil => intro _; simp [cutF]
  | cons x t ih =>
    intro h
    rw [List.mem_cons, not_or] at h
    have e := ih h.2
    show cutF c (x :: (t ++ [c] ++ r)) = _
    rw [cutF, if_neg (Ne.symm h.1), e]
theorem dayL_date {n : Int} (h : inF n = true) : ∃ y m d : Nat, dayL n = dateL y m d ∧ isD y m d = true ∧ daysF y m d = n := by
  unfold inF at h
  rw [Bool.and_eq_true, decide_eq_true_iff, decide_eq_true_iff] at h
  obtain ⟨h1, h2⟩ := ymd_ok (n + 719162).toNat (by omega)
  refine ⟨_, _, _, rfl, h1, ?_⟩
  rw [h2]
  omega
theorem dayL_cons (n : Int) : ∃ c t, dayL n = c :: t ∧ isDD c = true := by
  have hl := dateL_length (ymdF (n + 719162).toNat).1 (ymdF (n + 719162).toNat).2.1 (ymdF (n + 719162).toNat).2.2
  have hd := dateL_dd (ymdF (n + 719162).toNat).1 (ymdF (n + 719162).toNat).2.1 (ymdF (n + 719162).toNat).2.2
  unfold dayL
  cases h : dateL (ymdF (n + 719162).toNat).1 (ymdF (n + 719162).toNat).2.1 (ymdF (n + 719162).toNat).2.2 with
  | nil => rw [h] at hl; cases hl
  | cons c t =>
    rw [h, List.all_cons, Bool.and_eq_true] at hd
    exact ⟨c, t, rfl, hd.1⟩
theorem row0_cons (x : Int × Int) : ∃ c t, row0 x = c :: t ∧ isDD c = true := by
  obtain ⟨c, t, h, hd⟩ := dayL_cons x.1
  refine ⟨c, t ++ [32] ++ Lib.decDigits x.2.toNat, ?_, hd⟩
  unfold row0
  rw [h]
  rfl
theorem row0_pre (x : Int × Int) : Lib.hasPrefix (row0 x) expB = false := by
  obtain ⟨c, t, h, hd⟩ := row0_cons x
  rw [h]
  unfold Lib.hasPrefix expB
  rw [List.isPrefixOf]
  have hc : ((101 : UInt8) == c) = false := by
    rw [beq_eq_false_iff_ne]
    rintro rfl
    exact absurd hd (by decide)
  rw [hc]
  rfl
theorem row0_cut (x : Int × Int) : cutF 32 (row0 x) = (dayL x.1, Lib.decDigits x.2.toNat, true) := cutF_app 32 _ _ (dd_ne (dateL_dd _ _ _) (by decide))
theorem lineF_row {x : Int × Int} (h : inF x.1 = true) (h0 : 0 ≤ x.2) (h1 : x.2 ≤ 1000) : lineF (row0 x) = (x.1, x.2, true) := by
  obtain ⟨y, m, d, e1, e2, e3⟩ := dayL_date h
  unfold lineF
  rw [row0_pre, row0_cut, dec_isNum, dec_num, e1, parseD_dateL y m d e2]
  rw [if_neg (by decide), if_pos (show (((dateL y m d, Lib.decDigits x.2.toNat, true) : List UInt8 × List UInt8 × Bool).2.2 && true) = true from rfl), if_pos (by omega)]
  show (daysF y m d, (x.2.toNat : Int), true) = _
  rw [e3, Int.toNat_of_nonneg h0]
theorem lineF_end {e : Int} (h : inF e = true) : lineF (end0 e) = (e, -1, true) := by
  obtain ⟨y, m, d, e1, e2, e3⟩ := dayL_date h
  unfold lineF
  have hp : Lib.hasPrefix (end0 e) expB = true := by
    unfold Lib.hasPrefix end0
    rw [List.isPrefixOf_iff_prefix]
    exact List.prefix_append _ _
  have hd : (end0 e).drop 8 = dayL e := rfl
  rw [hp, if_pos rfl, hd, e1, parseD_dateL y m d e2]
  show (daysF y m d, (-1 : Int), true) = _
  rw [e3]
theorem linesP_skip (k : Nat) (L : List (Int × Int)) (E : Option Int) (t : List UInt8) (R : List (List UInt8)) (h : t = [] ∨ t.head? = some 35) : linesP k L E ((t ++ [10]) :: R) = linesP (k + 1) L E R := by
  rw [linesP_cons]
  unfold rowP
  rw [trim_nl, if_pos h]
theorem dd_head {c : UInt8} {t l : List UInt8} (h : l = c :: t) (hc : c ≠ 35) : ¬ (l = [] ∨ l.head? = some 35) := by
  subst h
  rintro (h | h)
  · cases h
  · have h : c = 35 := by simpa using h
    exact hc h
theorem linesP_rows (R : List (List UInt8)) : ∀ (L P : List (Int × Int)) (k : Nat), leapsF P L = true → linesP k P none (L.map rowL ++ R) = linesP (k + L.length) (P ++ L) none R := by
  intro L
  induction L with
  | nil => intro P k _; simp
  | cons x r ih =>
    intro P k h
    rw [leapsF, Bool.and_eq_true] at h
    obtain ⟨h1, h2, h3, _⟩ := followF_off h.1
    obtain ⟨c, t, hct, hd⟩ := row0_cons x
    rw [List.map_cons, List.cons_append, linesP_cons]
    have hx : rowP P none (rowL x) = .ok (P ++ [x], none) := by
      unfold rowP rowL
      rw [trim_nl, if_neg (dd_head hct (by rintro rfl; exact absurd hd (by decide))), lineF_row h1 h2 h3]
      have hlt : decide (x.2 < 0) = false := by rw [decide_eq_false_iff_not]; omega
      have hge : decide (0 ≤ x.2) = true := decide_eq_true h2
      simp only [hlt, hge]
      rw [show ((x.1, x.2) : Int × Int) = x from rfl, h.1]
      rfl
    rw [hx]
    show linesP (k + 1) (P ++ [x]) none (r.map rowL ++ R) = _
    rw [ih _ _ h.2, List.length_cons, List.append_assoc]
    rw [show k + 1 + r.length = k + (r.length + 1) by omega]
    rfl
theorem linesP_fin (R : List (List UInt8)) (k : Nat) (L : List (Int × Int)) (e : Int) (h : endsF L e = true) : linesP k L none (endL e :: R) = linesP (k + 1) L (some e) R := by
  have hin : inF e = true := by unfold endsF at h; rw [Bool.and_eq_true] at h; exact h.1
  rw [linesP_cons]
  have hx : rowP L none (endL e) = .ok (L, some e) := by
    unfold rowP endL
    rw [trim_nl, if_neg (show ¬ (end0 e = [] ∨ (end0 e).head? = some 35) from dd_head (c := 101) (t := (end0 e).tail) rfl (by decide)), lineF_end hin]
    simp only [h]
    rfl
  rw [hx]
theorem row_len (x : Int × Int) (h : x.2 ≤ 1000) : (rowL x).length ≤ 16 := by
  unfold rowL row0 dayL
  rw [List.length_append, List.length_append, List.length_append, dateL_length]
  have := dec_len 3 x.2.toNat (by omega)
  simp only [List.length_singleton]
  omega
theorem rows_len (L : List (Int × Int)) (h : ∀ x ∈ L, x.2 ≤ 1000) : (L.map rowL).flatten.length ≤ 16 * L.length := by
  induction L with
  | nil => simp
  | cons x r ih =>
    rw [List.map_cons, List.flatten_cons, List.length_append, List.length_cons]
    have := ih fun y hy => h y (List.mem_cons_of_mem _ hy)
    have := row_len x (h x (List.mem_cons_self ..))
    omega
theorem endL_len (e : Int) : (endL e).length = 19 := by
  unfold endL end0 dayL
  rw [List.length_append, List.length_append, dateL_length]
  rfl
theorem textL_eq (L : List (Int × Int)) (e : Int) : textL L e = (L.map rowL).flatten ++ endL e := by
  unfold textL tabL
  rw [List.flatten_append]
  simp
theorem textL_len {L : List (Int × Int)} {e : Int} (h : isF L e = true) : (textL L e).length ≤ 1619 := by
  have hl : L.length ≤ 100 := by
    rcases Nat.lt_or_ge 100 L.length with hc | hc
    · unfold isF at h
      rw [Bool.and_eq_true, leapsF_iff] at h
      have := (followF_off (h.1 100 (L[100]) (by simp))).2.2.2
      rw [List.nil_append, List.length_take] at this
      omega
    · exact hc
  rw [textL_eq, List.length_append, endL_len]
  have := rows_len L fun x hx => by
    obtain ⟨i, hi, rfl⟩ := List.getElem_of_mem hx
    exact (isF_day h (i := i) (by simp)).2.2.2
  omega
theorem parseT_text {L : List (Int × Int)} {e : Int} (h : isF L e = true) : parseT (textL L e) = (L, e, 0, 0) := by
  have hl := textL_len h
  unfold isF at h
  rw [Bool.and_eq_true] at h
  unfold parseT
  rw [if_neg (by omega), textL, linesOf_flat _ (tabL_nl L e), tabL, linesP_rows _ _ _ _ h.1, List.nil_append, linesP_fin _ _ _ _ h.2]
  rfl
end Go.Proofs.YtapikolgpmefbaaGreatDoor
