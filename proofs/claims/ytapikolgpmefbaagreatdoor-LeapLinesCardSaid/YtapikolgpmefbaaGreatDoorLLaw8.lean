/-
  The law LeapLines, of any table and remark.
-/
import Derived.Test.YtapikolgpmefbaaGreatDoorLLaw7
import Derived.Test.YtapikolgpmefbaaGreatDoorTree
import Derived.Deep.CutBlock
namespace Go.Proofs.YtapikolgpmefbaaGreatDoor
open Go.RowKit Go.Mer

/-- Where so many lines end. -/
def posF : List UInt8 → Nat → Nat → Nat → Nat
  | [], _, k, _ => k
  | c :: r, n, k, i => if n = 0 then k else if c = 10 then posF r (n - 1) (i + 1) (i + 1) else posF r n k (i + 1)
theorem posF_0 (s : List UInt8) (k i : Nat) : posF s 0 k i = k := by cases s <;> simp [posF]
theorem posF_line (r : List UInt8) : ∀ (t : List UInt8) (n k i : Nat), (10 : UInt8) ∉ t → posF (t ++ [10] ++ r) (n + 1) k i = posF r n (i + t.length + 1) (i + t.length + 1) := by
  intro t
  induction t with
  | nil => intro n k i _; simp [posF]
  | cons c t ih =>
    intro n k i h
    rw [List.mem_cons, not_or] at h
    show posF (c :: (t ++ [10] ++ r)) (n + 1) k i = _
    rw [posF, if_neg (by omega), if_neg (Ne.symm h.1), ih n k (i + 1) h.2, List.length_cons]
    rw [show i + 1 + t.length + 1 = i + (t.length + 1) + 1 by omega]
theorem posF_flat : ∀ (T : List (List UInt8)) (n i : Nat), (∀ l ∈ T, NlEnd l) → n ≤ T.length → posF T.flatten n i i = i + (T.take n).flatten.length := by
  intro T
  induction T with
  | nil => intro n i _ _; simp [posF]
  | cons l T ih =>
    intro n i h hn
    cases n with
    | zero => rw [posF_0]; simp
    | succ n =>
      obtain ⟨t, rfl, ht⟩ := h l (List.mem_cons_self ..)
      rw [List.flatten_cons, posF_line _ t n i i ht, ih n _ (fun x hx => h x (List.mem_cons_of_mem _ hx)) (by simpa using hn)]
      rw [List.take_succ_cons, List.flatten_cons, List.length_append, List.length_append, List.length_singleton]
      omega
theorem take_flat (T : List (List UInt8)) (n : Nat) : T.flatten.take (T.take n).flatten.length = (T.take n).flatten ∧ T.flatten.drop (T.take n).flatten.length = (T.drop n).flatten := by
  have h : T.flatten = (T.take n).flatten ++ (T.drop n).flatten := by rw [← List.flatten_append, List.take_append_drop]
  constructor
  · conv => lhs; rw [h]
    exact List.take_left
  · conv => lhs; rw [h]
    exact List.drop_left
theorem linesP_shift (R : List (List UInt8)) : ∀ (k k' : Nat) (L : List (Int × Int)) (E : Option Int) (X : List (Int × Int)) (x : Int), linesP k L E R = (X, x, 0, 0) → linesP k' L E R = (X, x, 0, 0) := by
  induction R with
  | nil =>
    intro k k' L E X x h
    cases E with
    | none => simp [linesP] at h
    | some e => exact h
  | cons l r ih =>
    intro k k' L E X x h
    rw [linesP_cons] at h ⊢
    cases hp : rowP L E l with
    | error c =>
      rw [hp] at h
      injection h with _ h
      injection h with _ h
      injection h with h _
      omega
    | ok y =>
      rw [hp] at h
      exact ih _ _ _ _ _ _ h
theorem linesP_pre (A : List (List UInt8)) : ∀ (k : Nat) (L : List (Int × Int)) (E : Option Int) (X : List (Int × Int)) (x : Int) (B : List (List UInt8)), linesP k L E (A ++ B) = (X, x, 0, 0) →
    ∃ L' E', ∀ R, linesP k L E (A ++ R) = linesP (k + A.length) L' E' R := by
  induction A with
  | nil => intro k L E X x B _; exact ⟨L, E, fun R => rfl⟩
  | cons l r ih =>
    intro k L E X x B h
    rw [List.cons_append, linesP_cons] at h
    cases hp : rowP L E l with
    | error c =>
      rw [hp] at h
      injection h with _ h
      injection h with _ h
      injection h with h _
      omega
    | ok y =>
      rw [hp] at h
      obtain ⟨L', E', h'⟩ := ih _ _ _ _ _ _ h
      refine ⟨L', E', fun R => ?_⟩
      rw [List.cons_append, linesP_cons, hp]
      show linesP (k + 1) y.1 y.2 (r ++ R) = _
      rw [h' R, List.length_cons, show k + 1 + r.length = k + (r.length + 1) by omega]
/-- With a remark and an empty line behind so many lines. -/
def remL (T : List (List UInt8)) (n : Nat) (q : List UInt8) : List (List UInt8) := T.take n ++ [35 :: q ++ [10], [10]] ++ T.drop n
def wrongB : List UInt8 := [119, 114, 111, 110, 103]
def wrongL (T : List (List UInt8)) (n : Nat) : List (List UInt8) := T.take n ++ [[10], wrongB ++ [10]] ++ T.drop n
theorem remL_text (T : List (List UInt8)) (n : Nat) (q : List UInt8) : (remL T n q).flatten = T.flatten.take (T.take n).flatten.length ++ [35] ++ q ++ [10, 10] ++ T.flatten.drop (T.take n).flatten.length := by
  rw [(take_flat T n).1, (take_flat T n).2]
  unfold remL
  simp
theorem wrongL_text (T : List (List UInt8)) (n : Nat) : (wrongL T n).flatten = T.flatten.take (T.take n).flatten.length ++ [10, 119, 114, 111, 110, 103, 10] ++ T.flatten.drop (T.take n).flatten.length := by
  rw [(take_flat T n).1, (take_flat T n).2]
  unfold wrongL wrongB
  simp
theorem remL_nl {T : List (List UInt8)} (h : ∀ l ∈ T, NlEnd l) {q : List UInt8} (hq : (10 : UInt8) ∉ q) (n : Nat) : ∀ l ∈ remL T n q, NlEnd l := by
  intro l hl
  unfold remL at hl
  rw [List.mem_append, List.mem_append] at hl
  rcases hl with (hl | hl) | hl
  · exact h l (List.mem_of_mem_take hl)
  · rcases List.mem_cons.1 hl with rfl | hl
    · refine ⟨35 :: q, rfl, ?_⟩
      rw [List.mem_cons, not_or]
      exact ⟨by decide, hq⟩
    · rw [List.mem_singleton] at hl
      subst hl
      exact ⟨[], rfl, by simp⟩
  · exact h l (List.mem_of_mem_drop hl)
theorem wrongL_nl {T : List (List UInt8)} (h : ∀ l ∈ T, NlEnd l) (n : Nat) : ∀ l ∈ wrongL T n, NlEnd l := by
  intro l hl
  unfold wrongL at hl
  rw [List.mem_append, List.mem_append] at hl
  rcases hl with (hl | hl) | hl
  · exact h l (List.mem_of_mem_take hl)
  · rcases List.mem_cons.1 hl with rfl | hl
    · exact ⟨[], rfl, by simp⟩
    · rw [List.mem_singleton] at hl
      subst hl
      exact ⟨wrongB, rfl, by decide⟩
  · exact h l (List.mem_of_mem_drop hl)
theorem tab_lines {L : List (Int × Int)} {e : Int} (h : isF L e = true) : linesP 0 [] none (tabL L e) = (L, e, 0, 0) := by
  have h2 := parseT_text h
  unfold parseT at h2
  have hl := textL_len h
  rw [if_neg (by omega), textL, linesOf_flat _ (tabL_nl L e)] at h2
  exact h2
theorem remL_lines {T : List (List UInt8)} {X : List (Int × Int)} {x : Int} (h : linesP 0 [] none T = (X, x, 0, 0)) (n : Nat) (q : List UInt8) : linesP 0 [] none (remL T n q) = (X, x, 0, 0) := by
  have h0 : linesP 0 [] none (T.take n ++ T.drop n) = (X, x, 0, 0) := by rw [List.take_append_drop]; exact h
  obtain ⟨L', E', hp⟩ := linesP_pre _ _ _ _ _ _ _ h0
  unfold remL
  rw [List.append_assoc, hp]
  show linesP _ L' E' ((35 :: q ++ [10]) :: ([] ++ [10]) :: T.drop n) = _
  rw [linesP_skip _ _ _ (35 :: q) _ (.inr rfl), linesP_skip _ _ _ [] _ (.inl rfl)]
  rw [hp] at h0
  exact linesP_shift _ _ _ _ _ _ _ h0
theorem lineF_wrong : lineF wrongB = (0, 0, false) := by kernel_rfl
theorem wrongL_lines {T : List (List UInt8)} {X : List (Int × Int)} {x : Int} (h : linesP 0 [] none T = (X, x, 0, 0)) (n : Nat) : ∃ y : Nat, 2 ≤ y ∧ linesP 0 [] none (wrongL T n) = ([], 0, (y : Int), 10) ∧ y ≤ T.length + 2 := by
  have h0 : linesP 0 [] none (T.take n ++ T.drop n) = (X, x, 0, 0) := by rw [List.take_append_drop]; exact h
  obtain ⟨L', E', hp⟩ := linesP_pre _ _ _ _ _ _ _ h0
  refine ⟨(T.take n).length + 2, by omega, ?_, by rw [List.length_take]; omega⟩
  unfold wrongL
  rw [List.append_assoc, hp]
  show linesP _ L' E' (([] ++ [10]) :: (wrongB ++ [10]) :: T.drop n) = _
  rw [linesP_skip _ _ _ [] _ (.inl rfl), linesP_cons]
  have hr : rowP L' E' (wrongB ++ [10]) = .error 10 := by
    unfold rowP
    rw [trim_nl, if_neg (show ¬ (wrongB = [] ∨ wrongB.head? = some 35) by decide), lineF_wrong]
    rfl
  rw [hr]
  show ([], (0 : Int), ((0 + (T.take n).length + 1 : Nat) : Int) + 1, (10 : Int)) = _
  rw [Nat.zero_add]
  push_cast
  rw [Int.add_assoc]
theorem ins_len (T : List (List UInt8)) (n : Nat) (q : List UInt8) : (remL T n q).flatten.length = T.flatten.length + q.length + 3 ∧ (wrongL T n).flatten.length = T.flatten.length + 7 := by
  have h : T.flatten.length = (T.take n).flatten.length + (T.drop n).flatten.length := by
    rw [← List.length_append, ← List.flatten_append, List.take_append_drop]
  constructor
  · unfold remL
    rw [List.flatten_append, List.flatten_append, List.length_append, List.length_append]
    simp only [List.flatten_cons, List.flatten_nil, List.length_append, List.length_cons, List.length_nil, List.append_nil]
    omega
  · unfold wrongL wrongB
    rw [List.flatten_append, List.flatten_append, List.length_append, List.length_append]
    simp only [List.flatten_cons, List.flatten_nil, List.length_append, List.length_cons, List.length_nil, List.append_nil]
    omega
theorem low_1023 (x : Int) : ∃ v : Nat, bits .and .i64 x 1023 = (v : Int) := by
  have h : ((BitVec.ofInt 64 x) &&& (BitVec.ofInt 64 1023)).toNat ≤ 1023 := by
    rw [BitVec.toNat_and]
    exact Nat.and_le_right
  refine ⟨((BitVec.ofInt 64 x) &&& (BitVec.ofInt 64 1023)).toNat, ?_⟩
  simp only [bits]
  unfold IntKind.wrap
  have e : (2 ^ IntKind.i64.bits : Int) = 18446744073709551616 := by decide
  have e2 : IntKind.i64.bits = 64 := rfl
  rw [e2] at e ⊢
  rw [e]
  have h2 : ((((BitVec.ofInt 64 x) &&& (BitVec.ofInt 64 1023)).toNat : Nat) : Int) ≤ 1023 := Int.ofNat_le.2 h
  have h3 : (0 : Int) ≤ ((((BitVec.ofInt 64 x) &&& (BitVec.ofInt 64 1023)).toNat : Nat) : Int) := Int.natCast_nonneg _
  rw [Int.emod_eq_of_lt h3 (by omega)]
  rw [if_neg]
  simp only [Bool.and_eq_true, decide_eq_true_eq, not_and]
  intro _
  have e3 : (2 ^ (64 - 1) : Int) = 9223372036854775808 := by decide
  rw [e3]
  omega
/-- Which of the lines: the number of lines ahead. -/
theorem whichG (v K : Nat) (hK : K ≤ 100) : ∃ n : Nat, n ≤ K + 1 ∧ wrap64 ((K : Int) + 2) = ((K + 2 : Nat) : Int) ∧ (v : Int).tmod ((K + 2 : Nat) : Int) = (n : Int) ∧ (v : Int) % ((K + 2 : Nat) : Int) = (n : Int) ∧ (((K + 2 : Nat) : Int) == 0) = false ∧ ¬ ((K + 2 : Nat) : Int) = 0 := by
  refine ⟨v % (K + 2), by have := Nat.mod_lt v (show K + 2 > 0 by omega); omega, ?_, ?_, (Int.natCast_emod v (K + 2)).symm, ?_, by omega⟩
  · rw [IntWalk.wrap64_in _ (by omega)]; push_cast; rfl
  · rw [Int.tmod_eq_emod_of_nonneg (Int.natCast_nonneg _)]; exact (Int.natCast_emod v (K + 2)).symm
  · rw [beq_eq_false_iff_ne]; omega
/-- The table that was read, in its block. -/
def LP (W0 : World) (L : List (Int × Int)) (e : Int) (g : Nat) (a : Option Addr) (K c : Nat) (V : World) : Prop :=
  V.heap[g]? = some (.cells #[.slice a K c, .int .i64 e] 24 (0, 0)) ∧ Rd V V.heap.size a (tbV L) ∧ Kp No W0 V
theorem rd_ne {V : World} {g B : Nat} {t : TypeId} {a : Option Addr} {L : List (Int × Int)} {v : Value} {x : Int} (h : V.heap[g]? = some (.cells #[v, .int .i64 x] t (0, 0))) (hv : ∀ y, v ≠ .int .i64 y) (hR : Rd V B a (tbV L)) (hL : 0 < L.length) : ∀ off, a ≠ some ⟨g, off, none⟩ := by
  intro off ha
  have hx : L[0]? = some (L[0]'hL) := List.getElem?_eq_getElem hL
  obtain ⟨t1, t2⟩ := tbV_at _ _ _ hx
  obtain ⟨g', o', hg', _, _, r1⟩ := hR.at_ t1
  obtain ⟨g2, o2, hg2, _, _, r2⟩ := hR.at_ t2
  rw [ha] at hg' hg2
  obtain ⟨rfl, rfl⟩ : g = g' ∧ off = o' := by simpa using hg'
  obtain ⟨rfl, rfl⟩ : g = g2 ∧ off = o2 := by simpa using hg2
  rw [cell_at h] at r1 r2
  match off with
  | 0 => simp at r1; exact hv _ r1
  | 1 => simp at r2
  | n + 2 => simp at r1
theorem pre_len (T : List (List UInt8)) (n : Nat) : (T.take n).flatten.length ≤ T.flatten.length := by
  have h : T.flatten.length = (T.take n).flatten.length + (T.drop n).flatten.length := by
    rw [← List.length_append, ← List.flatten_append, List.take_append_drop]
  omega
theorem drop_all (l : List UInt8) (P : Nat) : (l.drop P).take (l.length - P) = l.drop P := List.take_of_length_le (by rw [List.length_drop]; exact Nat.le_refl _)
theorem cat_rem (S R : ByteArray) (P n : Nat) (T : List (List UInt8)) (hS : S.data.toList = T.flatten) (hP : P = (T.take n).flatten.length) : (S.extract 0 P ++ ⟨#[35]⟩ ++ R ++ ⟨#[10, 10]⟩ ++ S.extract P S.size).data.toList = (remL T n R.data.toList).flatten := by
  rw [remL_text, ← hS, ← hP]
  simp only [ByteArray.data_append, Array.toList_append, extract_list, List.drop_zero, Nat.sub_zero]
  rw [show S.size = S.data.toList.length from rfl, drop_all]
theorem cat_wrong (S : ByteArray) (P n : Nat) (T : List (List UInt8)) (hS : S.data.toList = T.flatten) (hP : P = (T.take n).flatten.length) : (S.extract 0 P ++ ⟨#[10, 119, 114, 111, 110, 103, 10]⟩ ++ S.extract P S.size).data.toList = (wrongL T n).flatten := by
  rw [wrongL_text, ← hS, ← hP]
  simp only [ByteArray.data_append, Array.toList_append, extract_list, List.drop_zero, Nat.sub_zero]
  rw [show S.size = S.data.toList.length from rfl, drop_all]
theorem lnOk_nil : LnOk [] := fun _ h => by cases h
theorem lnOk_wrong : LnOk wrongB := fun _ h => by cases h
theorem parse_rem {L : List (Int × Int)} {e : Int} (h : isF L e = true) (n : Nat) (q : List UInt8) (hq : (10 : UInt8) ∉ q) (hq1 : q.length ≤ 100) (B : ByteArray) (hB : B.data.toList = (remL (tabL L e) n q).flatten) (W : World) :
    Calls Tryz.prog 10 #[.string B] W fun e' w' => TabP (L, e, 0, 0) e' w' ∧ Kp No W w' := by
  have hnl := remL_nl (tabL_nl L e) hq n
  have hlen := (ins_len (tabL L e) n q).1
  have htl : (tabL L e).flatten.length ≤ 1619 := textL_len h
  have hsz : B.data.toList.length ≤ 1722 := by rw [hB]; omega
  have hp := Parse_any B W (by show B.data.toList.length ≤ _; omega) (by
    rw [hB, linesOf_flat _ hnl]
    intro x hx hne
    unfold remL at hx
    rw [List.mem_append, List.mem_append] at hx
    rcases hx with (hx | hx) | hx
    · exact lnOk_tab h x (List.mem_of_mem_take hx)
    · rcases List.mem_cons.1 hx with rfl | hx
      · rw [trim_nl] at hne
        exact absurd rfl hne
      · rw [List.mem_singleton] at hx
        subst hx
        exact (trim_nl []).symm ▸ lnOk_nil
    · exact lnOk_tab h x (List.mem_of_mem_drop hx))
  rw [show parseT B.data.toList = (L, e, 0, 0) by
    unfold parseT
    rw [if_neg (by omega), hB, linesOf_flat _ hnl]
    exact remL_lines (tab_lines h) n q] at hp
  exact hp
theorem parse_wrong {L : List (Int × Int)} {e : Int} (h : isF L e = true) (n : Nat) : ∃ y : Nat, 2 ≤ y ∧ y ≤ 200 ∧ ∀ (B : ByteArray) (_ : B.data.toList = (wrongL (tabL L e) n).flatten) (W : World),
    Calls Tryz.prog 10 #[.string B] W fun e' w' => TabP ([], 0, (y : Int), 10) e' w' ∧ Kp No W w' := by
  obtain ⟨y, hy, hl, hy2⟩ := wrongL_lines (tab_lines h) n
  have h100 := isF_100 h
  have htn : (tabL L e).length = L.length + 1 := by
    unfold tabL
    rw [List.length_append, List.length_map, List.length_singleton]
  refine ⟨y, hy, by omega, fun B hB W => ?_⟩
  have hnl := wrongL_nl (tabL_nl L e) n
  have hlen := (ins_len (tabL L e) n []).2
  have htl : (tabL L e).flatten.length ≤ 1619 := textL_len h
  have hsz : B.data.toList.length ≤ 1722 := by rw [hB]; omega
  have hp := Parse_any B W (by show B.data.toList.length ≤ _; omega) (by
    rw [hB, linesOf_flat _ hnl]
    intro x hx _
    unfold wrongL at hx
    rw [List.mem_append, List.mem_append] at hx
    rcases hx with (hx | hx) | hx
    · exact lnOk_tab h x (List.mem_of_mem_take hx)
    · rcases List.mem_cons.1 hx with rfl | hx
      · exact (trim_nl []).symm ▸ lnOk_nil
      · rw [List.mem_singleton] at hx
        subst hx
        rw [trim_nl]
        exact lnOk_wrong
    · exact lnOk_tab h x (List.mem_of_mem_drop hx))
  rw [show parseT B.data.toList = ([], 0, (y : Int), 10) by
    unfold parseT
    rw [if_neg (by omega), hB, linesOf_flat _ hnl]
    exact hl] at hp
  exact hp
/-- The table that was read is laid into its block. -/
theorem LP_of {W0 V : World} {L : List (Int × Int)} {e : Int} {g B K c : Nat} {a : Option Addr} (h : V.heap[g]? = some (.cells #[.slice none 0 0, .int .i64 0] 24 (0, 0))) (hR : Rd V B a (tbV L)) (hL : 0 < L.length) (hk : Kp No W0 V) (hg : W0.heap.size ≤ g) :
    LP W0 L e g a K c ((V.setCell ⟨g, 0, none⟩ (.slice a K c)).setCell ⟨g, 1, none⟩ (.int .i64 e)) := by
  have hne := rd_ne h (fun y hy => by cases hy) hR hL
  have hk1 : Kp (Mer.One g) V ((V.setCell ⟨g, 0, none⟩ (.slice a K c)).setCell ⟨g, 1, none⟩ (.int .i64 e)) :=
    ((Kp.refl (Mer.One g) V).setCell (p := ⟨g, 0, none⟩) (.inl rfl) _).setCell (p := ⟨g, 1, none⟩) (.inl rfl) _
  refine ⟨set_at (set_at h 0 _) 1 _, ?_, (hk.setCell (p := ⟨g, 0, none⟩) (.inr hg) _).setCell (p := ⟨g, 1, none⟩) (.inr hg) _⟩
  intro hx
  obtain ⟨g', off, ha, hgB, hB, hc⟩ := hR hx
  have hgne : g' ≠ g := fun he => hne off (by rw [ha, he])
  refine ⟨g', off, ha, Nat.lt_of_lt_of_le hgB (Nat.le_trans hB hk1.size), Nat.le_refl _, fun i u hu => ?_⟩
  rw [hk1.cell (p := ⟨g', off + i, none⟩) (Nat.lt_of_lt_of_le hgB hB) (fun he => hgne he)]
  exact hc i u hu
set_option maxRecDepth 10000 in
set_option maxHeartbeats 8000000 in
theorem Lines_law (w : World) (a : Option Addr) (cap : Nat) (L : List (Int × Int)) (e m : Int) (R : ByteArray) (hR : Rd w w.heap.size a (tbV L)) (ht : Pow w) :
    Calls Tryz.prog 4 #[.agg #[.slice a L.length cap, .int .i64 e], .int .i64 m, .string R] w fun e' w' => e' = .returned (.bool true) ∧ Kp No w w' := by
  obtain ⟨W0, hW0⟩ : ∃ W0, W0 = w.alloc (.cells #[.slice a L.length cap, .int .i64 e] 24 (0, 0)) := ⟨_, rfl⟩
  have hb : W0.heap[w.heap.size]? = some (.cells #[.slice a L.length cap, .int .i64 e] 24 (0, 0)) := by rw [hW0]; exact heap_alloc_new w _
  have hk0 : Kp No w W0 := by rw [hW0]; exact (Kp.refl _ _).alloc _
  have HK := Lib.hid hk0
  obtain ⟨K, hK⟩ : ∃ K, K = L.length := ⟨_, rfl⟩
  rcases Nat.lt_or_ge 100 K with h | h
  · have h1 : decide (100 < K) = true := decide_eq_true h
    have h2 : decide ((100 : Int) < (K : Int)) = true := by rw [decide_eq_true_iff]; omega
    rw [← hK] at hW0
    rw [← hK]
    have HW := Lib.hid hW0
    clear hW0 hk0 hR hb hK h ht
    go_enter Tryz.func4, Tryz.ntmps4
    go_wp2_with fail
    rw [← HW.out]
    refine (known_any _).mono ?_
    rintro e' wk ⟨rfl, hkk⟩
    have HKK := Lib.hid ((HK.out).trans_same hkk)
    clear hkk
    go_wp2_with fail
    go_ret
    exact ⟨rfl, HKK.out⟩
  · have h1 : decide (100 < K) = false := by rw [decide_eq_false_iff_not]; omega
    have h2 : decide ((100 : Int) < (K : Int)) = false := by rw [decide_eq_false_iff_not]; omega
    rcases Nat.lt_or_ge 100 R.size with hr | hr
    · have h3 : decide (100 < R.size) = true := decide_eq_true hr
      have h4 : decide ((100 : Int) < (R.size : Int)) = true := by rw [decide_eq_true_iff]; omega
      rw [← hK] at hW0
      rw [← hK]
      have HW := Lib.hid hW0
      clear hW0 hk0 hR hb hK h ht hr
      go_enter Tryz.func4, Tryz.ntmps4
      go_wp2_with fail
      rw [← HW.out]
      refine (known_any _).mono ?_
      rintro e' wk ⟨rfl, hkk⟩
      have HKK := Lib.hid ((HK.out).trans_same hkk)
      clear hkk
      go_wp2_with fail
      go_ret
      exact ⟨rfl, HKK.out⟩
    · have h3 : decide (100 < R.size) = false := by rw [decide_eq_false_iff_not]; omega
      have h4 : decide ((100 : Int) < (R.size : Int)) = false := by rw [decide_eq_false_iff_not]; omega
      have his := rIs_any L e W0 a cap w.heap.size (hR.keep hk0 fun _ _ x => x) (by omega)
      have how := fun W (h' : Kp No W0 W) => own_any W L e a cap w.heap.size (hR.keep (hk0.trans_same h') fun _ _ x => x) (by omega)
      have c0 : ∀ W, Kp No W0 W → W.cell? ⟨w.heap.size, 0, none⟩ = some (.slice a L.length cap) := fun W h => by rw [cell_at (h.get hb fun x => x)]; rfl
      have c1 : ∀ W, Kp No W0 W → W.cell? ⟨w.heap.size, 1, none⟩ = some (.int .i64 e) := fun W h => by rw [cell_at (h.get hb fun x => x)]; rfl
      cases hif : isF L e with
      | false =>
        rw [hif] at his
        rw [← hK] at his hW0
        rw [← hK]
        have HIS := Lib.hid his
        have HW := Lib.hid hW0
        clear hif his how hW0 hb hk0 hR hK c0 c1 h hr ht
        go_enter Tryz.func4, Tryz.ntmps4
        go_wp2_with fail
        rw [← HW.out]
        refine HIS.out.mono ?_
        rintro e' w2 ⟨rfl, hk2⟩
        have HK2 := Lib.hid (HK.out.trans_same hk2)
        clear hk2
        go_wp2_with fail
        refine (known_any _).mono ?_
        rintro e' wk ⟨rfl, hkk⟩
        have HKK := Lib.hid ((HK2.out).trans_same hkk)
        clear hkk
        go_wp2_with fail
        go_ret
        exact ⟨rfl, HKK.out⟩
      | true =>
        have hpr := fun (a' : Option Addr) (c' : Nat) (W : World) (hh : Rd W W.heap.size a' (tbV L)) (hc : L.length ≤ c') (hp : Pow W) => Print_yes L e W a' c' _ hh hc hif hp
        have hts := fun (W : World) (b : Option Addr) (cb Bb : Nat) (hB : Rd W Bb b (tbV L)) (hW : Kp No W0 W) => tables_same W L e b a cb cap Bb w.heap.size hB (hR.keep (hk0.trans_same hW) fun _ _ x => x) (by omega)
        rw [hif] at his
        rw [← hK] at his hW0 how c0 hpr hts
        rw [← hK]
        have HIS := Lib.hid his
        have HW := Lib.hid hW0
        have HOW := Lib.hid how
        have HPR := Lib.hid hpr
        have HTS := Lib.hid hts
        have HC0 := Lib.hid c0
        have HC1 := Lib.hid c1
        have HIF := Lib.hid hif
        have HKL := Lib.hid (And.intro hK (And.intro h hr))
        have HT := Lib.hid ht
        clear hif his how hW0 hb hk0 hR hK c0 c1 h hr ht hpr hts
        go_enter Tryz.func4, Tryz.ntmps4
        go_wp2_with fail
        rw [← HW.out]
        refine HIS.out.mono ?_
        rintro e' w2 ⟨rfl, hk2⟩
        have HK2 := Lib.hid hk2
        clear hk2 HIS HW
        go_wp2_with fail
        go_loopw [7] (fun i wr => ∃ j : Nat, j ≤ R.size ∧ i = .int .i64 (j : Int) ∧ Hid (∀ c ∈ R.data.toList.take j, c ≠ 10) ∧ Hid (Kp No W0 wr)) (fun i _ => R.size - (intOf i).toNat)
        case atStart => exact ⟨0, Nat.zero_le _, rfl, Lib.hid (by simp), HK2⟩
        case round =>
          obtain ⟨j, hj, rfl, HJ, HKW⟩ := hrel
          have hr100 : R.size ≤ 100 := HKL.out.2.2
          by_cases hlt : j < R.size
          · obtain ⟨c, hc⟩ : ∃ c, R.data.toList[j]? = some c := ⟨R.data.toList[j]'hlt, List.getElem?_eq_getElem _⟩
            have hidx := fun W => str_index R j c hc W
            by_cases h10 : c = 10
            · subst h10
              have hidx' : ∀ W, (Instr.index 9 (.string R) (.int .i64 (j : Int))).run Tryz.prog W = .ok (.int .u8 10) W := hidx
              clear hc hidx
              go_wp2_with fail
              have HKX := Lib.hid (HK.out.trans_same HKW.out)
              refine (known_any _).mono ?_
              rintro e' wk ⟨rfl, hkk⟩
              have HKK := Lib.hid ((HKX.out).trans_same hkk)
              clear hkk
              go_wp2_with fail
              go_ret
              exact ⟨rfl, HKK.out⟩
            · have e7 : ((c.toNat : Int) == 10) = false := by
                rw [beq_eq_false_iff_ne]; intro h; exact h10 (UInt8.toNat_inj.1 (show c.toNat = 10 by omega))
              have HC := Lib.hid (And.intro hc h10)
              have hne : ¬ (c.toNat : Int) = 10 := fun h => h10 (UInt8.toNat_inj.1 (show c.toNat = 10 by omega))
              clear hc h10
              go_wp2_with fail
              go_roundw
              case rel =>
                refine ⟨j + 1, by omega, by go_num, Lib.hid ?_, HKW⟩
                intro x hx
                rw [List.take_add_one, HC.out.1] at hx
                rcases List.mem_append.1 hx with hx | hx
                · exact HJ.out x hx
                · obtain rfl : x = c := by simpa using hx
                  exact HC.out.2
              case measure => simp [intOf]; omega
          · obtain rfl : j = R.size := by omega
            have HNL := Lib.hid (show (10 : UInt8) ∉ R.data.toList from fun h => HJ.out 10 (by show (10 : UInt8) ∈ R.data.toList.take R.data.toList.length; rw [List.take_length]; exact h) rfl)
            clear HJ hlt hj
            have d0 := HC0.out wr HKW.out
            have d1 := HC1.out wr HKW.out
            have HO2 := Lib.hid (HOW.out wr HKW.out)
            clear HOW
            go_wp2_with fail
            refine HO2.out.mono ?_
            rintro e' w4 ⟨a', c', rfl, ho, _, hk4, hc'⟩
            have HO4 := Lib.hid ho
            have HK4 := Lib.hid (HKW.out.trans_same hk4)
            have HC4 := Lib.hid hc'
            clear ho hk4 hc' HO2 d0 d1
            go_wp2_with fail
            refine (HPR.out a' c' w4 HO4.out.rd' HC4.out (HT.out.keep (HK.out.trans_same HK4.out))).mono ?_
            rintro e' w5 ⟨rfl, hk5⟩
            have HK5 := Lib.hid (HK4.out.trans_same hk5)
            obtain ⟨S, hS⟩ : ∃ S : ByteArray, S = ⟨(textL L e).toArray⟩ := ⟨_, rfl⟩
            rw [← hS]
            have hSl : S.data.toList = textL L e := by rw [hS]
            have hs0 : 0 < S.size := by
              have : S.data.toList.length = (textL L e).length := by rw [hSl]
              have h2 : (textL L e).length = (rowsL L L.length ++ endL e).length := by rw [rowsL_all]
              rw [List.length_append, endL_len] at h2
              show 0 < S.data.toList.length
              omega
            have hs1 : S.size ≤ 1619 := by
              have : S.data.toList.length = (textL L e).length := by rw [hSl]
              have h3 := textL_len HIF.out
              show S.data.toList.length ≤ 1619
              omega
            have hsz : ((S.size : Int) == 0) = false := by rw [beq_eq_false_iff_ne]; omega
            have hsz' : ¬ (S.size : Int) = 0 := by omega
            obtain ⟨v1, hv1⟩ := low_1023 m
            obtain ⟨n, hn, hw2, hq1, hq2, hz1, hz2⟩ := whichG v1 K HKL.out.2.1
            obtain ⟨K2, hK2⟩ : ∃ K2, K2 = K + 2 := ⟨_, rfl⟩
            rw [← hK2] at hw2 hq1 hq2 hz1 hz2
            have HSL := Lib.hid hSl
            have HN := Lib.hid hn
            have d0 := HC0.out w5 HK5.out
            clear hK2 hk5 hS hSl hn HO4 HK4 HC4 HPR HT
            obtain ⟨P, hP⟩ : ∃ P, P = ((tabL L e).take n).flatten.length := ⟨_, rfl⟩
            have hpos : posF S.data.toList n 0 0 = P := by
              rw [HSL.out, textL, posF_flat _ _ _ (tabL_nl L e) (by
                unfold tabL
                rw [List.length_append, List.length_map, List.length_singleton, ← HKL.out.1]
                exact HN.out), hP, Nat.zero_add]
            have HPOS := Lib.hid hpos
            have HP := Lib.hid hP
            have HS1 := Lib.hid hs1
            clear hP hpos
            go_upto_block 2 with fail
            try rw [hw2]
            clear hw2 hq1 hq2 hz1 hz2 hv1
            go_cut [10, 11, 12] from 65 to 83 (fun s10 s11 s12 wx => s10 = .int .i64 (P : Int) ∧ w5 = wx)
            case first =>
              go_wp2_with fail
              go_loopw [10, 11, 12] (fun s10 s11 s12 wr => ∃ kk nn ii : Nat, ii ≤ S.size ∧ kk ≤ S.size ∧ nn ≤ n ∧ s10 = .int .i64 (kk : Int) ∧ s11 = .int .i64 (nn : Int) ∧ s12 = .int .i64 (ii : Int) ∧ w5 = wr ∧ Hid (posF (S.data.toList.drop ii) nn kk ii = P)) (fun _ _ s12 _ => S.size - (intOf s12).toNat)
              case atStart => exact ⟨0, n, 0, Nat.zero_le _, Nat.zero_le _, Nat.le_refl _, rfl, rfl, rfl, rfl, HPOS⟩
              case round =>
                obtain ⟨kk, nn, ii, hii, hkk, hnn, rfl, rfl, rfl, rfl, HF⟩ := hrel
                rcases Nat.lt_or_ge ii S.size with hi | hi
                · obtain ⟨c, hc⟩ : ∃ c, S.data.toList[ii]? = some c := ⟨S.data.toList[ii]'hi, List.getElem?_eq_getElem _⟩
                  have hdr : S.data.toList.drop ii = c :: S.data.toList.drop (ii + 1) := by
                    have := List.getElem?_eq_some_iff.1 hc
                    rw [← this.2]
                    exact List.drop_eq_getElem_cons this.1
                  have hidx := fun W => str_index S ii c hc W
                  have hf := HF.out
                  rw [hdr, posF] at hf
                  rcases (show nn = 0 ∨ ∃ q, nn = q + 1 from by cases nn with | zero => exact .inl rfl | succ q => exact .inr ⟨q, rfl⟩) with rfl | ⟨q, rfl⟩
                  · rw [if_pos rfl] at hf
                    have HKP := Lib.hid hf
                    clear hf hdr hc hidx
                    go_wp2_with fail
                    go_meet
                    case rel => exact ⟨by rw [HKP.out], rfl⟩
                  · rw [if_neg (by omega)] at hf
                    have hq0 : decide ((0 : Int) < ((q + 1 : Nat) : Int)) = true := by rw [decide_eq_true_iff]; omega
                    have hqn : q ≤ 101 := by have := HN.out; have := HKL.out.2.1; omega
                    by_cases h10 : c = 10
                    · subst h10
                      rw [if_pos rfl, Nat.add_sub_cancel] at hf
                      have hidx' : ∀ W, (Instr.index 9 (.string S) (.int .i64 (ii : Int))).run Tryz.prog W = .ok (.int .u8 10) W := hidx
                      have HFF := Lib.hid hf
                      clear hf hdr hc hidx
                      go_wp2_with fail
                      go_roundw
                      case rel => exact ⟨ii + 1, q, ii + 1, by omega, by omega, by omega, by go_num, by go_num, by go_num, trivial, HFF⟩
                      case measure => simp [intOf]; omega
                    · rw [if_neg h10] at hf
                      have e7 : ((c.toNat : Int) == 10) = false := by
                        rw [beq_eq_false_iff_ne]; intro h; exact h10 (UInt8.toNat_inj.1 (show c.toNat = 10 by omega))
                      have hne : ¬ (c.toNat : Int) = 10 := fun h => h10 (UInt8.toNat_inj.1 (show c.toNat = 10 by omega))
                      have HFF := Lib.hid hf
                      clear hf hdr hc h10
                      go_wp2_with fail
                      go_roundw
                      case rel => exact ⟨kk, q + 1, ii + 1, by omega, by omega, by omega, by go_num, by go_num, by go_num, trivial, HFF⟩
                      case measure => simp [intOf]; omega
                · obtain rfl : ii = S.size := by omega
                  have hf := HF.out
                  rw [List.drop_of_length_le (show S.data.toList.length ≤ S.size from Nat.le_refl _), posF] at hf
                  have HKP := Lib.hid hf
                  clear hf
                  go_wp2_with fail
                  go_meet
                  case rel => exact ⟨by rw [HKP.out], rfl⟩
            obtain ⟨rfl, rfl⟩ := hcut
            clear d0
            have hPS : P ≤ S.size := by
              rw [HP.out]
              have h1 := pre_len (tabL L e) n
              have h2 : S.size = (tabL L e).flatten.length := congrArg List.length HSL.out
              omega
            have hc1 := cat_rem S R P n (tabL L e) HSL.out HP.out
            have hc2 := cat_wrong S P n (tabL L e) HSL.out HP.out
            have hl1 := (ins_len (tabL L e) n R.data.toList).1
            have hl2 := (ins_len (tabL L e) n []).2
            have hS2 : S.size = (tabL L e).flatten.length := congrArg List.length HSL.out
            obtain ⟨X1, hX1⟩ : ∃ X, X = S.extract 0 P := ⟨_, rfl⟩
            obtain ⟨X2, hX2⟩ : ∃ X, X = S.extract P S.size := ⟨_, rfl⟩
            have sx1 : X1.size ≤ 1619 := by rw [hX1, ByteArray.size_extract]; have := HS1.out; omega
            have sx2 : X2.size ≤ 1619 := by rw [hX2, ByteArray.size_extract]; have := HS1.out; omega
            have sR : R.size ≤ 100 := HKL.out.2.2
            rw [← hX1, ← hX2] at hc1 hc2
            obtain ⟨Y1, hY1⟩ : ∃ Y, Y = X1 ++ ⟨#[35]⟩ ++ R ++ ⟨#[10, 10]⟩ ++ X2 := ⟨_, rfl⟩
            obtain ⟨Y2, hY2⟩ : ∃ Y, Y = X1 ++ ⟨#[10, 119, 114, 111, 110, 103, 10]⟩ ++ X2 := ⟨_, rfl⟩
            rw [← hY1] at hc1
            rw [← hY2] at hc2
            have HP1 := Lib.hid (fun W => parse_rem HIF.out n R.data.toList HNL.out sR Y1 hc1 W)
            obtain ⟨y, hy2, hy200, hpw⟩ := parse_wrong HIF.out n
            have HP2 := Lib.hid (fun W => hpw Y2 hc2 W)
            have HY := Lib.hid (And.intro hY1 hY2)
            have HX := Lib.hid (And.intro hX1 hX2)
            have HPS := Lib.hid hPS
            have HL0 := Lib.hid (isF_pos HIF.out)
            clear hc1 hc2 hl1 hl2 hS2 hX1 hX2 hY1 hY2 hpw hPS
            obtain ⟨W5, hW5⟩ : ∃ W, W = w5 := ⟨_, rfl⟩
            rw [← hW5] at HK5 ⊢
            clear hW5
            go_upto_region 19 with fail
            go_cut [13, 14, 15] from 83 to 99 (fun s13 s14 s15 wx => ∃ (g : Nat) (a5 : Option Addr) (c5 : Nat), s13 = .pointer (some ⟨g, 0, none⟩) ∧ s14 = .int .i64 0 ∧ s15 = .int .i64 0 ∧ Hid (LP W5 L e g a5 K c5 wx))
            case first =>
              refine wp_region_tree (fun _ => True) [0,0,0,0,0,0,0,0,0,0,0,2,0,0,0,0,2,2,0,0] (.fork [0,1,2,3,4,5,6,7,8,9,10] 11 16 (.leaf [12,13,14,15,16,17,18,19]) (.leaf [11,12,13,14,15,17,18,19])) (by kernel_rfl) (by kernel_rfl) (fun _ _ _ => trivial) trivial ?_
              refine tree_fork ?_
              repeat (first
                | (apply wpOrd_skip rfl (by decide) rfl; (focus (go_simp; rfl)))
                | (apply wpOrd_pure rfl rfl rfl; (focus (intro _ _; go_simp; (try go_ints); rfl)); (focus (go_simp; rfl)))
                | (apply wpOrd_read rfl rfl rfl; (focus (intro _; go_simp; (try go_ints); rfl)); (focus (go_simp; rfl))))
              refine wpOrd_pure rfl rfl rfl (v := .string X1) ?_ rfl ?_
              · intro _ _
                rw [HX.out.1]
                have hsz := HPS.out
                go_simp
                (try (intro h; exact absurd (h (by omega)) (by omega)))
              refine wpOrd_pure rfl rfl rfl (v := .string (X1 ++ ⟨#[35]⟩)) ?_ rfl ?_
              · intro _ _
                go_simp
                try omega
              repeat (first
                | (apply wpOrd_skip rfl (by decide) rfl; (focus (go_simp; rfl)))
                | (apply wpOrd_pure rfl rfl rfl; (focus (intro _ _; go_simp; (try go_ints); rfl)); (focus (go_simp; rfl)))
                | (apply wpOrd_read rfl rfl rfl; (focus (intro _; go_simp; (try go_ints); rfl)); (focus (go_simp; rfl))))
              refine wpOrd_pure rfl rfl rfl (v := .string (X1 ++ ⟨#[35]⟩ ++ R)) ?_ rfl ?_
              · intro _ _
                go_simp
                try omega
              refine wpOrd_pure rfl rfl rfl (v := .string (X1 ++ ⟨#[35]⟩ ++ R ++ ⟨#[10, 10]⟩)) ?_ rfl ?_
              · intro _ _
                go_simp
                try omega
              repeat (first
                | (apply wpOrd_skip rfl (by decide) rfl; (focus (go_simp; rfl)))
                | (apply wpOrd_pure rfl rfl rfl; (focus (intro _ _; go_simp; (try go_ints); rfl)); (focus (go_simp; rfl)))
                | (apply wpOrd_read rfl rfl rfl; (focus (intro _; go_simp; (try go_ints); rfl)); (focus (go_simp; rfl))))
              refine wpOrd_pure rfl rfl rfl (v := .string X2) ?_ rfl ?_
              · intro _ _
                rw [HX.out.2]
                have hsz := HPS.out
                go_simp
                (try (intro h; exact absurd (h (by omega)) (by omega)))
              refine wpOrd_pure rfl rfl rfl (v := .string (X1 ++ ⟨#[35]⟩ ++ R ++ ⟨#[10, 10]⟩ ++ X2)) ?_ rfl ?_
              · intro _ _
                go_simp
                try omega
              rw [← HY.out.1]
              refine tree_both (fun _ => trivial) (fun n0 => ?_) (fun n0 => ?_)
              · refine wpOrd_eff rfl rfl (fun q => ?_)
                go_wp2_with fail
                refine (HP1.out _).mono ?_
                rintro e' w6 ⟨⟨a5, c5, rfl, hc5, hr5⟩, hk5⟩
                simp only [← HKL.out.1]
                have hk6 : Kp No W5 w6 := (((Kp.refl No W5).drewN _).trans_same hk5)
                clear hk5 hc5
                go_wp2_with fail
                refine tree_next (fun n1 => ?_)
                refine tree_leaf ?_
                repeat (first
                  | (apply wpOrd_skip rfl (by decide) rfl; (focus (go_simp; rfl)))
                  | (apply wpOrd_pure rfl rfl rfl; (focus (intro _ _; go_simp; (try go_ints); rfl)); (focus (go_simp; rfl)))
                  | (apply wpOrd_read rfl rfl rfl; (focus (intro _; go_simp; (try go_ints); rfl)); (focus (go_simp; rfl))))
                refine wpOrd_eff rfl rfl (fun q2 => ?_)
                go_wp2_with fail
                refine wpOrd_name (F := fun V => V.heap[w6.heap.size]? = some (.cells #[.slice none 0 0, .int .i64 0] 24 (0, 0)) ∧ Rd V w6.heap.size a5 (tbV L) ∧ Kp No W5 V) ?_ ⟨heap_alloc_new ((w6.drewN n1).drewN q2) _, Rd.keep (S := No) hr5 (((Kp.refl _ _).drewN (n1 + q2)).alloc _) (fun _ _ x => x), (hk6.drewN (n1 + q2)).alloc _⟩
                rintro V ⟨hv, hrv, hkv⟩
                have HV := Lib.hid hv
                have HRV := Lib.hid hrv
                have HKV := Lib.hid hkv
                clear hv hrv hkv
                refine wpOrd_eff rfl rfl (fun q3 => ?_)
                have c0 : (V.drewN q3).cell? ⟨w6.heap.size, 0, none⟩ = some (.slice none 0 0) := cell_at HV.out 0
                have c1 : (V.drewN q3).cell? ⟨w6.heap.size, 1, none⟩ = some (.int .i64 0) := cell_at HV.out 1
                have f0 : (V.drewN q3).frozen? ⟨w6.heap.size, 0, none⟩ = false := free_at HV.out 0
                have f1 : (V.drewN q3).frozen? ⟨w6.heap.size, 1, none⟩ = false := free_at HV.out 1
                go_wp2_with fail
                repeat (first
                  | (apply wpOrd_skip rfl (by decide) rfl; (focus (go_simp; rfl)))
                  | (apply wpOrd_pure rfl rfl rfl; (focus (intro _ _; go_simp; (try go_ints); rfl)); (focus (go_simp; rfl)))
                  | (apply wpOrd_read rfl rfl rfl; (focus (intro _; go_simp; (try go_ints); rfl)); (focus (go_simp; rfl))))
                refine wpOrd_nil (fun nq => ?_)
                clear c0 c1 f0 f1
                go_wp2_with fail
                have hlp := LP_of (c := c5) (K := K) (e := e) (V := V.drewN q3) HV.out HRV.out HL0.out (HKV.out.drewN q3) hk6.size
                go_meet
                case rel => exact ⟨_, a5, c5, rfl, rfl, rfl, Lib.hid ⟨hlp.1, hlp.2.1, hlp.2.2.drewN nq⟩⟩
              · refine wpOrd_eff rfl rfl (fun q => ?_)
                go_wp2_with fail
                refine tree_next (fun n1 => ?_)
                refine tree_leaf ?_
                refine wpOrd_name (F := fun V => V.heap[W5.heap.size]? = some (.cells #[.slice none 0 0, .int .i64 0] 24 (0, 0)) ∧ Kp No W5 V) ?_ ⟨heap_alloc_new (W5.drewN _) _, (((Kp.refl No W5).drewN _).alloc _).drewN n1⟩
                rintro V0 ⟨hv0, hkv0⟩
                refine wpOrd_eff rfl rfl (fun q2 => ?_)
                go_wp2_with fail
                refine (HP1.out _).mono ?_
                rintro e' w6 ⟨⟨a5, c5, rfl, hc5, hr5⟩, hk5⟩
                simp only [← HKL.out.1]
                have hk6 : Kp No W5 w6 := (hkv0.drewN q2).trans_same hk5
                have hv6 : w6.heap[W5.heap.size]? = some (.cells #[.slice none 0 0, .int .i64 0] 24 (0, 0)) := hk5.get (w := V0.drewN q2) hv0 (fun x => x)
                clear hk5 hc5 hv0 hkv0
                go_wp2_with fail
                repeat (first
                  | (apply wpOrd_skip rfl (by decide) rfl; (focus (go_simp; rfl)))
                  | (apply wpOrd_pure rfl rfl rfl; (focus (intro _ _; go_simp; (try go_ints); rfl)); (focus (go_simp; rfl)))
                  | (apply wpOrd_read rfl rfl rfl; (focus (intro _; go_simp; (try go_ints); rfl)); (focus (go_simp; rfl))))
                refine wpOrd_name (F := fun V => V.heap[W5.heap.size]? = some (.cells #[.slice none 0 0, .int .i64 0] 24 (0, 0)) ∧ Rd V w6.heap.size a5 (tbV L) ∧ Kp No W5 V) ?_ ⟨hv6, hr5, hk6⟩
                rintro V ⟨hv, hrv, hkv⟩
                have HV := Lib.hid hv
                have HRV := Lib.hid hrv
                have HKV := Lib.hid hkv
                clear hv hrv hkv
                refine wpOrd_eff rfl rfl (fun q3 => ?_)
                have c0 : (V.drewN q3).cell? ⟨W5.heap.size, 0, none⟩ = some (.slice none 0 0) := cell_at HV.out 0
                have c1 : (V.drewN q3).cell? ⟨W5.heap.size, 1, none⟩ = some (.int .i64 0) := cell_at HV.out 1
                have f0 : (V.drewN q3).frozen? ⟨W5.heap.size, 0, none⟩ = false := free_at HV.out 0
                have f1 : (V.drewN q3).frozen? ⟨W5.heap.size, 1, none⟩ = false := free_at HV.out 1
                go_wp2_with fail
                repeat (first
                  | (apply wpOrd_skip rfl (by decide) rfl; (focus (go_simp; rfl)))
                  | (apply wpOrd_pure rfl rfl rfl; (focus (intro _ _; go_simp; (try go_ints); rfl)); (focus (go_simp; rfl)))
                  | (apply wpOrd_read rfl rfl rfl; (focus (intro _; go_simp; (try go_ints); rfl)); (focus (go_simp; rfl))))
                refine wpOrd_nil (fun nq => ?_)
                clear c0 c1 f0 f1
                go_wp2_with fail
                have hlp := LP_of (c := c5) (K := K) (e := e) (V := V.drewN q3) HV.out HRV.out HL0.out (HKV.out.drewN q3) (Nat.le_refl _)
                go_meet
                case rel => exact ⟨_, a5, c5, rfl, rfl, rfl, Lib.hid ⟨hlp.1, hlp.2.1, hlp.2.2.drewN nq⟩⟩
            obtain ⟨g, a5, c5, rfl, rfl, rfl, HLP⟩ := hcut
            obtain ⟨W7, hW7⟩ : ∃ W, W = wc := ⟨_, rfl⟩
            rw [← hW7] at HLP ⊢
            clear hW7
            go_upto_region 20 with fail
            go_cut [16, 17, 18] from 99 to 112 (fun s16 s17 s18 wx => s17 = .int .i64 (y : Int) ∧ s18 = .int .i64 10 ∧ Hid (Kp No W7 wx))
            case first =>
              refine wp_region_tree (fun _ => True) [0,0,0,0,0,0,0,0,2,0,0,0,0,2,2,0,0] (.fork [0,1,2,3,4,5,6,7] 8 13 (.leaf [9,10,11,12,13,14,15,16]) (.leaf [8,9,10,11,12,14,15,16])) (by kernel_rfl) (by kernel_rfl) (fun _ _ _ => trivial) trivial ?_
              refine tree_fork ?_
              repeat (first
                | (apply wpOrd_skip rfl (by decide) rfl; (focus (go_simp; rfl)))
                | (apply wpOrd_pure rfl rfl rfl; (focus (intro _ _; go_simp; (try go_ints); rfl)); (focus (go_simp; rfl)))
                | (apply wpOrd_read rfl rfl rfl; (focus (intro _; go_simp; (try go_ints); rfl)); (focus (go_simp; rfl))))
              refine wpOrd_pure rfl rfl rfl (v := .string X1) ?_ rfl ?_
              · intro _ _
                rw [HX.out.1]
                have hsz := HPS.out
                go_simp
                (try (intro h; exact absurd (h (by omega)) (by omega)))
              refine wpOrd_pure rfl rfl rfl (v := .string (X1 ++ ⟨#[10, 119, 114, 111, 110, 103, 10]⟩)) ?_ rfl ?_
              · intro _ _
                go_simp
                try omega
              repeat (first
                | (apply wpOrd_skip rfl (by decide) rfl; (focus (go_simp; rfl)))
                | (apply wpOrd_pure rfl rfl rfl; (focus (intro _ _; go_simp; (try go_ints); rfl)); (focus (go_simp; rfl)))
                | (apply wpOrd_read rfl rfl rfl; (focus (intro _; go_simp; (try go_ints); rfl)); (focus (go_simp; rfl))))
              refine wpOrd_pure rfl rfl rfl (v := .string X2) ?_ rfl ?_
              · intro _ _
                rw [HX.out.2]
                have hsz := HPS.out
                go_simp
                (try (intro h; exact absurd (h (by omega)) (by omega)))
              refine wpOrd_pure rfl rfl rfl (v := .string (X1 ++ ⟨#[10, 119, 114, 111, 110, 103, 10]⟩ ++ X2)) ?_ rfl ?_
              · intro _ _
                go_simp
                try omega
              rw [← HY.out.2]
              refine tree_both (fun _ => trivial) (fun n0 => ?_) (fun n0 => ?_)
              · refine wpOrd_eff rfl rfl (fun q => ?_)
                go_wp2_with fail
                refine (HP2.out _).mono ?_
                rintro e' w8 ⟨⟨a6, c6, rfl, hc6, hr6⟩, hk5⟩
                simp only [List.length_nil]
                have hk6 : Kp No W7 w8 := (((Kp.refl No W7).drewN _).trans_same hk5)
                clear hk5 hc6 hr6
                go_wp2_with fail
                refine tree_next (fun n1 => ?_)
                refine tree_leaf ?_
                repeat (first
                  | (apply wpOrd_skip rfl (by decide) rfl; (focus (go_simp; rfl)))
                  | (apply wpOrd_pure rfl rfl rfl; (focus (intro _ _; go_simp; (try go_ints); rfl)); (focus (go_simp; rfl)))
                  | (apply wpOrd_read rfl rfl rfl; (focus (intro _; go_simp; (try go_ints); rfl)); (focus (go_simp; rfl))))
                refine wpOrd_eff rfl rfl (fun q2 => ?_)
                go_wp2_with fail
                refine wpOrd_name (F := fun V => V.heap[w8.heap.size]? = some (.cells #[.slice none 0 0, .int .i64 0] 24 (0, 0)) ∧ Kp No W7 V) ?_ ⟨heap_alloc_new ((w8.drewN n1).drewN q2) _, (hk6.drewN (n1 + q2)).alloc _⟩
                rintro V ⟨hv, hkv⟩
                have HV := Lib.hid hv
                have HKV := Lib.hid hkv
                clear hv hkv
                refine wpOrd_eff rfl rfl (fun q3 => ?_)
                have c0 : (V.drewN q3).cell? ⟨w8.heap.size, 0, none⟩ = some (.slice none 0 0) := cell_at HV.out 0
                have c1 : (V.drewN q3).cell? ⟨w8.heap.size, 1, none⟩ = some (.int .i64 0) := cell_at HV.out 1
                have f0 : (V.drewN q3).frozen? ⟨w8.heap.size, 0, none⟩ = false := free_at HV.out 0
                have f1 : (V.drewN q3).frozen? ⟨w8.heap.size, 1, none⟩ = false := free_at HV.out 1
                go_wp2_with fail
                repeat (first
                  | (apply wpOrd_skip rfl (by decide) rfl; (focus (go_simp; rfl)))
                  | (apply wpOrd_pure rfl rfl rfl; (focus (intro _ _; go_simp; (try go_ints); rfl)); (focus (go_simp; rfl)))
                  | (apply wpOrd_read rfl rfl rfl; (focus (intro _; go_simp; (try go_ints); rfl)); (focus (go_simp; rfl))))
                refine wpOrd_nil (fun nq => ?_)
                clear c0 c1 f0 f1
                go_wp2_with fail
                go_meet
                case rel => exact ⟨rfl, rfl, Lib.hid ((((HKV.out.drewN q3).setCell (p := ⟨w8.heap.size, 0, none⟩) (.inr hk6.size) _).setCell (p := ⟨w8.heap.size, 1, none⟩) (.inr hk6.size) _).drewN nq)⟩
              · refine wpOrd_eff rfl rfl (fun q => ?_)
                go_wp2_with fail
                refine tree_next (fun n1 => ?_)
                refine tree_leaf ?_
                refine wpOrd_name (F := fun V => V.heap[W7.heap.size]? = some (.cells #[.slice none 0 0, .int .i64 0] 24 (0, 0)) ∧ Kp No W7 V) ?_ ⟨heap_alloc_new (W7.drewN _) _, (((Kp.refl No W7).drewN _).alloc _).drewN n1⟩
                rintro V0 ⟨hv0, hkv0⟩
                refine wpOrd_eff rfl rfl (fun q2 => ?_)
                go_wp2_with fail
                refine (HP2.out _).mono ?_
                rintro e' w8 ⟨⟨a6, c6, rfl, hc6, hr6⟩, hk5⟩
                simp only [List.length_nil]
                have hk6 : Kp No W7 w8 := (hkv0.drewN q2).trans_same hk5
                have hv6 : w8.heap[W7.heap.size]? = some (.cells #[.slice none 0 0, .int .i64 0] 24 (0, 0)) := hk5.get (w := V0.drewN q2) hv0 (fun x => x)
                clear hk5 hc6 hr6 hv0 hkv0
                go_wp2_with fail
                repeat (first
                  | (apply wpOrd_skip rfl (by decide) rfl; (focus (go_simp; rfl)))
                  | (apply wpOrd_pure rfl rfl rfl; (focus (intro _ _; go_simp; (try go_ints); rfl)); (focus (go_simp; rfl)))
                  | (apply wpOrd_read rfl rfl rfl; (focus (intro _; go_simp; (try go_ints); rfl)); (focus (go_simp; rfl))))
                refine wpOrd_name (F := fun V => V.heap[W7.heap.size]? = some (.cells #[.slice none 0 0, .int .i64 0] 24 (0, 0)) ∧ Kp No W7 V) ?_ ⟨hv6, hk6⟩
                rintro V ⟨hv, hkv⟩
                have HV := Lib.hid hv
                have HKV := Lib.hid hkv
                clear hv hkv
                refine wpOrd_eff rfl rfl (fun q3 => ?_)
                have c0 : (V.drewN q3).cell? ⟨W7.heap.size, 0, none⟩ = some (.slice none 0 0) := cell_at HV.out 0
                have c1 : (V.drewN q3).cell? ⟨W7.heap.size, 1, none⟩ = some (.int .i64 0) := cell_at HV.out 1
                have f0 : (V.drewN q3).frozen? ⟨W7.heap.size, 0, none⟩ = false := free_at HV.out 0
                have f1 : (V.drewN q3).frozen? ⟨W7.heap.size, 1, none⟩ = false := free_at HV.out 1
                go_wp2_with fail
                repeat (first
                  | (apply wpOrd_skip rfl (by decide) rfl; (focus (go_simp; rfl)))
                  | (apply wpOrd_pure rfl rfl rfl; (focus (intro _ _; go_simp; (try go_ints); rfl)); (focus (go_simp; rfl)))
                  | (apply wpOrd_read rfl rfl rfl; (focus (intro _; go_simp; (try go_ints); rfl)); (focus (go_simp; rfl))))
                refine wpOrd_nil (fun nq => ?_)
                clear c0 c1 f0 f1
                go_wp2_with fail
                go_meet
                case rel => exact ⟨rfl, rfl, Lib.hid ((((HKV.out.drewN q3).setCell (p := ⟨W7.heap.size, 0, none⟩) (.inr (Nat.le_refl _)) _).setCell (p := ⟨W7.heap.size, 1, none⟩) (.inr (Nat.le_refl _)) _).drewN nq)⟩
            obtain ⟨rfl, rfl, HK7⟩ := hcut
            obtain ⟨W8, hW8⟩ : ∃ W, W = wc := ⟨_, rfl⟩
            rw [← hW8] at HK7 ⊢
            clear hW8
            have hk08 : Kp No W0 W8 := HK5.out.trans_same (HLP.out.2.2.trans_same HK7.out)
            have e0 := cell_at (HK7.out.get HLP.out.1 fun x => x) 0
            have e1 := cell_at (HK7.out.get HLP.out.1 fun x => x) 1
            have d0 := HC0.out W8 hk08
            have d1 := HC1.out W8 hk08
            have HT8 := Lib.hid (HTS.out W8 a5 c5 _ (HLP.out.2.1.keep HK7.out fun _ _ x => x) hk08)
            have HK8 := Lib.hid (HK.out.trans_same hk08)
            have hy3 : decide ((2 : Int) ≤ (y : Int)) = true := by rw [decide_eq_true_iff]; omega
            have hy4 : decide (2 ≤ y) = true := decide_eq_true hy2
            clear hk08
            go_wp2_with fail
            refine HT8.out.mono ?_
            rintro e' w9 ⟨rfl, hk9⟩
            have HK9 := Lib.hid (HK8.out.trans_same hk9)
            clear hk9 d0 d1 e0 e1
            go_wp2_with fail
            refine (known_any _).mono ?_
            rintro e' wk ⟨rfl, hkk⟩
            have HKK := Lib.hid ((HK9.out).trans_same hkk)
            clear hkk
            go_wp2_with fail
            go_ret
            exact ⟨rfl, HKK.out⟩
end Go.Proofs.YtapikolgpmefbaaGreatDoor
