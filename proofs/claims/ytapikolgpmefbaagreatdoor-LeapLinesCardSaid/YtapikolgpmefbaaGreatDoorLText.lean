/-
  A table's text, plainly: numbers, dates, rows; each line says what it was made of.
-/
import Derived.Test.YtapikolgpmefbaaGreatDoorLParse0
import Derived.Test.YtapikolgpmefbaaGreatDoorLRDate
import Derived.Lib.ItoaNum
namespace Go.Proofs.YtapikolgpmefbaaGreatDoor
open Go.RowKit Go.Mer

/-- So many decimal digits of a number. -/
def digL : Nat → Nat → List UInt8
  | _, 0 => []
  | n, k + 1 => digL (n / 10) k ++ [UInt8.ofNat (48 + n % 10)]
theorem digit_nat (n : Nat) : (UInt8.ofNat (48 + n % 10)).toNat = 48 + n % 10 := by
  rw [UInt8.toNat_ofNat']
  omega
theorem digit_is (n : Nat) : isDig (UInt8.ofNat (48 + n % 10)) = true := by
  unfold isDig
  rw [digit_nat, Bool.and_eq_true, decide_eq_true_iff, decide_eq_true_iff]
  omega
theorem decF_one (a : Nat) (c : UInt8) : decF a [c] = 10 * a + (c.toNat - 48) := by
  rw [decF_cons]
  rfl
theorem digL_length (k : Nat) : ∀ n, (digL n k).length = k := by
  induction k with
  | zero => intro n; rfl
  | succ k ih => intro n; rw [digL, List.length_append, ih]; rfl
theorem digL_dig (k : Nat) : ∀ n, (digL n k).all isDig = true := by
  induction k with
  | zero => intro n; rfl
  | succ k ih => intro n; rw [digL, List.all_append, ih]; rw [List.all_cons, digit_is]; rfl
theorem digL_num (k : Nat) : ∀ n, n < 10 ^ k → decF 0 (digL n k) = n := by
  induction k with
  | zero => intro n h; have : n = 0 := by simpa using h
            subst this; rfl
  | succ k ih =>
    intro n h
    rw [digL, decF_append, ih _ (by rw [Nat.pow_succ] at h; omega), decF_one, digit_nat]
    omega
theorem numF_digL (n k : Nat) (h : n < 10 ^ k) : numF (digL n k) = (n : Int) := by
  unfold numF
  rw [digL_dig, if_pos rfl, digL_num k n h]
theorem decD_step {u : Nat} (h : ¬ u < 10) : Lib.decDigits u = Lib.decDigits (u / 10) ++ [UInt8.ofNat (48 + u % 10)] := by
  rw [Lib.decDigits, dif_neg h]
theorem decD_small {u : Nat} (h : u < 10) : Lib.decDigits u = [UInt8.ofNat (48 + u % 10)] := by
  rw [Lib.decDigits, dif_pos h, Nat.mod_eq_of_lt h]
theorem dec_dig (u : Nat) : (Lib.decDigits u).all isDig = true := by
  induction u using Nat.strongRecOn with
  | _ u ih =>
    by_cases h : u < 10
    · rw [decD_small h]; rw [List.all_cons, digit_is]; rfl
    · rw [decD_step h, List.all_append, ih (u / 10) (by omega)]; rw [List.all_cons, digit_is]; rfl
theorem dec_num (u : Nat) : decF 0 (Lib.decDigits u) = u := by
  induction u using Nat.strongRecOn with
  | _ u ih =>
    by_cases h : u < 10
    · rw [decD_small h, decF_one, digit_nat]; omega
    · rw [decD_step h, decF_append, ih (u / 10) (by omega), decF_one, digit_nat]; omega
theorem dec_ne (u : Nat) : Lib.decDigits u ≠ [] := by
  by_cases h : u < 10
  · rw [decD_small h]; simp
  · rw [decD_step h]; simp
theorem dec_head (u : Nat) : (Lib.decDigits u).head? = some 48 → u = 0 := by
  induction u using Nat.strongRecOn with
  | _ u ih =>
    intro hh
    by_cases h : u < 10
    · rw [decD_small h] at hh
      have hh : UInt8.ofNat (48 + u % 10) = 48 := by simpa using hh
      have := congrArg UInt8.toNat hh
      rw [digit_nat] at this
      have h48 : (48 : UInt8).toNat = 48 := rfl
      omega
    · rw [decD_step h] at hh
      have h10 := ih (u / 10) (by omega)
      cases hc : Lib.decDigits (u / 10) with
      | nil => exact absurd hc (dec_ne _)
      | cons c t =>
        rw [hc] at hh h10
        have := h10 hh
        omega
theorem dec_isNum (u : Nat) : isNumF (Lib.decDigits u) = true := by
  unfold isNumF
  rw [dec_dig]
  have h1 : (Lib.decDigits u).isEmpty = false := by
    cases h : Lib.decDigits u with
    | nil => exact absurd h (dec_ne u)
    | cons _ _ => rfl
  rw [h1]
  by_cases h : (Lib.decDigits u).head? = some 48
  · have := dec_head u h
    subst this
    rw [decD_small (by decide)]
    rfl
  · simp [h]
theorem dec_len (k : Nat) : ∀ u, u < 10 ^ (k + 1) → (Lib.decDigits u).length ≤ k + 1 := by
  induction k with
  | zero => intro u h; rw [decD_small (by simpa using h)]; simp
  | succ k ih =>
    intro u h
    by_cases h1 : u < 10
    · rw [decD_small h1]; simp
    · rw [decD_step h1, List.length_append]
      have := ih (u / 10) (by rw [Nat.pow_succ] at h; omega)
      simp only [List.length_singleton]
      omega
/-- A date as text. -/
def dateL (y m d : Nat) : List UInt8 := digL y 4 ++ [45] ++ digL m 2 ++ [45] ++ digL d 2
theorem dateL_length (y m d : Nat) : (dateL y m d).length = 10 := by
  simp [dateL, digL_length]
theorem parseD_dateL (y m d : Nat) (h : isD y m d = true) : parseD (dateL y m d) = some ((y : Int), (m : Int), (d : Int)) := by
  have hd := h
  unfold isD at hd
  simp only [Bool.and_eq_true, decide_eq_true_iff] at hd
  obtain ⟨⟨⟨⟨⟨h1, h2⟩, h3⟩, h4⟩, h5⟩, h6⟩ := hd
  have hm := (monF_pos (y : Int).toNat (m : Int).toNat).2
  have ly := digL_length 4 y
  have lm := digL_length 2 m
  have ld := digL_length 2 d
  obtain ⟨Y, hY⟩ : ∃ Y, Y = digL y 4 := ⟨_, rfl⟩
  obtain ⟨M, hM⟩ : ∃ M, M = digL m 2 := ⟨_, rfl⟩
  obtain ⟨D, hD⟩ : ∃ D, D = digL d 2 := ⟨_, rfl⟩
  have nY : numF Y = (y : Int) := by rw [hY]; exact numF_digL y 4 (by omega)
  have nM : numF M = (m : Int) := by rw [hM]; exact numF_digL m 2 (by omega)
  have nD : numF D = (d : Int) := by rw [hD]; exact numF_digL d 2 (by omega)
  unfold dateL
  rw [← hY] at ly ⊢
  rw [← hM] at lm ⊢
  rw [← hD] at ld ⊢
  clear hY hM hD
  obtain ⟨a, b, c, e, rfl⟩ : ∃ a b c e, Y = [a, b, c, e] := by
    match Y, ly with
    | [a, b, c, e], _ => exact ⟨a, b, c, e, rfl⟩
  obtain ⟨f, g, rfl⟩ : ∃ f g, M = [f, g] := by
    match M, lm with
    | [f, g], _ => exact ⟨f, g, rfl⟩
  have hn : numsD ([a, b, c, e] ++ [45] ++ [f, g] ++ [45] ++ D) = ((y : Int), (m : Int), (d : Int)) := by
    unfold numsD
    rw [← nY, ← nM, ← nD]
    rfl
  unfold parseD
  rw [hn, if_pos ⟨by simp [ld], by simp, by simp, h⟩]
theorem DS.last {y R : Nat} {p : Nat × Nat} (hR : R < aheadF y 13) : ∀ (k m d : Nat), 12 - m = k → DS y R p m d → 1 ≤ p.1 ∧ p.1 ≤ 12 ∧ aheadF y p.1 + p.2 = R ∧ p.2 < monF y p.1 := by
  intro k
  induction k with
  | zero =>
    intro m d hk h
    rcases Nat.lt_or_ge d (monF y m) with hc | hc
    · rw [h.stop hc]
      exact ⟨h.1, h.2.1, h.2.2.1, hc⟩
    · have := (h.step hR hc).2.1
      omega
  | succ k ih =>
    intro m d hk h
    rcases Nat.lt_or_ge d (monF y m) with hc | hc
    · rw [h.stop hc]
      exact ⟨h.1, h.2.1, h.2.2.1, hc⟩
    · exact ih (m + 1) _ (by omega) (h.step hR hc)
theorem ymd_ok (N : Nat) (h : N < 3652059) : isD (ymdF N).1 (ymdF N).2.1 (ymdF N).2.2 = true ∧ daysF (ymdF N).1 (ymdF N).2.1 (ymdF N).2.2 = (N : Int) - 719162 := by
  obtain ⟨h1, h2, h3, h4⟩ := DS.last (rest_lt N) 11 1 _ rfl (DS.start (calZ N + 1) (N - yearZ (calZ N)))
  have hz := calZ_lt h
  have hy := (calZ_is N).1
  unfold ymdF
  simp only
  obtain ⟨p, hp⟩ : ∃ p, p = moF (calZ N + 1) 12 1 (N - yearZ (calZ N)) := ⟨_, rfl⟩
  rw [← hp] at h1 h2 h3 h4 ⊢
  refine ⟨?_, ?_⟩
  · unfold isD
    simp only [Bool.and_eq_true, decide_eq_true_iff, Int.toNat_natCast]
    omega
  · unfold daysF
    rw [Int.toNat_natCast, Int.toNat_natCast, Nat.add_sub_cancel]
    omega
end Go.Proofs.YtapikolgpmefbaaGreatDoor
