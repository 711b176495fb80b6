/-
  A text's lines, as strings.Lines cuts them.
-/
import Derived.WalkKit
import Derived.Lib.Bytealg
import Derived.Lib.IndexLaws
namespace Go.Mer
open Go

/-- The first line, its end with it. -/
def lnHd : List UInt8 → List UInt8
  | [] => []
  | c :: r => if c = 10 then [c] else c :: lnHd r
/-- What stands behind the first line. -/
def lnTl : List UInt8 → List UInt8
  | [] => []
  | c :: r => if c = 10 then r else lnTl r
def linesOf : List UInt8 → List (List UInt8)
  | [] => []
  | c :: r => if c = 10 then [c] :: linesOf r else match linesOf r with
    | [] => [[c]]
    | h :: t => (c :: h) :: t
theorem linesOf_step (s : List UInt8) (hs : s ≠ []) : linesOf s = lnHd s :: linesOf (lnTl s) := by
  induction s with
  | nil => exact absurd rfl hs
  | cons c r ih =>
    rw [linesOf, lnHd, lnTl]
    by_cases hc : c = 10
    · simp only [if_pos hc]
    · rw [if_neg hc, if_neg hc, if_neg hc]
      cases r with
      | nil => simp [linesOf, lnHd, lnTl]
      | cons d q =>
        rw [ih (by simp)]
theorem lnTl_lt (s : List UInt8) (hs : s ≠ []) : (lnTl s).length < s.length := by
  induction s with
  | nil => exact absurd rfl hs
  | cons c r ih =>
    unfold lnTl
    split
    · simp
    · cases r with
      | nil => simp [lnTl]
      | cons d q => have := ih (by simp); simp only [List.length_cons] at this ⊢; omega
theorem lnHd_tl (s : List UInt8) : lnHd s ++ lnTl s = s := by
  induction s with
  | nil => rfl
  | cons c r ih =>
    unfold lnHd lnTl
    split
    · simp
    · simp [ih]
/-- What is left of a text when k lines are taken. -/
def restL (s : List UInt8) : Nat → List UInt8
  | 0 => s
  | k + 1 => lnTl (restL s k)
theorem restL_drop (s : List UInt8) : ∀ k, linesOf (restL s k) = (linesOf s).drop k := by
  intro k
  induction k with
  | zero => rfl
  | succ k ih =>
    rw [restL]
    by_cases h : restL s k = []
    · rw [h] at ih ⊢
      have : (linesOf s).drop k = [] := by rw [← ih]; rfl
      rw [show linesOf (lnTl []) = [] from rfl, List.drop_eq_nil_of_le]
      have := List.drop_eq_nil_iff.1 this
      omega
    · rw [linesOf_step _ h] at ih
      rw [← List.drop_drop, ← ih]
      rfl
theorem linesOf_get (s : List UInt8) (k : Nat) (h : restL s k ≠ []) : (linesOf s)[k]? = some (lnHd (restL s k)) := by
  have := restL_drop s k
  rw [linesOf_step _ h] at this
  rw [← List.head?_drop, ← this]
  rfl
theorem linesOf_end (s : List UInt8) (k : Nat) (hk : k ≤ (linesOf s).length) (h : restL s k = []) : k = (linesOf s).length := by
  have := restL_drop s k
  rw [h] at this
  have := List.drop_eq_nil_iff.1 this.symm
  omega
theorem restL_ne (s : List UInt8) (k : Nat) (h : restL s k ≠ []) : k < (linesOf s).length := by
  have := restL_drop s k
  rw [linesOf_step _ h] at this
  rcases Nat.lt_or_ge k (linesOf s).length with hc | hc
  · exact hc
  · rw [List.drop_eq_nil_of_le hc] at this
    cases this
theorem lnHd_index (s : List UInt8) : ∀ i : Nat, Lib.indexByte s 10 = (i : Int) → lnHd s = s.take (i + 1) ∧ lnTl s = s.drop (i + 1) := by
  induction s with
  | nil => intro i h; simp [Lib.indexByte] at h
  | cons c r ih =>
    intro i h
    unfold Lib.indexByte at h
    unfold lnHd lnTl
    by_cases hc : c = 10
    · rw [if_pos (by simpa using hc)] at h
      obtain rfl : i = 0 := by omega
      simp [hc]
    · rw [if_neg (by simpa using hc)] at h
      by_cases h1 : Lib.indexByte r 10 = -1
      · rw [if_pos (by simpa using h1)] at h; omega
      · rw [if_neg (by simpa using h1)] at h
        have hge := Lib.indexByte_ge r 10
        obtain ⟨j, hj⟩ : ∃ j : Nat, Lib.indexByte r 10 = (j : Int) := ⟨(Lib.indexByte r 10).toNat, by omega⟩
        obtain ⟨e1, e2⟩ := ih j hj
        obtain rfl : i = j + 1 := by omega
        simp [hc, e1, e2]
theorem lnHd_none (s : List UInt8) : Lib.indexByte s 10 = -1 → lnHd s = s ∧ lnTl s = [] := by
  induction s with
  | nil => intro _; exact ⟨rfl, rfl⟩
  | cons c r ih =>
    intro h
    unfold Lib.indexByte at h
    unfold lnHd lnTl
    by_cases hc : c = 10
    · rw [if_pos (by simpa using hc)] at h; omega
    · rw [if_neg (by simpa using hc)] at h
      by_cases h1 : Lib.indexByte r 10 = -1
      · obtain ⟨e1, e2⟩ := ih h1
        simp [hc, e1, e2]
      · rw [if_neg (by simpa using h1)] at h
        have := Lib.indexByte_ge r 10
        omega
def strV (l : List UInt8) : Value := .string ⟨l.toArray⟩
theorem ba_eq (B : ByteArray) (l : List UInt8) (h : B.data.toList = l) : B = ⟨l.toArray⟩ := by
  cases B with
  | mk d => simp at h; subst h; rfl
theorem extract_list (B : ByteArray) (i j : Nat) : (B.extract i j).data.toList = (B.data.toList.drop i).take (j - i) := by
  rw [ByteArray.data_extract, Array.toList_extract, List.extract_eq_take_drop]
end Go.Mer
