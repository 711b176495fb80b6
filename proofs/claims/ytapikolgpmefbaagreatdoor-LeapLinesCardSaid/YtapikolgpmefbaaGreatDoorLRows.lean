/-
  A table, row by row: when all its leaps follow.
-/
import Derived.Test.YtapikolgpmefbaaGreatDoorLTab
namespace Go.Proofs.YtapikolgpmefbaaGreatDoor
open Go.RowKit Go.Mer

theorem leapsF_iff (L : List (Int × Int)) : ∀ P : List (Int × Int), leapsF P L = true ↔ ∀ i x, L[i]? = some x → followF (P ++ L.take i) x = true := by
  induction L with
  | nil => intro P; simp [leapsF]
  | cons y r ih =>
    intro P
    simp only [leapsF, Bool.and_eq_true, ih]
    constructor
    · rintro ⟨h1, h2⟩ i x hx
      cases i with
      | zero =>
        obtain rfl : y = x := by simpa using hx
        simpa using h1
      | succ i =>
        have := h2 i x (by simpa using hx)
        simpa using this
    · intro h
      refine ⟨by simpa using h 0 y rfl, fun i x hx => ?_⟩
      have := h (i + 1) x (by simpa using hx)
      simpa using this
/-- A row that follows has an offset in bounds. -/
theorem followF_off {L : List (Int × Int)} {x : Int × Int} (h : followF L x = true) : inF x.1 = true ∧ 0 ≤ x.2 ∧ x.2 ≤ 1000 ∧ L.length < 100 := by
  unfold followF at h
  simp only [Bool.and_eq_true, decide_eq_true_iff] at h
  exact ⟨h.1.1.1.1, h.1.1.1.2, h.1.1.2, h.1.2⟩
/-- So far, every row follows. -/
def Fol (L : List (Int × Int)) (k : Nat) : Prop := ∀ i x, i < k → L[i]? = some x → followF (L.take i) x = true
theorem Fol.zero (L : List (Int × Int)) : Fol L 0 := fun _ _ h => absurd h (by omega)
theorem Fol.succ {L : List (Int × Int)} {k : Nat} (h : Fol L k) {x : Int × Int} (hx : L[k]? = some x) (hf : followF (L.take k) x = true) : Fol L (k + 1) := fun i y hi hy => by
  rcases Nat.lt_or_ge i k with hc | hc
  · exact h i y hc hy
  · obtain rfl : i = k := by omega
    rw [hx] at hy
    obtain rfl : x = y := by simpa using hy
    exact hf
theorem Fol.all {L : List (Int × Int)} (h : Fol L L.length) : leapsF [] L = true := by
  rw [leapsF_iff]
  intro i x hx
  rw [List.nil_append]
  exact h i x (List.getElem?_eq_some_iff.1 hx).1 hx
theorem Fol.no {L : List (Int × Int)} {k : Nat} {x : Int × Int} (hx : L[k]? = some x) (hf : followF (L.take k) x = false) : leapsF [] L = false := by
  rw [← Bool.not_eq_true, leapsF_iff]
  intro h
  have := h k x hx
  rw [List.nil_append, hf] at this
  exact absurd this (by decide)
/-- What the row ahead of one is. -/
theorem Fol.last {L : List (Int × Int)} {k : Nat} (h : Fol L k) : ∀ y, (L.take k).getLast? = some y → 0 ≤ y.2 ∧ y.2 ≤ 1000 := by
  intro y hy
  have hm := List.mem_of_getLast? hy
  obtain ⟨i, hi⟩ := List.mem_iff_getElem?.1 hm
  have hlt := (List.getElem?_eq_some_iff.1 hi).1
  rw [List.length_take] at hlt
  rw [List.getElem?_take] at hi
  split at hi
  · have := followF_off (h i y (by omega) hi)
    exact ⟨this.2.1, this.2.2.1⟩
  · simp at hi
end Go.Proofs.YtapikolgpmefbaaGreatDoor
