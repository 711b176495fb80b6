/-
  A table's days rise: which offset holds when.
-/
import Derived.Test.YtapikolgpmefbaaGreatDoorLLen
namespace Go.Proofs.YtapikolgpmefbaaGreatDoor
open Go.RowKit Go.Mer

/-- Of a table, each row's day lies behind that of the row ahead. -/
theorem leapsF_step {L : List (Int × Int)} (h : leapsF [] L = true) {i : Nat} {y x : Int × Int} (hy : L[i]? = some y) (hx : L[i + 1]? = some x) : y.1 < x.1 := by
  have h1 := (leapsF_iff L []).1 h (i + 1) x hx
  rw [List.nil_append] at h1
  have hlt := (List.getElem?_eq_some_iff.1 hx).1
  have hl : (L.take (i + 1)).getLast? = some y := by
    rw [List.getLast?_eq_getElem?, List.length_take, Nat.min_eq_left (by omega), Nat.add_sub_cancel, List.getElem?_take, if_pos (by omega), hy]
  unfold followF at h1
  rw [hl] at h1
  simp only [Bool.and_eq_true, decide_eq_true_iff] at h1
  exact h1.2.1.1
theorem leapsF_lt {L : List (Int × Int)} (h : leapsF [] L = true) {i : Nat} {y : Int × Int} (hy : L[i]? = some y) : ∀ (k : Nat) (x : Int × Int), L[i + 1 + k]? = some x → y.1 < x.1 := by
  intro k
  induction k with
  | zero => intro x hx; exact leapsF_step h hy hx
  | succ k ih =>
    intro x hx
    have hlt := (List.getElem?_eq_some_iff.1 hx).1
    obtain ⟨z, hz⟩ : ∃ z, L[i + 1 + k]? = some z := ⟨L[i + 1 + k]'(by omega), by simp⟩
    have h1 := ih z hz
    have h2 := leapsF_step h hz (show L[i + 1 + k + 1]? = some x from hx)
    omega
theorem offG_late (d : Int) (L : List (Int × Int)) (h : ∀ x ∈ L, d < x.1) : ∀ c, offG d c L = c := by
  induction L with
  | nil => intro c; rfl
  | cons x r ih =>
    intro c
    have hx := h x (List.mem_cons_self ..)
    rw [offG, if_neg (by omega)]
    exact ih (fun y hy => h y (List.mem_cons_of_mem _ hy)) c
/-- The offset that holds from one row's day on, ahead of the next one's. -/
theorem offF_row {L : List (Int × Int)} {e d : Int} (h : isF L e = true) {i : Nat} {y : Int × Int} (hy : L[i]? = some y) (h1 : y.1 ≤ d) (h2 : ∀ x, L[i + 1]? = some x → d < x.1) : offF L e d = y.2 := by
  unfold offF
  rw [if_pos h]
  unfold isF at h
  rw [Bool.and_eq_true] at h
  have hs : L = L.take (i + 1) ++ L.drop (i + 1) := (List.take_append_drop _ _).symm
  rw [show offG d (baseF L) L = offG d (baseF L) (L.take (i + 1) ++ L.drop (i + 1)) by rw [← hs], offG_append, offG_late]
  · rw [offG_step hy, if_pos h1]
  · intro x hx
    obtain ⟨k, hk⟩ := List.mem_iff_getElem?.1 hx
    rw [List.getElem?_drop] at hk
    cases k with
    | zero => exact h2 x hk
    | succ k =>
      have hlt := (List.getElem?_eq_some_iff.1 hk).1
      obtain ⟨z, hz⟩ : ∃ z, L[i + 1]? = some z := ⟨L[i + 1]'(by omega), by simp⟩
      have h3 := h2 z hz
      have h4 := leapsF_lt h.1 hz k x (by rw [show i + 1 + 1 + k = i + 1 + (k + 1) by omega]; exact hk)
      omega
/-- Ahead of the first row's day its offset holds, too. -/
theorem offF_first {L : List (Int × Int)} {e d : Int} (h : isF L e = true) {y : Int × Int} (hy : L[0]? = some y) (h1 : d ≤ y.1) : offF L e d = y.2 := by
  rcases Int.lt_or_le d y.1 with h2 | h2
  · unfold offF
    rw [if_pos h]
    unfold isF at h
    rw [Bool.and_eq_true] at h
    rw [offG_late]
    · cases L with
      | nil => cases hy
      | cons z r => obtain rfl : z = y := by simpa using hy
                    rfl
    · intro x hx
      obtain ⟨k, hk⟩ := List.mem_iff_getElem?.1 hx
      cases k with
      | zero => obtain rfl : y = x := by rw [hy] at hk; simpa using hk
                exact h2
      | succ k =>
        have := leapsF_lt h.1 hy k x (by rw [show 0 + 1 + k = k + 1 by omega]; exact hk)
        omega
  · obtain rfl : d = y.1 := by omega
    refine offF_row h hy (Int.le_refl _) fun x hx => ?_
    unfold isF at h
    rw [Bool.and_eq_true] at h
    exact leapsF_step h.1 hy hx
theorem offF_last {L : List (Int × Int)} {e d : Int} (h : isF L e = true) {n : Nat} {y : Int × Int} (hy : L[n]? = some y) (hn : L.length = n + 1) (h1 : y.1 ≤ d) : offF L e d = y.2 :=
  offF_row h hy h1 fun x hx => by
    have := (List.getElem?_eq_some_iff.1 hx).1
    omega
theorem isF_day {L : List (Int × Int)} {e : Int} (h : isF L e = true) {i : Nat} {y : Int × Int} (hy : L[i]? = some y) : -719162 ≤ y.1 ∧ y.1 < 2932897 ∧ 0 ≤ y.2 ∧ y.2 ≤ 1000 := by
  unfold isF at h
  rw [Bool.and_eq_true] at h
  obtain ⟨h1, h2, h3⟩ := leapsF_all h.1 y (List.mem_of_getElem? hy)
  unfold inF at h1
  rw [Bool.and_eq_true, decide_eq_true_iff, decide_eq_true_iff] at h1
  exact ⟨h1.1, h1.2, h2, h3⟩
end Go.Proofs.YtapikolgpmefbaaGreatDoor
