/-
  Dates of any count; tables of leaps: their rows, what a table is that holds.
-/
import Derived.Test.YtapikolgpmefbaaGreatDoorLDate
namespace Go.Proofs.YtapikolgpmefbaaGreatDoor
open Go.RowKit Go.Mer

theorem inF_num {n : Int} (h : inF n = true) : ∃ N : Nat, N < 3652059 ∧ n = (N : Int) - 719162 ∧ (n + 719162).toNat = N := by
  unfold inF at h
  rw [Bool.and_eq_true, decide_eq_true_iff, decide_eq_true_iff] at h
  exact ⟨(n + 719162).toNat, by omega, by omega, rfl⟩
theorem Date_any (n : Int) (w : World) : Calls Tryz.prog 33 #[.int .i64 n] w fun e w' => e = .returned (dateV n) ∧ Kp No w w' := by
  unfold dateV
  by_cases h : inF n = true
  · rw [if_pos h]
    obtain ⟨N, h1, h2, h3⟩ := inF_num h
    rw [h3, h2]
    exact Date_yes N w h1
  · rw [if_neg h]
    exact Date_no n w (by simpa using h)
theorem rDate_any (n : Int) (w : World) : Calls Tryz.prog 36 #[.int .i64 n] w fun e w' => e = .returned (dateV n) ∧ Kp No w w' := by
  unfold dateV
  by_cases h : inF n = true
  · rw [if_pos h]
    obtain ⟨N, h1, h2, h3⟩ := inF_num h
    rw [h3, h2]
    exact rDate_yes N w h1
  · rw [if_neg h]
    exact rDate_no n w (by simpa using h)
/-- A table's cells. -/
def tbV : List (Int × Int) → List Value
  | [] => []
  | x :: r => .int .i64 x.1 :: .int .i64 x.2 :: tbV r
theorem tbV_length (L : List (Int × Int)) : (tbV L).length = 2 * L.length := by
  induction L with
  | nil => rfl
  | cons x r ih => simp only [tbV, List.length_cons, ih]; omega
theorem tbV_at (L : List (Int × Int)) : ∀ (i : Nat) (x : Int × Int), L[i]? = some x → (tbV L)[2 * i]? = some (.int .i64 x.1) ∧ (tbV L)[2 * i + 1]? = some (.int .i64 x.2) := by
  induction L with
  | nil => intro i x h; simp at h
  | cons y r ih =>
    intro i x h
    cases i with
    | zero =>
      obtain rfl : y = x := by simpa using h
      exact ⟨rfl, rfl⟩
    | succ i =>
      have := ih i x (by simpa using h)
      exact this
theorem tbV_append (L R : List (Int × Int)) : tbV (L ++ R) = tbV L ++ tbV R := by
  induction L with
  | nil => rfl
  | cons x r ih => simp only [List.cons_append, tbV, ih]
/-- May a leap (day, offset) stand behind a table? -/
def followF (L : List (Int × Int)) (x : Int × Int) : Bool :=
  inF x.1 && decide (0 ≤ x.2) && decide (x.2 ≤ 1000) && decide (L.length < 100) &&
    match L.getLast? with
    | none => true
    | some y => decide (y.1 < x.1) && decide ((ymdF (x.1 + 719162).toNat).2.2 = 1) && (decide (x.2 = y.2 + 1) || decide (x.2 = y.2 - 1))
/-- Every leap of a table follows those ahead of it. -/
def leapsF : List (Int × Int) → List (Int × Int) → Bool
  | _, [] => true
  | L, x :: r => followF L x && leapsF (L ++ [x]) r
/-- Does a table end by a day? -/
def endsF (L : List (Int × Int)) (n : Int) : Bool :=
  inF n && match L.getLast? with
    | none => false
    | some y => decide (y.1 < n)
/-- Is it a table? -/
def isF (L : List (Int × Int)) (n : Int) : Bool := leapsF [] L && endsF L n
end Go.Proofs.YtapikolgpmefbaaGreatDoor
