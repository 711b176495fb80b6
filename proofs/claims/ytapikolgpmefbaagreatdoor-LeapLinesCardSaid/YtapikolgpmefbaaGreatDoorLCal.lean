/-
  The calendar's plain mathematics: years' first days, months' lengths, a count's date.
-/
import Derived.WalkKit
namespace Go.Mer
open Go

/-- Days ahead of the year z + 1. -/
def yearZ (z : Nat) : Nat := 365 * z + z / 4 - z / 100 + z / 400
theorem yearZ_step (z : Nat) : yearZ z + 365 ≤ yearZ (z + 1) ∧ yearZ (z + 1) ≤ yearZ z + 366 := by
  unfold yearZ
  omega
theorem yearZ_mono {a b : Nat} (h : a ≤ b) : yearZ a ≤ yearZ b := by
  induction b with
  | zero => obtain rfl : a = 0 := by omega
            exact Nat.le_refl _
  | succ b ih =>
    by_cases h1 : a = b + 1
    · subst h1; exact Nat.le_refl _
    · have := ih (by omega)
      have := (yearZ_step b).1
      omega
/-- The year that a count of days lies in, as the program finds it. -/
def calZ (N : Nat) : Nat :=
  let q := N / 146097
  let r := N % 146097
  let h := min 3 (r / 36524)
  let r2 := r - h * 36524
  let f := r2 / 1461
  let r3 := r2 % 1461
  400 * q + 100 * h + 4 * f + min 3 (r3 / 365)
theorem calZ_is (N : Nat) : yearZ (calZ N) ≤ N ∧ N < yearZ (calZ N + 1) := by
  unfold calZ
  simp only
  obtain ⟨q, hq⟩ : ∃ q, q = N / 146097 := ⟨_, rfl⟩
  obtain ⟨r, hr⟩ : ∃ r, r = N % 146097 := ⟨_, rfl⟩
  obtain ⟨h, hh⟩ : ∃ h, h = min 3 (r / 36524) := ⟨_, rfl⟩
  obtain ⟨r2, hr2⟩ : ∃ r2, r2 = r - h * 36524 := ⟨_, rfl⟩
  obtain ⟨f, hf⟩ : ∃ f, f = r2 / 1461 := ⟨_, rfl⟩
  obtain ⟨r3, hr3⟩ : ∃ r3, r3 = r2 % 1461 := ⟨_, rfl⟩
  obtain ⟨o, ho⟩ : ∃ o, o = min 3 (r3 / 365) := ⟨_, rfl⟩
  rw [← hq, ← hr, ← hh, ← hr2, ← hf, ← hr3, ← ho]
  have hN : N = 146097 * q + r := by omega
  have hr_ : r < 146097 := by omega
  have hh3 : h ≤ 3 := by omega
  have hr2b : r2 ≤ 36524 := by omega
  have hr2s : h < 3 → r2 < 36524 := by omega
  have hrr : r = h * 36524 + r2 := by omega
  have hf24 : f ≤ 24 := by omega
  have hr2f : r2 = 1461 * f + r3 := by omega
  have hr3b : r3 < 1461 := by omega
  have ho3 : o ≤ 3 := by omega
  have ho1 : o * 365 ≤ r3 := by omega
  have ho2 : o < 3 → r3 < (o + 1) * 365 := by omega
  obtain ⟨z, hz⟩ : ∃ z, z = 400 * q + 100 * h + 4 * f + o := ⟨_, rfl⟩
  rw [← hz]
  have e4 : z / 4 = 100 * q + 25 * h + f := by omega
  have e100 : z / 100 = 4 * q + h := by omega
  have e400 : z / 400 = q := by omega
  clear hq hr hh hr2 hf hr3 ho
  constructor
  · unfold yearZ
    rw [e4, e100, e400]
    omega
  · unfold yearZ
    by_cases hc : o < 3
    · have g4 : (z + 1) / 4 = z / 4 := by omega
      have g100 : (z + 1) / 100 = z / 100 := by omega
      have g400 : (z + 1) / 400 = z / 400 := by omega
      rw [g4, g100, g400, e4, e100, e400]
      have := ho2 hc
      omega
    · obtain rfl : o = 3 := by omega
      by_cases hc4 : f < 24
      · have g4 : (z + 1) / 4 = z / 4 + 1 := by omega
        have g100 : (z + 1) / 100 = z / 100 := by omega
        have g400 : (z + 1) / 400 = z / 400 := by omega
        rw [g4, g100, g400, e4, e100, e400]
        omega
      · obtain rfl : f = 24 := by omega
        by_cases hc5 : h < 3
        · have g4 : (z + 1) / 4 = z / 4 + 1 := by omega
          have g100 : (z + 1) / 100 = z / 100 + 1 := by omega
          have g400 : (z + 1) / 400 = z / 400 := by omega
          rw [g4, g100, g400, e4, e100, e400]
          have := hr2s hc5
          omega
        · obtain rfl : h = 3 := by omega
          have g4 : (z + 1) / 4 = z / 4 + 1 := by omega
          have g100 : (z + 1) / 100 = z / 100 + 1 := by omega
          have g400 : (z + 1) / 400 = z / 400 + 1 := by omega
          rw [g4, g100, g400, e4, e100, e400]
          omega
/-- There is but one such year. -/
theorem year_one {N a b : Nat} (h1 : yearZ a ≤ N) (h2 : N < yearZ (a + 1)) (h3 : yearZ b ≤ N) (h4 : N < yearZ (b + 1)) : a = b := by
  rcases Nat.lt_trichotomy a b with h | h | h
  · have := yearZ_mono (show a + 1 ≤ b from h)
    omega
  · exact h
  · have := yearZ_mono (show b + 1 ≤ a from h)
    omega
def leapZ (y : Nat) : Bool := decide (y % 4 = 0 ∧ (y % 100 ≠ 0 ∨ y % 400 = 0))
/-- How long a month is. -/
def monF (y m : Nat) : Nat := if m = 2 then (if leapZ y then 29 else 28) else if m = 4 ∨ m = 6 ∨ m = 9 ∨ m = 11 then 30 else 31
theorem monF_pos (y m : Nat) : 28 ≤ monF y m ∧ monF y m ≤ 31 := by
  unfold monF
  split
  · split <;> omega
  · split <;> omega
/-- From a month on: the month that a day lies in, and which of it. -/
def moF (y : Nat) : Nat → Nat → Nat → Nat × Nat
  | 0, m, n => (m, n)
  | fuel + 1, m, n => if monF y m ≤ n then moF y fuel (m + 1) (n - monF y m) else (m, n)
/-- Days of the year ahead of a month. -/
def aheadF (y : Nat) : Nat → Nat
  | 0 => 0
  | 1 => 0
  | m + 2 => aheadF y (m + 1) + monF y (m + 1)
theorem ahead_year (z : Nat) : aheadF (z + 1) 13 = yearZ (z + 1) - yearZ z := by
  have h := yearZ_step z
  have e : aheadF (z + 1) 13 = 365 + (if leapZ (z + 1) then 1 else 0) := by
    simp only [aheadF, monF]
    cases leapZ (z + 1) <;> simp
  rw [e]
  unfold yearZ at h ⊢
  unfold leapZ
  by_cases h4 : (z + 1) % 4 = 0
  · have g4 : (z + 1) / 4 = z / 4 + 1 := by omega
    by_cases h100 : (z + 1) % 100 = 0
    · have g100 : (z + 1) / 100 = z / 100 + 1 := by omega
      by_cases h400 : (z + 1) % 400 = 0
      · have g400 : (z + 1) / 400 = z / 400 + 1 := by omega
        simp [h4, h100, h400]
        omega
      · have g400 : (z + 1) / 400 = z / 400 := by omega
        simp [h4, h100, h400]
        omega
    · have g100 : (z + 1) / 100 = z / 100 := by omega
      have g400 : (z + 1) / 400 = z / 400 := by omega
      simp [h4, h100]
      omega
  · have g4 : (z + 1) / 4 = z / 4 := by omega
    have g100 : (z + 1) / 100 = z / 100 := by omega
    have g400 : (z + 1) / 400 = z / 400 := by omega
    simp [h4]
    omega
/-- A count's date: year, month, day. -/
def ymdF (N : Nat) : Nat × Nat × Nat := (calZ N + 1, (moF (calZ N + 1) 12 1 (N - yearZ (calZ N))).1, (moF (calZ N + 1) 12 1 (N - yearZ (calZ N))).2 + 1)
end Go.Mer
