/-
  The calendar's small functions: leap years, months' lengths, the days ahead of a year.
-/
import Derived.Test.YtapikolgpmefbaaGreatDoorRegion
import Derived.Test.YtapikolgpmefbaaGreatDoorLCal
import Derived.Test.YtapikolgpmefbaaGreatDoorMem
import Derived.Test.YtapikolgpmefbaaGreatDoorProg
namespace Go.Proofs.YtapikolgpmefbaaGreatDoor
open Go.RowKit Go.Mer

theorem isLeap_any (y : Nat) (hy : y ≤ 20000) (w : World) : Calls Tryz.prog 66 #[.int .i64 (y : Int)] w fun e w' => e = .returned (.bool (leapZ y)) ∧ w = w' := by
  obtain ⟨r, hr⟩ : ∃ r, r = leapZ y := ⟨_, rfl⟩
  rw [← hr]
  have HR := Lib.hid hr
  have HY := Lib.hid hy
  clear hr hy
  go_enter Tryz.func66, Tryz.ntmps66
  have hcast : ((y : Int) % 4 = 0 ↔ y % 4 = 0) ∧ ((y : Int) % 100 = 0 ↔ y % 100 = 0) ∧ ((y : Int) % 400 = 0 ↔ y % 400 = 0) := by omega
  have HC := Lib.hid hcast
  clear hcast
  go_wp2_with fail
  · go_ret
    refine ⟨?_, rfl⟩
    rename_i a b
    have hc := HC.out
    rw [HR.out]
    have ha := hc.1.mp a
    have hb := hc.2.1.mp b
    have e : ((y : Int) % 400 == 0) = leapZ y := by
      unfold leapZ
      rw [Bool.eq_iff_iff, beq_iff_eq, decide_eq_true_iff]
      omega
    rw [← e]
    rfl
  · go_ret
    refine ⟨?_, rfl⟩
    rename_i a b
    have hc := HC.out
    rw [HR.out]
    have e : true = leapZ y := by
      unfold leapZ
      rw [Bool.eq_iff_iff, decide_eq_true_iff]
      simp only [true_iff]
      omega
    rw [← e]
    rfl
  · go_ret
    refine ⟨?_, rfl⟩
    rename_i a
    have hc := HC.out
    rw [HR.out]
    have e : false = leapZ y := by
      unfold leapZ
      rw [Bool.eq_iff_iff, decide_eq_true_iff]
      simp only [Bool.false_eq_true, false_iff]
      omega
    rw [← e]
    rfl
/-- The number behind a year's first day, as the code counts it. -/
theorem yearW (z : Nat) (hz : z ≤ 20000) : wrap64 (wrap64 (wrap64 (wrap64 (365 * wrap64 ↑z) + wrap64 ((wrap64 ↑z).tdiv 4)) - wrap64 ((wrap64 ↑z).tdiv 100)) + wrap64 ((wrap64 ↑z).tdiv 400)) = (yearZ z : Int) := by
  have e0 : wrap64 (z : Int) = z := IntWalk.wrap64_in _ (by omega)
  rw [e0]
  have e1 : wrap64 (365 * (z : Int)) = 365 * (z : Int) := IntWalk.wrap64_in _ (by omega)
  have d4 : wrap64 ((z : Int).tdiv 4) = ((z / 4 : Nat) : Int) := by
    rw [show (z : Int).tdiv 4 = ((z / 4 : Nat) : Int) from rfl]
    exact IntWalk.wrap64_in _ (by omega)
  have d100 : wrap64 ((z : Int).tdiv 100) = ((z / 100 : Nat) : Int) := by
    rw [show (z : Int).tdiv 100 = ((z / 100 : Nat) : Int) from rfl]
    exact IntWalk.wrap64_in _ (by omega)
  have d400 : wrap64 ((z : Int).tdiv 400) = ((z / 400 : Nat) : Int) := by
    rw [show (z : Int).tdiv 400 = ((z / 400 : Nat) : Int) from rfl]
    exact IntWalk.wrap64_in _ (by omega)
  rw [e1, d4, d100, d400]
  rw [IntWalk.wrap64_in (365 * (z : Int) + ((z / 4 : Nat) : Int)) (by omega)]
  rw [IntWalk.wrap64_in (365 * (z : Int) + ((z / 4 : Nat) : Int) - ((z / 100 : Nat) : Int)) (by omega)]
  rw [IntWalk.wrap64_in (365 * (z : Int) + ((z / 4 : Nat) : Int) - ((z / 100 : Nat) : Int) + ((z / 400 : Nat) : Int)) (by omega)]
  unfold yearZ
  omega
theorem year_any (y : Nat) (hy : 1 ≤ y ∧ y ≤ 20000) (w : World) : Calls Tryz.prog 48 #[.int .i64 (y : Int)] w fun e w' => e = .returned (.int .i64 (yearZ (y - 1) : Int)) ∧ w = w' := by
  obtain ⟨z, rfl⟩ : ∃ z, y = z + 1 := ⟨y - 1, by omega⟩
  rw [show z + 1 - 1 = z by omega]
  have HW := Lib.hid (yearW z (by omega))
  clear hy
  go_enter Tryz.func48, Tryz.ntmps48
  go_wp2_with fail
  go_ret
  refine ⟨?_, rfl⟩
  rw [← HW.out]
  rfl
/-- cal's month. -/
theorem month_any (y m : Nat) (hy : y ≤ 20000) (hm : 1 ≤ m ∧ m ≤ 12) (w : World) : Calls Tryz.prog 50 #[.int .i64 (y : Int), .int .i64 (m : Int)] w fun e w' => e = .returned (.int .i64 (monF y m : Int)) ∧ w = w' := by
  obtain ⟨r, hr⟩ : ∃ r, r = monF y m := ⟨_, rfl⟩
  rw [← hr]
  have HR := Lib.hid hr
  have HC := Lib.hid (isLeap_any y hy)
  have hm12 : m = 1 ∨ m = 2 ∨ m = 3 ∨ m = 4 ∨ m = 5 ∨ m = 6 ∨ m = 7 ∨ m = 8 ∨ m = 9 ∨ m = 10 ∨ m = 11 ∨ m = 12 := by omega
  clear hr hy hm
  by_cases h2 : m = 2
  · subst h2
    clear hm12
    obtain ⟨b, hb⟩ : ∃ b, b = leapZ y := ⟨_, rfl⟩
    rw [← hb] at HC
    have HB := Lib.hid hb
    clear hb
    simp only [Int.cast_ofNat_Int]
    cases b with
    | true =>
      go_enter Tryz.func50, Tryz.ntmps50
      go_wp2_with fail
      refine (HC.out _).mono ?_
      rintro e w' ⟨rfl, rfl⟩
      go_wp2_with fail
      go_ret
      refine ⟨?_, rfl⟩
      rw [HR.out, monF, if_pos rfl, ← HB.out]
      rfl
    | false =>
      go_enter Tryz.func50, Tryz.ntmps50
      go_wp2_with fail
      refine (HC.out _).mono ?_
      rintro e w' ⟨rfl, rfl⟩
      go_wp2_with fail
      go_ret
      refine ⟨?_, rfl⟩
      rw [HR.out, monF, if_pos rfl, ← HB.out]
      rfl
  · rcases hm12 with rfl | rfl | rfl | rfl | rfl | rfl | rfl | rfl | rfl | rfl | rfl | rfl
    all_goals try exact absurd rfl h2
    all_goals
      clear h2
      simp only [Int.cast_ofNat_Int]
      go_enter Tryz.func50, Tryz.ntmps50
      go_wp2_with fail
      go_ret
      refine ⟨?_, rfl⟩
      rw [HR.out]
      rfl
/-- The reference's. -/
theorem Length_any (y m : Nat) (hm : 1 ≤ m ∧ m ≤ 12) (w : World) : Calls Tryz.prog 54 #[.int .i64 (y : Int), .int .i64 (m : Int)] w fun e w' => e = .returned (.int .i64 (monF y m : Int)) ∧ w = w' := by
  obtain ⟨r, hr⟩ : ∃ r, r = monF y m := ⟨_, rfl⟩
  rw [← hr]
  have HR := Lib.hid hr
  have hcast : ((y : Int) % 4 = 0 ↔ y % 4 = 0) ∧ ((y : Int) % 100 = 0 ↔ y % 100 = 0) ∧ ((y : Int) % 400 = 0 ↔ y % 400 = 0) := by omega
  have HC := Lib.hid hcast
  have hm12 : m = 1 ∨ m = 2 ∨ m = 3 ∨ m = 4 ∨ m = 5 ∨ m = 6 ∨ m = 7 ∨ m = 8 ∨ m = 9 ∨ m = 10 ∨ m = 11 ∨ m = 12 := by omega
  clear hr hm hcast
  by_cases h2 : m = 2
  · subst h2
    clear hm12
    simp only [Int.cast_ofNat_Int]
    have hleap : ∀ b : Bool, (b = true ↔ (y % 4 = 0 ∧ (y % 100 ≠ 0 ∨ y % 400 = 0))) → b = leapZ y := by
      intro b hb
      unfold leapZ
      rw [Bool.eq_iff_iff, decide_eq_true_iff]
      exact hb
    have HL := Lib.hid hleap
    clear hleap
    go_enter Tryz.func54, Tryz.ntmps54
    go_wp2_with fail
    all_goals
      go_ret
      refine ⟨?_, rfl⟩
      rw [HR.out, monF, if_pos rfl]
      try simp only [beq_iff_eq, beq_eq_false_iff_ne, ne_eq] at *
      first
        | (rw [← HL.out true (by simp only [true_iff]; omega)]; rfl)
        | (rw [← HL.out false (by simp only [Bool.false_eq_true, false_iff]; omega)]; rfl)
  · rcases hm12 with rfl | rfl | rfl | rfl | rfl | rfl | rfl | rfl | rfl | rfl | rfl | rfl
    all_goals try exact absurd rfl h2
    all_goals
      clear h2
      simp only [Int.cast_ofNat_Int]
      go_enter Tryz.func54, Tryz.ntmps54
      go_wp2_with fail
      go_ret
      refine ⟨?_, rfl⟩
      rw [HR.out]
      rfl
end Go.Proofs.YtapikolgpmefbaaGreatDoor
