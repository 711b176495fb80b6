/-
  A date's count: cal's Days; the law's day.
-/
import Derived.Test.YtapikolgpmefbaaGreatDoorLIsD
namespace Go.Proofs.YtapikolgpmefbaaGreatDoor
open Go.RowKit Go.Mer

theorem isD_spec {y m d : Int} (h : isD y m d = true) : 1 ≤ y ∧ y ≤ 9999 ∧ 1 ≤ m ∧ m ≤ 12 ∧ 1 ≤ d ∧ d ≤ (monF y.toNat m.toNat : Int) := by
  unfold isD at h
  simp only [Bool.and_eq_true, decide_eq_true_iff] at h
  obtain ⟨⟨⟨⟨⟨a, b⟩, c⟩, e⟩, f⟩, g⟩ := h
  exact ⟨a, b, c, e, f, g⟩
/-- A date's count, from 1970 on. -/
def daysF (y m d : Int) : Int := (yearZ (y.toNat - 1) + aheadF y.toNat m.toNat : Nat) + d - 1 - 719162
theorem aheadF_le (y : Nat) : ∀ m, aheadF y m ≤ 31 * m := by
  intro m
  induction m using Nat.strongRecOn with
  | _ m ih =>
    match m with
    | 0 => simp [aheadF]
    | 1 => simp [aheadF]
    | k + 2 =>
      have h1 := ih (k + 1) (by omega)
      have h2 := (monF_pos y (k + 1)).2
      rw [aheadF]
      omega
theorem aheadF_succ (y k : Nat) (hk : 1 ≤ k) : aheadF y (k + 1) = aheadF y k + monF y k := by
  obtain ⟨j, rfl⟩ : ∃ j, k = j + 1 := ⟨k - 1, by omega⟩
  rfl
theorem yearZ_bound (z : Nat) (h : z ≤ 9998) : yearZ z ≤ 3652059 := by unfold yearZ; omega
theorem daysG (z d : Nat) (hz : z ≤ 9998) (hd : d ≤ 31) : ∃ q4 q100 q400 a1 a2 a3 a4 : Nat, ∃ a5 a6 a7 : Int,
    wrap64 ((z : Int) * 365) = (a1 : Int) ∧ (z : Int).tdiv 4 = (q4 : Int) ∧ (z : Int).tdiv 100 = (q100 : Int) ∧ (z : Int).tdiv 400 = (q400 : Int) ∧
    wrap64 (q4 : Int) = (q4 : Int) ∧ wrap64 (q100 : Int) = (q100 : Int) ∧ wrap64 (q400 : Int) = (q400 : Int) ∧
    wrap64 ((a1 : Int) + (q4 : Int)) = (a2 : Int) ∧ wrap64 ((a2 : Int) - (q100 : Int)) = (a3 : Int) ∧ wrap64 ((a3 : Int) + (q400 : Int)) = (a4 : Int) ∧
    wrap64 ((a4 : Int) - 719162) = a5 ∧ wrap64 (a5 + (d : Int)) = a6 ∧ wrap64 (a6 - 1) = a7 ∧ a7 = (yearZ z : Int) + d - 1 - 719162 := by
  refine ⟨z / 4, z / 100, z / 400, z * 365, z * 365 + z / 4, z * 365 + z / 4 - z / 100, z * 365 + z / 4 - z / 100 + z / 400, ((z * 365 + z / 4 - z / 100 + z / 400 : Nat) : Int) - 719162, ((z * 365 + z / 4 - z / 100 + z / 400 : Nat) : Int) - 719162 + d, ((z * 365 + z / 4 - z / 100 + z / 400 : Nat) : Int) - 719162 + d - 1, ?_, ?_, ?_, ?_, ?_, ?_, ?_, ?_, ?_, ?_, ?_, ?_, ?_, ?_⟩
  · rw [IntWalk.wrap64_in _ (by omega)]; omega
  · rw [Int.tdiv_eq_ediv_of_nonneg (by omega)]; omega
  · rw [Int.tdiv_eq_ediv_of_nonneg (by omega)]; omega
  · rw [Int.tdiv_eq_ediv_of_nonneg (by omega)]; omega
  · exact IntWalk.wrap64_in _ (by omega)
  · exact IntWalk.wrap64_in _ (by omega)
  · exact IntWalk.wrap64_in _ (by omega)
  · rw [IntWalk.wrap64_in _ (by omega)]; omega
  · rw [IntWalk.wrap64_in _ (by omega)]; omega
  · rw [IntWalk.wrap64_in _ (by omega)]; omega
  · exact IntWalk.wrap64_in _ (by omega)
  · exact IntWalk.wrap64_in _ (by omega)
  · exact IntWalk.wrap64_in _ (by omega)
  · unfold yearZ; omega
set_option maxHeartbeats 2000000 in
theorem cDays_yes (y m d : Nat) (h : isD y m d = true) (w : World) : Calls Tryz.prog 47 #[.agg #[.int .i64 y, .int .i64 m, .int .i64 d]] w fun e w' => e = .returned (.tuple #[.int .i64 (daysF y m d), .int .i64 0]) ∧ Kp No w w' := by
  obtain ⟨h1, h2, h3, h4, h5, h6⟩ := isD_spec h
  have hml := (monF_pos y m).2
  simp only [Int.toNat_natCast] at h6
  obtain ⟨r, hr⟩ : ∃ r, r = daysF y m d := ⟨_, rfl⟩
  rw [← hr]
  obtain ⟨z, hz⟩ : ∃ z, z = y - 1 := ⟨_, rfl⟩
  have hzb := yearZ_bound z (by omega)
  have hIS := fun W => cIs_any y m d W
  rw [h] at hIS
  unfold dvI at hIS
  have HIS := Lib.hid hIS
  obtain ⟨q4, q100, q400, a1, a2, a3, a4, a5, a6, a7, e1, d4, d100, d400, w4, w100, w400, e2, e3, e4, e5, e6, e7, ha7⟩ := daysG z d (by omega) (by omega)
  have e0 : wrap64 ((y : Int) - 1) = (z : Int) := by clear e1 d4 d100 d400 w4 w100 w400 e2 e3 e4 e5 e6 e7 ha7; rw [IntWalk.wrap64_in _ (by omega)]; omega
  have HA7 := Lib.hid ha7
  have HAB := Lib.hid (show -800000 ≤ a7 ∧ a7 ≤ 4000000 by clear e1 d4 d100 d400 w4 w100 w400 e2 e3 e4 e5 e6 e7; omega)
  have HR := Lib.hid hr
  have HZ := Lib.hid hz
  have HYM := Lib.hid (And.intro h2 (And.intro h3 (And.intro h4 h6)))
  obtain ⟨W0, hW0⟩ : ∃ W0, W0 = w.alloc (.cells #[.int .i64 y, .int .i64 m, .int .i64 d] 66 (0, 0)) := ⟨_, rfl⟩
  have hb : W0.heap[w.heap.size]? = some (.cells #[.int .i64 y, .int .i64 m, .int .i64 d] 66 (0, 0)) := by rw [hW0]; exact heap_alloc_new w _
  have HK0 := Lib.hid (show Kp No w W0 by rw [hW0]; exact (Kp.refl _ _).alloc _)
  have HB := Lib.hid hb
  have HW := Lib.hid hW0
  clear hr hz hb hW0 h1 h2 h3 h4 h5 h6 hml hzb hIS ha7 h
  go_enter Tryz.func47, Tryz.ntmps47
  go_wp2_with fail
  rw [← HW.out]
  refine (HIS.out _).mono ?_
  rintro e w1 ⟨rfl, hk1⟩
  have hb1 := hk1.get HB.out fun x => x
  have c0 := cell_at hb1 0
  have c1 := cell_at hb1 1
  have c2 := cell_at hb1 2
  simp at c0 c1 c2
  have HB1 := Lib.hid hb1
  have HK1 := Lib.hid (HK0.out.trans_same hk1)
  clear hk1 hb1
  go_wp2_with fail
  rw [e7]
  have hy2 : y ≤ 20000 := by have := HYM.out; omega
  have HMON := Lib.hid (fun k (hk : 1 ≤ k ∧ k ≤ 12) W => month_any y k hy2 hk W)
  clear hy2
  clear e0 e1 d4 d100 d400 w4 w100 w400 e2 e3 e4 e5 e6 e7
  go_loopw [5, 6] (fun n i wr => ∃ k : Nat, 1 ≤ k ∧ k ≤ m ∧ i = .int .i64 (k : Int) ∧ n = .int .i64 (a7 + (aheadF y k : Int)) ∧ w1 = wr) (fun _ i _ => m - (intOf i).toNat)
  case atStart => exact ⟨1, by omega, by have := HYM.out; omega, rfl, by simp [aheadF], rfl⟩
  case round =>
    obtain ⟨k, hk1, hk, rfl, rfl, rfl⟩ := hrel
    obtain ⟨n, hn⟩ : ∃ n, n = a7 + (aheadF y k : Int) := ⟨_, rfl⟩
    have hab := aheadF_le y k
    rw [← hn]
    rcases Nat.lt_or_ge k m with hc | hc
    · have hkc : decide (k < m) = true := decide_eq_true hc
      have hmon := HMON.out k (by have := HYM.out; omega)
      have hst := aheadF_succ y k hk1
      obtain ⟨L, hL⟩ : ∃ L, L = monF y k := ⟨_, rfl⟩
      have hLb := (monF_pos y k).2
      rw [← hL] at hmon hst hLb
      have hw1 : wrap64 (n + (L : Int)) = a7 + (aheadF y (k + 1) : Int) := by rw [IntWalk.wrap64_in _ (by have := HAB.out; have := HYM.out; omega)]; omega
      have hwk : wrap64 ((k : Int) + 1) = ((k + 1 : Nat) : Int) := by rw [IntWalk.wrap64_in _ (by have := HYM.out; omega)]; push_cast; rfl
      have HW1 := Lib.hid hw1
      have HWK := Lib.hid hwk
      have HMN := Lib.hid hmon
      have HK1' := Lib.hid hk1
      clear hw1 hwk hmon hst hL hLb hab hn hk1
      go_wp2_with fail
      refine (HMN.out _).mono ?_
      rintro e w' ⟨rfl, rfl⟩
      go_wp2_with fail
      rw [HW1.out, HWK.out]
      go_round
      · exact ⟨k + 1, by omega, by omega, rfl, rfl, by first | rfl | trivial⟩
      · simp only [intOf, Int.toNat_natCast]; omega
    · obtain rfl : k = m := by omega
      clear hc hk hab hk1
      have hkc : decide (k < k) = false := by simp
      go_wp2_with fail
      refine bodyPost_ret (v := .tuple #[.int .i64 n, .int .i64 0]) (by simp [results, Tryz.results47, go_sem]) rfl ⟨?_, HK1.out⟩
      have e : n = r := by
        rw [HR.out, hn, HA7.out, daysF, HZ.out]
        simp only [Int.toNat_natCast]
        push_cast
        omega
      rw [e]
end Go.Proofs.YtapikolgpmefbaaGreatDoor
