/-
  A date's count: the reference's; the law's day.
-/
import Derived.Test.YtapikolgpmefbaaGreatDoorLDays
namespace Go.Proofs.YtapikolgpmefbaaGreatDoor
open Go.RowKit Go.Mer

theorem rmonth_any (y m : Nat) (hm : 1 ≤ m ∧ m ≤ 12) (w : World) : Calls Tryz.prog 57 #[.int .i64 (y : Int), .int .i64 (m : Int)] w fun e w' => e = .returned (.int .i64 (aheadF y m : Int)) ∧ w = w' := by
  have HM := Lib.hid hm
  have HMON := Lib.hid (fun k (hk : 1 ≤ k ∧ k ≤ 12) W => Length_any y k hk W)
  clear hm
  go_enter Tryz.func57, Tryz.ntmps57
  go_wp2_with fail
  go_loopw [5, 6] (fun n i wr => ∃ k : Nat, 1 ≤ k ∧ k ≤ m ∧ i = .int .i64 (k : Int) ∧ n = .int .i64 (aheadF y k : Int) ∧ w = wr) (fun _ i _ => m - (intOf i).toNat)
  case atStart => exact ⟨1, by omega, HM.out.1, rfl, by simp [aheadF], rfl⟩
  case round =>
    obtain ⟨k, hk1, hk, rfl, rfl, rfl⟩ := hrel
    obtain ⟨n, hn⟩ : ∃ n, n = aheadF y k := ⟨_, rfl⟩
    have hab := aheadF_le y k
    rw [← hn] at hab
    rw [← hn]
    rcases Nat.lt_or_ge k m with hc | hc
    · have hkc : decide (k < m) = true := decide_eq_true hc
      have hmon := HMON.out k (by have := HM.out; omega)
      have hst := aheadF_succ y k hk1
      obtain ⟨L, hL⟩ : ∃ L, L = monF y k := ⟨_, rfl⟩
      have hLb := (monF_pos y k).2
      rw [← hL] at hmon hst hLb
      rw [← hn] at hst
      have hw1 : wrap64 ((n : Int) + (L : Int)) = (aheadF y (k + 1) : Int) := by rw [IntWalk.wrap64_in _ (by have := HM.out; omega)]; omega
      have hwk : wrap64 ((k : Int) + 1) = ((k + 1 : Nat) : Int) := by rw [IntWalk.wrap64_in _ (by have := HM.out; omega)]; push_cast; rfl
      have HW1 := Lib.hid hw1
      have HWK := Lib.hid hwk
      have HMN := Lib.hid hmon
      clear hw1 hwk hmon hst hL hLb hab hn hk1
      go_wp2_with fail
      refine (HMN.out _).mono ?_
      rintro e w' ⟨rfl, rfl⟩
      go_wp2_with fail
      rw [HW1.out, HWK.out]
      go_round
      · exact ⟨k + 1, by omega, by omega, rfl, rfl, by first | rfl | trivial⟩
      · simp only [intOf, Int.toNat_natCast]; omega
    · obtain rfl : k = m := by omega
      clear hc hk hab hk1
      have hkc : decide (k < k) = false := by simp
      go_wp2_with fail
      go_ret
      exact ⟨by rw [hn]; rfl, rfl⟩
theorem rcG (Y A d : Nat) (hY : Y ≤ 3652059) (hA : A ≤ 372) (hd : d ≤ 31) : ∃ s1 s2 : Nat, ∃ s3 r : Int, wrap64 ((Y : Int) + (A : Int)) = (s1 : Int) ∧ wrap64 ((s1 : Int) + (d : Int)) = (s2 : Int) ∧ wrap64 ((s2 : Int) - 1) = s3 ∧ wrap64 (s3 - 719162) = r ∧ r = ((Y + A : Nat) : Int) + d - 1 - 719162 := by
  refine ⟨Y + A, Y + A + d, ((Y + A + d : Nat) : Int) - 1, ((Y + A + d : Nat) : Int) - 1 - 719162, ?_, ?_, ?_, ?_, ?_⟩
  · rw [IntWalk.wrap64_in _ (by omega)]; omega
  · rw [IntWalk.wrap64_in _ (by omega)]; omega
  · exact IntWalk.wrap64_in _ (by omega)
  · exact IntWalk.wrap64_in _ (by omega)
  · omega
set_option maxHeartbeats 1000000 in
theorem rcDays_yes (y m d : Nat) (h : isD y m d = true) (w : World) : Calls Tryz.prog 38 #[.agg #[.int .i64 y, .int .i64 m, .int .i64 d]] w fun e w' => e = .returned (.tuple #[.int .i64 (daysF y m d), .int .i64 0]) ∧ Kp No w w' := by
  obtain ⟨h1, h2, h3, h4, h5, h6⟩ := isD_spec h
  have hml := (monF_pos y m).2
  simp only [Int.toNat_natCast] at h6
  obtain ⟨r, hr⟩ : ∃ r, r = daysF y m d := ⟨_, rfl⟩
  rw [← hr]
  have hzb := yearZ_bound (y - 1) (by omega)
  have hab := aheadF_le y m
  have hIS := fun W => rcIs_any y m d W
  rw [h] at hIS
  unfold dvI at hIS
  have HIS := Lib.hid hIS
  obtain ⟨Y, hY⟩ : ∃ Y, Y = yearZ (y - 1) := ⟨_, rfl⟩
  obtain ⟨A, hA⟩ : ∃ A, A = aheadF y m := ⟨_, rfl⟩
  have hyr := fun W => year_any y (by omega) W
  have hmo := fun W => rmonth_any y m (by omega) W
  rw [← hY] at hyr hzb
  rw [← hA] at hmo hab
  unfold daysF at hr
  simp only [Int.toNat_natCast] at hr
  rw [← hY, ← hA] at hr
  obtain ⟨s1, s2, s3, r', e1, e2, e3, e4, hr'⟩ := rcG Y A d hzb (by clear hr hY hA hIS HIS hyr hmo; omega) (by clear hr hY hA hIS HIS hyr hmo; omega)
  have hrr : r = r' := hr.trans hr'.symm
  subst hrr
  have HYR := Lib.hid hyr
  have HMO := Lib.hid hmo
  have HY7 := Lib.hid year_1970
  obtain ⟨W0, hW0⟩ : ∃ W0, W0 = w.alloc (.cells #[.int .i64 y, .int .i64 m, .int .i64 d] 66 (0, 0)) := ⟨_, rfl⟩
  have hb : W0.heap[w.heap.size]? = some (.cells #[.int .i64 y, .int .i64 m, .int .i64 d] 66 (0, 0)) := by rw [hW0]; exact heap_alloc_new w _
  have HK0 := Lib.hid (show Kp No w W0 by rw [hW0]; exact (Kp.refl _ _).alloc _)
  have HB := Lib.hid hb
  have HW := Lib.hid hW0
  clear hr hb hW0 h1 h2 h3 h4 h5 h6 hml hzb hab hIS hyr hmo hY hA hr' h
  go_enter Tryz.func38, Tryz.ntmps38
  go_wp2_with fail
  rw [← HW.out]
  refine (HIS.out _).mono ?_
  rintro e w1 ⟨rfl, hk1⟩
  have c0 : ∀ W, Kp No w1 W → W.cell? ⟨w.heap.size, 0, none⟩ = some (.int .i64 y) := fun W h => by rw [cell_at (h.get (hk1.get HB.out fun x => x) fun x => x)]; rfl
  have c1 : ∀ W, Kp No w1 W → W.cell? ⟨w.heap.size, 1, none⟩ = some (.int .i64 m) := fun W h => by rw [cell_at (h.get (hk1.get HB.out fun x => x) fun x => x)]; rfl
  have c2 : ∀ W, Kp No w1 W → W.cell? ⟨w.heap.size, 2, none⟩ = some (.int .i64 d) := fun W h => by rw [cell_at (h.get (hk1.get HB.out fun x => x) fun x => x)]; rfl
  have d0 := cell_at (hk1.get HB.out fun x => x) 0
  have d1 := cell_at (hk1.get HB.out fun x => x) 1
  have d2 := cell_at (hk1.get HB.out fun x => x) 2
  simp at d0 d1 d2
  have HK1 := Lib.hid (HK0.out.trans_same hk1)
  clear hk1
  go_wp2_with fail
  clear d0 d1 d2
  refine wp_region_held' (Kp No _) [0,0,2,0,0,0,0,2,0,0,0,0,0,2,0,0,0] [0,1,3,4,5,6,9,10,2,7,8,11,12,13,14,15,16] (by kernel_rfl) (by kernel_rfl) (fun _ n h => h.drewN n) (Kp.refl _ _) ?_
  repeat (first
    | (apply wpOrd_skip rfl (by decide) rfl; (focus (go_simp; rfl)))
    | (apply wpOrd_pure rfl rfl rfl; (focus (intro _ _; go_simp; (try go_ints); rfl)); (focus (go_simp; rfl)))
    | (apply wpOrd_read rfl rfl rfl; (focus (intro _; go_simp; (try go_ints); rfl)); (focus (go_simp; rfl))))
  refine wpOrd_eff rfl rfl (fun n1 => ?_)
  go_wp2_with fail
  refine (HYR.out _).mono ?_
  rintro e w2 ⟨rfl, rfl⟩
  go_wp2_with fail
  refine ⟨(Kp.refl _ _).drewN _, ?_⟩
  repeat (first
    | (apply wpOrd_skip rfl (by decide) rfl; (focus (go_simp; rfl)))
    | (apply wpOrd_pure rfl rfl rfl; (focus (intro _ _; go_simp; (try go_ints); rfl)); (focus (go_simp; rfl)))
    | (apply wpOrd_read rfl rfl rfl; (focus (intro _; go_simp; (try go_ints); rfl)); (focus (go_simp; rfl))))
  refine wpOrd_eff rfl rfl (fun n2 => ?_)
  go_wp2_with fail
  refine (HMO.out _).mono ?_
  rintro e w2 ⟨rfl, rfl⟩
  go_wp2_with fail
  refine ⟨(Kp.refl _ _).drewN _, ?_⟩
  repeat (first
    | (apply wpOrd_skip rfl (by decide) rfl; (focus (go_simp; rfl)))
    | (apply wpOrd_pure rfl rfl rfl; (focus (intro _ _; go_simp; (try go_ints); rfl)); (focus (go_simp; rfl)))
    | (apply wpOrd_read rfl rfl rfl; (focus (intro _; go_simp; (try go_ints); rfl)); (focus (go_simp; rfl))))
  refine wpOrd_eff rfl rfl (fun n3 => ?_)
  go_wp2_with fail
  refine (HY7.out _).mono ?_
  rintro e w2 ⟨rfl, rfl⟩
  go_wp2_with fail
  refine ⟨(Kp.refl _ _).drewN _, ?_⟩
  repeat (first
    | (apply wpOrd_skip rfl (by decide) rfl; (focus (go_simp; rfl)))
    | (apply wpOrd_pure rfl rfl rfl; (focus (intro _ _; go_simp; (try go_ints); rfl)); (focus (go_simp; rfl)))
    | (apply wpOrd_read rfl rfl rfl; (focus (intro _; go_simp; (try go_ints); rfl)); (focus (go_simp; rfl))))
  refine wpOrd_nil (fun nq => ?_)
  go_wp2_with fail
  exact bodyPost_ret (v := .tuple #[.int .i64 r, .int .i64 0]) (by simp [results, Tryz.results38, go_sem]) rfl ⟨rfl, (HK1.out.drewN _).drewN _⟩
theorem day_any (y m d : Nat) (h : isD y m d = true) (w : World) : Calls Tryz.prog 22 #[.int .i64 y, .int .i64 m, .int .i64 d] w fun e w' => e = .returned (.int .i64 (daysF y m d)) ∧ Kp No w w' := by
  have HD := Lib.hid (rcDays_yes y m d h w)
  go_enter Tryz.func22, Tryz.ntmps22
  go_wp2_with fail
  refine HD.out.mono ?_
  rintro e w2 ⟨rfl, hk⟩
  have HK := Lib.hid hk
  clear hk
  go_wp2_with fail
  go_ret
  exact ⟨rfl, HK.out⟩
end Go.Proofs.YtapikolgpmefbaaGreatDoor
