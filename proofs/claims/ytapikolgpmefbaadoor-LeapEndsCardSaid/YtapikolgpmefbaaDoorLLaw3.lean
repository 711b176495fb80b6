/-
  The law LeapEnds, of any table and days.
-/
import Derived.Test.YtapikolgpmefbaaDoorLKnown
import Derived.Test.YtapikolgpmefbaaDoorLSort
namespace Go.Proofs.YtapikolgpmefbaaDoor
open Go.RowKit Go.Mer

set_option maxRecDepth 10000 in
set_option maxHeartbeats 2000000 in
theorem Ends_law (w : World) (a : Option Addr) (cap : Nat) (L : List (Int × Int)) (e m : Int) (hR : Rd w w.heap.size a (tbV L)) (hl : L.length ≤ cap) :
    Calls Tryd.prog 6 #[.agg #[.slice a L.length cap, .int .i64 e], .int .i64 m] w fun e' w' => e' = .returned (.bool true) ∧ Kp No w w' := by
  obtain ⟨W0, hW0⟩ : ∃ W0, W0 = w.alloc (.cells #[.slice a L.length cap, .int .i64 e] 24 (0, 0)) := ⟨_, rfl⟩
  have hb : W0.heap[w.heap.size]? = some (.cells #[.slice a L.length cap, .int .i64 e] 24 (0, 0)) := by rw [hW0]; exact heap_alloc_new w _
  have hk0 : Kp No w W0 := by rw [hW0]; exact (Kp.refl _ _).alloc _
  have HK := Lib.hid hk0
  obtain ⟨K, hK⟩ : ∃ K, K = L.length := ⟨_, rfl⟩
  rcases Nat.lt_or_ge 100 K with h | h
  · have h1 : decide (100 < K) = true := decide_eq_true h
    have h2 : decide ((100 : Int) < (K : Int)) = true := by rw [decide_eq_true_iff]; omega
    rw [← hK] at hW0
    rw [← hK]
    have HW := Lib.hid hW0
    clear hW0 hk0 hR hb hl hK h
    go_enter Tryd.func6, Tryd.ntmps6
    go_wp2_with fail
    rw [← HW.out]
    go_wp2_with fail
    refine (known_any _).mono ?_
    rintro e' w3 ⟨rfl, hk3⟩
    have HK3 := Lib.hid (HK.out.trans_same hk3)
    clear hk3
    go_wp2_with fail
    go_ret
    exact ⟨rfl, HK3.out⟩
  · have h1 : decide (100 < K) = false := by rw [decide_eq_false_iff_not]; omega
    have h2 : decide ((100 : Int) < (K : Int)) = false := by rw [decide_eq_false_iff_not]; omega
    have HIS := Lib.hid (fun W (h' : Kp No W0 W) => rIs_any L e W a cap w.heap.size (hR.keep (hk0.trans_same h') fun _ _ x => x) (by omega))
    have HOF := Lib.hid (fun d W (h' : Kp No W0 W) => Offset_any L e d W a cap w.heap.size (hR.keep (hk0.trans_same h') fun _ _ x => x) (by omega) hl)
    have HLE := Lib.hid (fun d W (h' : Kp No W0 W) hd => Length_leap L e d W a cap w.heap.size (hR.keep (hk0.trans_same h') fun _ _ x => x) (by omega) hl hd)
    have HRD := Lib.hid (hR.keep hk0 fun _ _ x => x)
    rw [← hK] at HOF HLE HIS hW0 hb
    rw [← hK]
    have HW := Lib.hid hW0
    have HKL := Lib.hid hK
    have c0 : ∀ W, Kp No W0 W → W.cell? ⟨w.heap.size, 0, none⟩ = some (.slice a K cap) := fun W h => by rw [cell_at (h.get hb fun x => x)]; rfl
    have c1 : ∀ W, Kp No W0 W → W.cell? ⟨w.heap.size, 1, none⟩ = some (.int .i64 e) := fun W h => by rw [cell_at (h.get hb fun x => x)]; rfl
    have d0 := cell_at hb 0
    have d1 := cell_at hb 1
    simp at d0 d1
    have HCAP := Lib.hid hl
    clear hW0 hk0 hR hl hb hK
    rcases Int.lt_or_le m 0 with hm | hm
    · have g2 : decide (m < 0) = true := decide_eq_true hm
      clear hm
      go_enter Tryd.func6, Tryd.ntmps6
      go_wp2_with fail
      rw [← HW.out]
      go_wp2_with fail
      refine (known_any _).mono ?_
      rintro e' w3 ⟨rfl, hk3⟩
      have HK3 := Lib.hid (HK.out.trans_same hk3)
      clear hk3
      go_wp2_with fail
      go_ret
      exact ⟨rfl, HK3.out⟩
    · have g2 : decide (m < 0) = false := by rw [decide_eq_false_iff_not]; omega
      rcases Int.lt_or_le 1099511627776 m with hm2 | hm2
      · have g3 : decide (1099511627776 < m) = true := decide_eq_true hm2
        clear hm hm2
        go_enter Tryd.func6, Tryd.ntmps6
        go_wp2_with fail
        rw [← HW.out]
        go_wp2_with fail
        refine (known_any _).mono ?_
        rintro e' w3 ⟨rfl, hk3⟩
        have HK3 := Lib.hid (HK.out.trans_same hk3)
        clear hk3
        go_wp2_with fail
        go_ret
        exact ⟨rfl, HK3.out⟩
      · have g3 : decide (1099511627776 < m) = false := by rw [decide_eq_false_iff_not]; omega
        cases hif : isF L e with
        | false =>
          rw [hif] at HIS
          clear hm hm2 hif
          go_enter Tryd.func6, Tryd.ntmps6
          go_wp2_with fail
          rw [← HW.out]
          go_wp2_with fail
          refine (HIS.out _ (Kp.refl _ _)).mono ?_
          rintro e' w2 ⟨rfl, hk2⟩
          have HK2 := Lib.hid (HK.out.trans_same hk2)
          clear hk2
          go_wp2_with fail
          refine (known_any _).mono ?_
          rintro e' w3 ⟨rfl, hk3⟩
          have HK3 := Lib.hid (HK2.out.trans_same hk3)
          clear hk3
          go_wp2_with fail
          go_ret
          exact ⟨rfl, HK3.out⟩
        | true =>
          have hp := isF_pos hif
          rw [← HKL.out] at hp
          obtain ⟨j, hj⟩ : ∃ j, j = K - 1 := ⟨_, rfl⟩
          obtain ⟨y, hy⟩ : ∃ y, L[0]? = some y := ⟨L[0]'(by rw [← HKL.out]; omega), by simp⟩
          obtain ⟨z, hz⟩ : ∃ z, L[j]? = some z := ⟨L[j]'(by rw [← HKL.out]; omega), by simp⟩
          have by1 := isF_day hif hy
          have bz1 := isF_day hif hz
          have hL1 : L.length = j + 1 := by rw [← HKL.out]; omega
          obtain ⟨q0, hq0⟩ : ∃ q, q = y.1 - m := ⟨_, rfl⟩
          obtain ⟨q1, hq1⟩ : ∃ q, q = z.1 + m := ⟨_, rfl⟩
          have hof0 := offF_first (d := q0) hif hy (by omega)
          have hof1 := offF_last (d := q1) hif hz hL1 (by omega)
          have hof2 := offF_last (d := q1 + 1) hif hz hL1 (by omega)
          have hlen : lenF L e q1 = 86400 := by
            unfold lenF nextF
            rw [if_pos (by omega), hof1, hof2]
            omega
          have HO0 := HOF.out q0
          have HO1 := HOF.out q1
          have HL1 := HLE.out q1
          rw [hof0] at HO0
          rw [hof1] at HO1
          rw [hlen] at HL1
          have HO0' := Lib.hid HO0
          have HO1' := Lib.hid HO1
          have HL1' := Lib.hid (fun W hW => HL1 W hW (by omega))
          have e0 : wrap64 (y.1 - m) = q0 := by rw [hq0]; exact IntWalk.wrap64_in _ (by omega)
          have e1 : wrap64 (z.1 + m) = q1 := by rw [hq1]; exact IntWalk.wrap64_in _ (by omega)
          have HEJ := Lib.hid (show (K : Int) - 1 = (j : Int) by omega)
          obtain ⟨t1, t2⟩ := tbV_at _ _ _ hy
          obtain ⟨t3, t4⟩ := tbV_at _ _ _ hz
          have hRw := HRD.out
          obtain ⟨g, off, rfl, hgB, hB, p0⟩ := hRw.at_ t1
          obtain ⟨g', off', hg', _, _, p1⟩ := hRw.at_ t2
          obtain ⟨rfl, rfl⟩ : g = g' ∧ off = off' := by simpa using hg'
          obtain ⟨g', off', hg', _, _, p2⟩ := hRw.at_ t3
          obtain ⟨rfl, rfl⟩ : g = g' ∧ off = off' := by simpa using hg'
          obtain ⟨g', off', hg', _, _, p3⟩ := hRw.at_ t4
          obtain ⟨rfl, rfl⟩ : g = g' ∧ off = off' := by simpa using hg'
          rw [Nat.mul_comm 2] at p2 p3
          rw [← Nat.add_assoc] at p3
          simp only [Nat.mul_zero, Nat.add_zero, Nat.zero_add] at p0 p1
          have hgw := Nat.lt_of_lt_of_le hgB hB
          have r0 : ∀ W, Kp No W0 W → W.cell? ⟨g, off, none⟩ = some (.int .i64 y.1) := fun W h => (h.cell hgw fun x => x).trans p0
          have r1 : ∀ W, Kp No W0 W → W.cell? ⟨g, off + 1, none⟩ = some (.int .i64 y.2) := fun W h => (h.cell (p := ⟨g, off + 1, none⟩) hgw fun x => x).trans p1
          have r2 : ∀ W, Kp No W0 W → W.cell? ⟨g, off + j * 2, none⟩ = some (.int .i64 z.1) := fun W h => (h.cell (p := ⟨g, off + j * 2, none⟩) hgw fun x => x).trans p2
          have r3 : ∀ W, Kp No W0 W → W.cell? ⟨g, off + j * 2 + 1, none⟩ = some (.int .i64 z.2) := fun W h => (h.cell (p := ⟨g, off + j * 2 + 1, none⟩) hgw fun x => x).trans p3
          have hjK : j < K := by omega
          have h0K : 0 < K := hp
          rw [hif] at HIS
          have HBS := Lib.hid (And.intro by1 bz1)
          clear by1 bz1 hm hm2 hif hp hj hy hz hL1 hof0 hof1 hof2 hlen HO0 HO1 HL1 HOF HLE hq0 hq1 t1 t2 t3 t4 hRw hgB hB hg' p0 p1 p2 p3 hgw
          go_enter Tryd.func6, Tryd.ntmps6
          go_wp2_with fail
          rw [← HW.out]
          go_wp2_with fail
          refine (HIS.out _ (Kp.refl _ _)).mono ?_
          rintro e' w1 ⟨rfl, k1⟩
          have d0 := c0 w1 k1
          have d1 := c1 w1 k1
          go_wp2_with fail
          rw [HEJ.out]
          clear d0 d1
          refine wp_region_held' (Kp No W0) [0,0,0,0,0,0,0,0,2,0] [0,1,2,3,4,5,6,7,8,9] (by kernel_rfl) (by kernel_rfl) (fun _ n h => h.drewN n) k1 ?_
          repeat (first
            | (apply wpOrd_skip rfl (by decide) rfl; (focus (go_simp; rfl)))
            | (apply wpOrd_pure rfl rfl rfl; (focus (intro _ _; go_simp; (try go_ints); rfl)); (focus (go_simp; rfl)))
            | (apply wpOrd_read rfl rfl rfl; (focus (intro _; go_simp; (try go_ints); rfl)); (focus (go_simp; rfl))))
          refine wpOrd_eff rfl rfl (fun q => ?_)
          go_wp2_with fail
          refine (HO0'.out _ (k1.drewN _)).mono ?_
          rintro e' w2 ⟨rfl, hk⟩
          have k2 : Kp No W0 w2 := ((k1).drewN _).trans_same hk
          clear hk
          go_wp2_with fail
          repeat (first
            | (apply wpOrd_skip rfl (by decide) rfl; (focus (go_simp; rfl)))
            | (apply wpOrd_pure rfl rfl rfl; (focus (intro _ _; go_simp; (try go_ints); rfl)); (focus (go_simp; rfl)))
            | (apply wpOrd_read rfl rfl rfl; (focus (intro _; go_simp; (try go_ints); rfl)); (focus (go_simp; rfl))))
          refine wpOrd_nil (fun nq => ?_)
          have k3 := (k2).drewN nq
          go_wp2_with fail
          refine wp_region_held' (Kp No W0) [0,0,0,0,0,0,0,0,0,2,0] [0,1,2,3,4,5,6,7,8,9,10] (by kernel_rfl) (by kernel_rfl) (fun _ n h => h.drewN n) k3 ?_
          repeat (first
            | (apply wpOrd_skip rfl (by decide) rfl; (focus (go_simp; rfl)))
            | (apply wpOrd_pure rfl rfl rfl; (focus (intro _ _; go_simp; (try go_ints); rfl)); (focus (go_simp; rfl)))
            | (apply wpOrd_read rfl rfl rfl; (focus (intro _; go_simp; (try go_ints); rfl)); (focus (go_simp; rfl))))
          refine wpOrd_eff rfl rfl (fun q => ?_)
          go_wp2_with fail
          refine (HO1'.out _ (k2.drewN _)).mono ?_
          rintro e' w4 ⟨rfl, hk⟩
          have k4 : Kp No W0 w4 := ((k2).drewN _).trans_same hk
          clear hk
          go_wp2_with fail
          repeat (first
            | (apply wpOrd_skip rfl (by decide) rfl; (focus (go_simp; rfl)))
            | (apply wpOrd_pure rfl rfl rfl; (focus (intro _ _; go_simp; (try go_ints); rfl)); (focus (go_simp; rfl)))
            | (apply wpOrd_read rfl rfl rfl; (focus (intro _; go_simp; (try go_ints); rfl)); (focus (go_simp; rfl))))
          refine wpOrd_nil (fun nq => ?_)
          have k5 := (k4).drewN nq
          go_wp2_with fail
          refine wp_region_held' (Kp No W0) [0,0,0,0,0,0,0,0,0,0,0,0,0,0,0,0,0,0,0,0,0,0,0,0,0,0,0,2,0,0,0,2,0,0] [0,1,2,3,4,5,6,7,8,9,10,11,12,13,14,15,16,17,18,19,20,21,22,23,24,25,26,27,28,29,30,31,32,33] (by kernel_rfl) (by kernel_rfl) (fun _ n h => h.drewN n) k5 ?_
          repeat (first
            | (apply wpOrd_skip rfl (by decide) rfl; (focus (go_simp; rfl)))
            | (apply wpOrd_pure rfl rfl rfl; (focus (intro _ _; go_simp; (try go_ints); rfl)); (focus (go_simp; rfl)))
            | (apply wpOrd_read rfl rfl rfl; (focus (intro _; go_simp; (try go_ints); rfl)); (focus (go_simp; rfl))))
          refine wpOrd_eff rfl rfl (fun q => ?_)
          go_wp2_with fail
          refine (HL1'.out _ (k4.drewN _)).mono ?_
          rintro e' w6 ⟨rfl, hk⟩
          have k6 : Kp No W0 w6 := ((k4).drewN _).trans_same hk
          clear hk
          go_wp2_with fail
          repeat (first
            | (apply wpOrd_skip rfl (by decide) rfl; (focus (go_simp; rfl)))
            | (apply wpOrd_pure rfl rfl rfl; (focus (intro _ _; go_simp; (try go_ints); rfl)); (focus (go_simp; rfl)))
            | (apply wpOrd_read rfl rfl rfl; (focus (intro _; go_simp; (try go_ints); rfl)); (focus (go_simp; rfl))))
          refine wpOrd_eff rfl rfl (fun q => ?_)
          go_wp2_with fail
          refine (known_any _).mono ?_
          rintro e' w7 ⟨rfl, hk⟩
          have k7 : Kp No W0 w7 := ((k6).drewN _).trans_same hk
          clear hk
          go_wp2_with fail
          repeat (first
            | (apply wpOrd_skip rfl (by decide) rfl; (focus (go_simp; rfl)))
            | (apply wpOrd_pure rfl rfl rfl; (focus (intro _ _; go_simp; (try go_ints); rfl)); (focus (go_simp; rfl)))
            | (apply wpOrd_read rfl rfl rfl; (focus (intro _; go_simp; (try go_ints); rfl)); (focus (go_simp; rfl))))
          refine wpOrd_nil (fun nq => ?_)
          have H7 := Lib.hid (HK.out.trans_same k7)
          clear k1 k2 k3 k4 k5 k6 k7 c0 c1 r0 r1 r2 r3
          go_wp2_with fail
          go_ret
          exact ⟨rfl, H7.out.drewN _⟩
end Go.Proofs.YtapikolgpmefbaaDoor
