/-
  The law LeapSums, of any table and days.
-/
import Derived.Test.YtapikolgpmefbaaDoorLKnown
namespace Go.Proofs.YtapikolgpmefbaaDoor
open Go.RowKit Go.Mer

theorem lenF_mid (L : List (Int × Int)) (e d : Int) (h : d < 9223372036854775807) : lenF L e d = 86400 + offF L e (d + 1) - offF L e d := by
  unfold lenF nextF
  rw [if_pos h]
set_option maxRecDepth 10000 in
set_option maxHeartbeats 2000000 in
theorem Sums_law (w : World) (a : Option Addr) (cap : Nat) (L : List (Int × Int)) (e f m : Int) (hR : Rd w w.heap.size a (tbV L)) (hl : L.length ≤ cap) :
    Calls Tryd.prog 4 #[.agg #[.slice a L.length cap, .int .i64 e], .int .i64 f, .int .i64 m] w fun e' w' => e' = .returned (.bool true) ∧ Kp No w w' := by
  obtain ⟨W0, hW0⟩ : ∃ W0, W0 = w.alloc (.cells #[.slice a L.length cap, .int .i64 e] 24 (0, 0)) := ⟨_, rfl⟩
  have hb : W0.heap[w.heap.size]? = some (.cells #[.slice a L.length cap, .int .i64 e] 24 (0, 0)) := by rw [hW0]; exact heap_alloc_new w _
  have hk0 : Kp No w W0 := by rw [hW0]; exact (Kp.refl _ _).alloc _
  have HK := Lib.hid hk0
  obtain ⟨K, hK⟩ : ∃ K, K = L.length := ⟨_, rfl⟩
  rcases Nat.lt_or_ge 300 K with h | h
  · have h1 : decide (300 < K) = true := decide_eq_true h
    have h2 : decide ((300 : Int) < (K : Int)) = true := by rw [decide_eq_true_iff]; omega
    rw [← hK] at hW0
    rw [← hK]
    have HW := Lib.hid hW0
    clear hW0 hk0 hR hb hl hK h
    go_enter Tryd.func4, Tryd.ntmps4
    go_wp2_with fail
    rw [← HW.out]
    go_ret
    exact ⟨rfl, HK.out⟩
  · have h1 : decide (300 < K) = false := by rw [decide_eq_false_iff_not]; omega
    have h2 : decide ((300 : Int) < (K : Int)) = false := by rw [decide_eq_false_iff_not]; omega
    have HOF := Lib.hid (fun d W (h' : Kp No W0 W) => Offset_any L e d W a cap w.heap.size (hR.keep (hk0.trans_same h') fun _ _ x => x) (by omega) hl)
    have HLE := Lib.hid (fun d W (h' : Kp No W0 W) hd => Length_leap L e d W a cap w.heap.size (hR.keep (hk0.trans_same h') fun _ _ x => x) (by omega) hl hd)
    rw [← hK] at HOF HLE hW0 hb
    rw [← hK]
    have HW := Lib.hid hW0
    clear hW0 hk0 hR hl hK h
    rcases Int.lt_or_le m 0 with hm | hm
    · have g2 : decide (m < 0) = true := decide_eq_true hm
      clear hm hb
      go_enter Tryd.func4, Tryd.ntmps4
      go_wp2_with fail
      rw [← HW.out]
      go_ret
      exact ⟨rfl, HK.out⟩
    · have g2 : decide (m < 0) = false := by rw [decide_eq_false_iff_not]; omega
      rcases Int.lt_or_le 800 m with hm2 | hm2
      · have g3 : decide (800 < m) = true := decide_eq_true hm2
        clear hm hm2 hb
        go_enter Tryd.func4, Tryd.ntmps4
        go_wp2_with fail
        rw [← HW.out]
        go_ret
        exact ⟨rfl, HK.out⟩
      · have g3 : decide (800 < m) = false := by rw [decide_eq_false_iff_not]; omega
        rcases Int.lt_or_le f (-1099511627776) with hf | hf
        · have g4 : decide (f < -1099511627776) = true := decide_eq_true hf
          clear hm hm2 hf hb
          go_enter Tryd.func4, Tryd.ntmps4
          go_wp2_with fail
          rw [← HW.out]
          go_ret
          exact ⟨rfl, HK.out⟩
        · have g4 : decide (f < -1099511627776) = false := by rw [decide_eq_false_iff_not]; omega
          rcases Int.lt_or_le 1099511627776 f with hf2 | hf2
          · have g5 : decide (1099511627776 < f) = true := decide_eq_true hf2
            clear hm hm2 hf hf2 hb
            go_enter Tryd.func4, Tryd.ntmps4
            go_wp2_with fail
            rw [← HW.out]
            go_ret
            exact ⟨rfl, HK.out⟩
          · have g5 : decide (1099511627776 < f) = false := by rw [decide_eq_false_iff_not]; omega
            obtain ⟨M, rfl⟩ : ∃ M : Nat, m = (M : Int) := ⟨m.toNat, by omega⟩
            have HB := Lib.hid (show M ≤ 800 ∧ -1099511627776 ≤ f ∧ f ≤ 1099511627776 by omega)
            have HBL := Lib.hid hb
            have c0 := cell_at hb 0
            have c1 := cell_at hb 1
            simp at c0 c1
            clear hm hm2 hf hf2 hb
            go_enter Tryd.func4, Tryd.ntmps4
            go_wp2_with fail
            rw [← HW.out]
            go_wp2_with fail
            clear c0 c1 g4 g5
            go_loopw [7, 8] (fun n i wr => ∃ k : Nat, k ≤ M ∧ i = .int .i64 (k : Int) ∧ n = .int .i64 (86400 * (k : Int) + offF L e (f + k) - offF L e f) ∧ Hid (Kp No W0 wr)) (fun _ i _ => M - (intOf i).toNat)
            case atStart => exact ⟨0, by omega, rfl, by simp, Lib.hid (Kp.refl _ _)⟩
            case round =>
              obtain ⟨k, hk, rfl, rfl, HKW⟩ := hrel
              obtain ⟨n, hn⟩ : ∃ n, n = 86400 * (k : Int) + offF L e (f + k) - offF L e f := ⟨_, rfl⟩
              rw [← hn]
              have i1 := offF_in L e (f + k)
              have i2 := offF_in L e f
              rcases Nat.lt_or_ge k M with hc | hc
              · have hkc : decide (k < M) = true := decide_eq_true hc
                have c0 := cell_at (HKW.out.get HBL.out fun x => x) 0
                have c1 := cell_at (HKW.out.get HBL.out fun x => x) 1
                simp at c0 c1
                obtain ⟨d, hd⟩ : ∃ d, d = f + (k : Int) := ⟨_, rfl⟩
                have hwd : wrap64 (f + (k : Int)) = d := by rw [hd]; exact IntWalk.wrap64_in _ (by have := HB.out; omega)
                have hlen := HLE.out d wr HKW.out (by have := HB.out; omega)
                rw [lenF_mid L e d (by have := HB.out; omega)] at hlen
                rw [← hd] at hn i1
                have i3 := offF_in L e (d + 1)
                obtain ⟨o1, ho1⟩ : ∃ o, o = offF L e (d + 1) := ⟨_, rfl⟩
                obtain ⟨o2, ho2⟩ : ∃ o, o = offF L e d := ⟨_, rfl⟩
                obtain ⟨l, hl⟩ : ∃ l, l = 86400 + o1 - o2 := ⟨_, rfl⟩
                rw [← ho1, ← ho2, ← hl] at hlen
                rw [← ho1] at i3
                rw [← ho2] at i1 hn
                have hwn : wrap64 (n + l) = 86400 * ((k + 1 : Nat) : Int) + offF L e (f + ((k + 1 : Nat) : Int)) - offF L e f := by
                  rw [show f + ((k + 1 : Nat) : Int) = d + 1 by omega, ← ho1, IntWalk.wrap64_in _ (by have := HB.out; omega)]
                  omega
                have hwk : wrap64 ((k : Int) + 1) = ((k + 1 : Nat) : Int) := by rw [IntWalk.wrap64_in _ (by have := HB.out; omega)]; push_cast; rfl
                have HWN := Lib.hid hwn
                have HWK := Lib.hid hwk
                have HLN := Lib.hid hlen
                clear hn i1 i2 i3 hd hlen ho1 ho2 hl hwn hwk
                go_wp2_with fail
                refine HLN.out.mono ?_
                rintro e' w' ⟨rfl, hk'⟩
                have HKK := Lib.hid (HKW.out.trans_same hk')
                clear hk'
                go_wp2_with fail
                rw [HWN.out, HWK.out]
                go_round
                · exact ⟨k + 1, by omega, rfl, rfl, HKK⟩
                · simp only [intOf, Int.toNat_natCast]; omega
              · obtain rfl : k = M := by omega
                have hkc : decide (k < k) = false := by simp
                have c0 : ∀ W, Kp No wr W → W.cell? ⟨w.heap.size, 0, none⟩ = some (.slice a K cap) := fun W h => by rw [cell_at (h.get (HKW.out.get HBL.out fun x => x) fun x => x)]; rfl
                have c1 : ∀ W, Kp No wr W → W.cell? ⟨w.heap.size, 1, none⟩ = some (.int .i64 e) := fun W h => by rw [cell_at (h.get (HKW.out.get HBL.out fun x => x) fun x => x)]; rfl
                obtain ⟨d, hd⟩ : ∃ d, d = f + (k : Int) := ⟨_, rfl⟩
                have hwd : wrap64 (f + (k : Int)) = d := by rw [hd]; exact IntWalk.wrap64_in _ (by have := HB.out; omega)
                have HO1 := HOF.out d
                have HO2 := HOF.out f
                rw [← hd] at hn i1
                obtain ⟨o1, ho1⟩ : ∃ o, o = offF L e d := ⟨_, rfl⟩
                obtain ⟨o2, ho2⟩ : ∃ o, o = offF L e f := ⟨_, rfl⟩
                rw [← ho1] at HO1 i1 hn
                rw [← ho2] at HO2 i2 hn
                obtain ⟨s1, hs1⟩ : ∃ s : Int, s = 86400 * (k : Int) := ⟨_, rfl⟩
                obtain ⟨s2, hs2⟩ : ∃ s : Int, s = s1 + o1 := ⟨_, rfl⟩
                have w1 : wrap64 (86400 * (k : Int)) = s1 := by rw [hs1]; exact IntWalk.wrap64_in _ (by have := HB.out; omega)
                have w2 : wrap64 (s1 + o1) = s2 := by rw [hs2]; exact IntWalk.wrap64_in _ (by have := HB.out; omega)
                have w3 : wrap64 (s2 - o2) = n := by rw [IntWalk.wrap64_in _ (by have := HB.out; omega)]; omega
                have HO1' := Lib.hid HO1
                have HO2' := Lib.hid HO2
                clear hn i1 i2 hd HO1 HO2 ho1 ho2 hs1 hs2 hk hc
                go_wp2_with fail
                refine wp_region_held' (Kp No _) [0,0,0,0,0,0,0,2,0,0,0,2,0,0,0,2,0,0] [0,1,2,3,4,5,6,9,10,7,8,11,12,13,14,15,16,17] (by kernel_rfl) (by kernel_rfl) (fun _ n h => h.drewN n) (Kp.refl _ _) ?_
                repeat (first
                  | (apply wpOrd_skip rfl (by decide) rfl; (focus (go_simp; rfl)))
                  | (apply wpOrd_pure rfl rfl rfl; (focus (intro _ _; go_simp; (try go_ints); rfl)); (focus (go_simp; rfl)))
                  | (apply wpOrd_read rfl rfl rfl; (focus (intro _; go_simp; (try go_ints); rfl)); (focus (go_simp; rfl))))
                refine wpOrd_eff rfl rfl (fun q => ?_)
                go_wp2_with fail
                refine (HO1'.out _ (HKW.out.trans_same ((Kp.refl No wr).drewN q))).mono ?_
                rintro e' w2' ⟨rfl, hk⟩
                have k1 : Kp No wr w2' := (((Kp.refl No wr)).drewN q).trans_same hk
                clear hk
                go_wp2_with fail
                repeat (first
                  | (apply wpOrd_skip rfl (by decide) rfl; (focus (go_simp; rfl)))
                  | (apply wpOrd_pure rfl rfl rfl; (focus (intro _ _; go_simp; (try go_ints); rfl)); (focus (go_simp; rfl)))
                  | (apply wpOrd_read rfl rfl rfl; (focus (intro _; go_simp; (try go_ints); rfl)); (focus (go_simp; rfl))))
                refine wpOrd_eff rfl rfl (fun q => ?_)
                go_wp2_with fail
                refine (HO2'.out _ (HKW.out.trans_same (k1.drewN q))).mono ?_
                rintro e' w3' ⟨rfl, hk⟩
                have k2 : Kp No wr w3' := ((k1).drewN q).trans_same hk
                clear hk
                go_wp2_with fail
                repeat (first
                  | (apply wpOrd_skip rfl (by decide) rfl; (focus (go_simp; rfl)))
                  | (apply wpOrd_pure rfl rfl rfl; (focus (intro _ _; go_simp; (try go_ints); rfl)); (focus (go_simp; rfl)))
                  | (apply wpOrd_read rfl rfl rfl; (focus (intro _; go_simp; (try go_ints); rfl)); (focus (go_simp; rfl))))
                refine wpOrd_eff rfl rfl (fun q => ?_)
                go_wp2_with fail
                refine (known_any _).mono ?_
                rintro e' w4' ⟨rfl, hk⟩
                have k3 : Kp No wr w4' := ((k2).drewN q).trans_same hk
                clear hk
                go_wp2_with fail
                repeat (first
                  | (apply wpOrd_skip rfl (by decide) rfl; (focus (go_simp; rfl)))
                  | (apply wpOrd_pure rfl rfl rfl; (focus (intro _ _; go_simp; (try go_ints); rfl)); (focus (go_simp; rfl)))
                  | (apply wpOrd_read rfl rfl rfl; (focus (intro _; go_simp; (try go_ints); rfl)); (focus (go_simp; rfl))))
                refine wpOrd_nil (fun nq => ?_)
                have H5 := Lib.hid ((HK.out.trans_same HKW.out).trans_same k3)
                clear k1 k2 k3 c0 c1
                go_wp2_with fail
                go_ret
                exact ⟨rfl, H5.out.drewN _⟩
end Go.Proofs.YtapikolgpmefbaaDoor
