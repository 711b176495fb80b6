/-
  The law LeapOffsets, of any table and day.
-/
import Derived.Test.YtapikolgpmefbaaDoorLKnown
namespace Go.Proofs.YtapikolgpmefbaaDoor
open Go.RowKit Go.Mer

set_option maxHeartbeats 1000000 in
theorem Offsets_law (w : World) (a : Option Addr) (cap : Nat) (L : List (Int × Int)) (n d : Int) (hR : Rd w w.heap.size a (tbV L)) (hl : L.length ≤ cap) (hd : -9223372036854775808 ≤ d ∧ d ≤ 9223372036854775807) :
    Calls Tryd.prog 3 #[.agg #[.slice a L.length cap, .int .i64 n], .int .i64 d] w fun e w' => e = .returned (.bool true) ∧ Kp No w w' := by
  obtain ⟨W0, hW0⟩ : ∃ W0, W0 = w.alloc (.cells #[.slice a L.length cap, .int .i64 n] 24 (0, 0)) := ⟨_, rfl⟩
  have hb : W0.heap[w.heap.size]? = some (.cells #[.slice a L.length cap, .int .i64 n] 24 (0, 0)) := by rw [hW0]; exact heap_alloc_new w _
  have hk0 : Kp No w W0 := by rw [hW0]; exact (Kp.refl _ _).alloc _
  rcases Nat.lt_or_ge 300 L.length with h | h
  · have h1 : decide (300 < L.length) = true := decide_eq_true h
    have h2 : decide ((300 : Int) < (L.length : Int)) = true := by rw [decide_eq_true_iff]; omega
    have HK := Lib.hid hk0
    have HW := Lib.hid hW0
    clear hW0 hk0 hR hb
    go_enter Tryd.func3, Tryd.ntmps3
    go_wp2_with fail
    rw [← HW.out]
    go_ret
    exact ⟨rfl, HK.out⟩
  · have h1 : decide (300 < L.length) = false := by rw [decide_eq_false_iff_not]; omega
    have h2 : decide ((300 : Int) < (L.length : Int)) = false := by rw [decide_eq_false_iff_not]; omega
    have HOF := Lib.hid (fun W (h' : Kp No W0 W) => Offset_any L n d W a cap w.heap.size (hR.keep (hk0.trans_same h') fun _ _ x => x) (by omega) hl)
    have HRO := Lib.hid (fun W (h' : Kp No W0 W) => rOffset_any L n d W a cap w.heap.size (hR.keep (hk0.trans_same h') fun _ _ x => x) (by omega))
    have HLE := Lib.hid (fun W (h' : Kp No W0 W) => Length_leap L n d W a cap w.heap.size (hR.keep (hk0.trans_same h') fun _ _ x => x) (by omega) hl hd)
    have HRL := Lib.hid (fun W (h' : Kp No W0 W) => rLength_leap L n d W a cap w.heap.size (hR.keep (hk0.trans_same h') fun _ _ x => x) (by omega) hd)
    obtain ⟨K, hK⟩ : ∃ K, K = L.length := ⟨_, rfl⟩
    rw [← hK] at HOF HRO HLE HRL hW0 hb h1 h2
    rw [← hK]
    obtain ⟨o, ho⟩ : ∃ o, o = offF L n d := ⟨_, rfl⟩
    obtain ⟨e, he⟩ : ∃ o, o = lenF L n d := ⟨_, rfl⟩
    rw [← ho] at HOF HRO
    rw [← he] at HLE HRL
    have c0 : ∀ W, Kp No W0 W → W.cell? ⟨w.heap.size, 0, none⟩ = some (.slice a K cap) := fun W h => by rw [cell_at (h.get hb fun x => x)]; rfl
    have c1 : ∀ W, Kp No W0 W → W.cell? ⟨w.heap.size, 1, none⟩ = some (.int .i64 n) := fun W h => by rw [cell_at (h.get hb fun x => x)]; rfl
    have HK := Lib.hid hk0
    have HW := Lib.hid hW0
    clear hW0 hk0 hR hb h hl hd hK ho he
    go_enter Tryd.func3, Tryd.ntmps3
    go_wp2_with fail
    rw [← HW.out]
    refine wp_region_held' (Kp No _) [0,0,2,0,0,2,0,0,0,0,2,0,0,2,0,0,0,2,0,0] [0,1,3,4,2,5,6,7,8,9,11,12,10,13,14,15,16,17,18,19] (by kernel_rfl) (by kernel_rfl) (fun _ n h => h.drewN n) (Kp.refl _ _) ?_
    repeat (first
      | (apply wpOrd_skip rfl (by decide) rfl; (focus (go_simp; rfl)))
      | (apply wpOrd_pure rfl rfl rfl; (focus (intro _ _; go_simp; (try go_ints); rfl)); (focus (go_simp; rfl)))
      | (apply wpOrd_read rfl rfl rfl; (focus (intro _; go_simp; (try go_ints); rfl)); (focus (go_simp; rfl))))
    refine wpOrd_eff rfl rfl (fun q => ?_)
    go_wp2_with fail
    refine (HOF.out _ ((Kp.refl No W0).drewN q)).mono ?_
    rintro e' w2 ⟨rfl, hk⟩
    have k1 : Kp No W0 w2 := (((Kp.refl No W0)).drewN q).trans_same hk
    clear hk
    go_wp2_with fail
    repeat (first
      | (apply wpOrd_skip rfl (by decide) rfl; (focus (go_simp; rfl)))
      | (apply wpOrd_pure rfl rfl rfl; (focus (intro _ _; go_simp; (try go_ints); rfl)); (focus (go_simp; rfl)))
      | (apply wpOrd_read rfl rfl rfl; (focus (intro _; go_simp; (try go_ints); rfl)); (focus (go_simp; rfl))))
    refine wpOrd_eff rfl rfl (fun q => ?_)
    go_wp2_with fail
    refine (HRO.out _ (k1.drewN q)).mono ?_
    rintro e' w3 ⟨rfl, hk⟩
    have k2 : Kp No W0 w3 := ((k1).drewN q).trans_same hk
    clear hk
    go_wp2_with fail
    repeat (first
      | (apply wpOrd_skip rfl (by decide) rfl; (focus (go_simp; rfl)))
      | (apply wpOrd_pure rfl rfl rfl; (focus (intro _ _; go_simp; (try go_ints); rfl)); (focus (go_simp; rfl)))
      | (apply wpOrd_read rfl rfl rfl; (focus (intro _; go_simp; (try go_ints); rfl)); (focus (go_simp; rfl))))
    refine wpOrd_eff rfl rfl (fun q => ?_)
    go_wp2_with fail
    refine (HLE.out _ (k2.drewN q)).mono ?_
    rintro e' w4 ⟨rfl, hk⟩
    have k3 : Kp No W0 w4 := ((k2).drewN q).trans_same hk
    clear hk
    go_wp2_with fail
    repeat (first
      | (apply wpOrd_skip rfl (by decide) rfl; (focus (go_simp; rfl)))
      | (apply wpOrd_pure rfl rfl rfl; (focus (intro _ _; go_simp; (try go_ints); rfl)); (focus (go_simp; rfl)))
      | (apply wpOrd_read rfl rfl rfl; (focus (intro _; go_simp; (try go_ints); rfl)); (focus (go_simp; rfl))))
    refine wpOrd_eff rfl rfl (fun q => ?_)
    go_wp2_with fail
    refine (HRL.out _ (k3.drewN q)).mono ?_
    rintro e' w5 ⟨rfl, hk⟩
    have k4 : Kp No W0 w5 := ((k3).drewN q).trans_same hk
    clear hk
    go_wp2_with fail
    repeat (first
      | (apply wpOrd_skip rfl (by decide) rfl; (focus (go_simp; rfl)))
      | (apply wpOrd_pure rfl rfl rfl; (focus (intro _ _; go_simp; (try go_ints); rfl)); (focus (go_simp; rfl)))
      | (apply wpOrd_read rfl rfl rfl; (focus (intro _; go_simp; (try go_ints); rfl)); (focus (go_simp; rfl))))
    refine wpOrd_eff rfl rfl (fun q => ?_)
    go_wp2_with fail
    refine (known_any _).mono ?_
    rintro e' w6 ⟨rfl, hk⟩
    have k5 : Kp No W0 w6 := ((k4).drewN q).trans_same hk
    clear hk
    go_wp2_with fail
    repeat (first
      | (apply wpOrd_skip rfl (by decide) rfl; (focus (go_simp; rfl)))
      | (apply wpOrd_pure rfl rfl rfl; (focus (intro _ _; go_simp; (try go_ints); rfl)); (focus (go_simp; rfl)))
      | (apply wpOrd_read rfl rfl rfl; (focus (intro _; go_simp; (try go_ints); rfl)); (focus (go_simp; rfl))))
    refine wpOrd_nil (fun nq => ?_)
    have H5 := Lib.hid (HK.out.trans_same k5)
    clear k1 k2 k3 k4 k5 c0 c1
    go_wp2_with fail
    go_ret
    exact ⟨rfl, H5.out.drewN _⟩
end Go.Proofs.YtapikolgpmefbaaDoor
