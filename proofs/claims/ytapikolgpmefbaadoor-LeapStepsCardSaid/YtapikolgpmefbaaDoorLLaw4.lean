/-
  The law LeapSteps, of any table and row.
-/
import Derived.Test.YtapikolgpmefbaaDoorLKnown
import Derived.Test.YtapikolgpmefbaaDoorLSort
namespace Go.Proofs.YtapikolgpmefbaaDoor
open Go.RowKit Go.Mer

set_option maxRecDepth 100000 in
theorem low_bits (x : Int) : ∃ v : Nat, v ≤ 65535 ∧ bits .and .i64 x 65535 = (v : Int) := by
  have h : ((BitVec.ofInt 64 x) &&& (BitVec.ofInt 64 65535)).toNat ≤ 65535 := by
    rw [BitVec.toNat_and]
    exact Nat.and_le_right
  refine ⟨_, h, ?_⟩
  simp only [bits]
  unfold IntKind.wrap
  have e : (2 ^ IntKind.i64.bits : Int) = 18446744073709551616 := by decide
  have e2 : IntKind.i64.bits = 64 := rfl
  rw [e2] at e ⊢
  rw [e]
  have h2 : ((((BitVec.ofInt 64 x) &&& (BitVec.ofInt 64 65535)).toNat : Nat) : Int) ≤ 65535 := Int.ofNat_le.2 h
  have h3 : (0 : Int) ≤ ((((BitVec.ofInt 64 x) &&& (BitVec.ofInt 64 65535)).toNat : Nat) : Int) := Int.natCast_nonneg _
  rw [Int.emod_eq_of_lt h3 (by omega)]
  rw [if_neg]
  simp only [Bool.and_eq_true, decide_eq_true_eq, not_and]
  intro _
  have e3 : (2 ^ (64 - 1) : Int) = 9223372036854775808 := by decide
  rw [e3]
  omega
/-- Of row k: how long the day ahead of its own is; which offsets hold on both. -/
theorem steps_at {L : List (Int × Int)} {e : Int} (h : isF L e = true) {k : Nat} {x : Int × Int} (hx : L[k]? = some x) :
    offF L e x.1 = x.2 ∧ (k = 0 → lenF L e (x.1 - 1) = 86400) ∧ ∀ j p, k = j + 1 → L[j]? = some p → offF L e (x.1 - 1) = p.2 ∧ lenF L e (x.1 - 1) = 86400 + x.2 - p.2 := by
  have hb := isF_day h hx
  have hl : leapsF [] L = true := by
    unfold isF at h
    rw [Bool.and_eq_true] at h
    exact h.1
  have h0 : offF L e x.1 = x.2 := offF_row h hx (Int.le_refl _) fun z hz => leapsF_step hl hx hz
  have hlen : lenF L e (x.1 - 1) = 86400 + x.2 - offF L e (x.1 - 1) := by
    unfold lenF nextF
    rw [if_pos (by omega), show x.1 - 1 + 1 = x.1 by omega, h0]
  refine ⟨h0, ?_, ?_⟩
  · rintro rfl
    rw [hlen, offF_first h hx (by omega)]
    omega
  · rintro j p rfl hp
    have h1 : offF L e (x.1 - 1) = p.2 := by
      have hlt := leapsF_step hl hp hx
      refine offF_row h hp (by omega) fun z hz => ?_
      rw [hx] at hz
      obtain rfl : x = z := by simpa using hz
      omega
    exact ⟨h1, by rw [hlen, h1]⟩
set_option maxRecDepth 10000 in
set_option maxHeartbeats 4000000 in
theorem Steps_law (w : World) (a : Option Addr) (cap : Nat) (L : List (Int × Int)) (e m : Int) (hR : Rd w w.heap.size a (tbV L)) (hl : L.length ≤ cap) :
    Calls Tryd.prog 5 #[.agg #[.slice a L.length cap, .int .i64 e], .int .i64 m] w fun e' w' => e' = .returned (.bool true) ∧ Kp No w w' := by
  obtain ⟨W0, hW0⟩ : ∃ W0, W0 = w.alloc (.cells #[.slice a L.length cap, .int .i64 e] 24 (0, 0)) := ⟨_, rfl⟩
  have hb : W0.heap[w.heap.size]? = some (.cells #[.slice a L.length cap, .int .i64 e] 24 (0, 0)) := by rw [hW0]; exact heap_alloc_new w _
  have hk0 : Kp No w W0 := by rw [hW0]; exact (Kp.refl _ _).alloc _
  have HK := Lib.hid hk0
  obtain ⟨K, hK⟩ : ∃ K, K = L.length := ⟨_, rfl⟩
  rcases Nat.lt_or_ge 300 K with h | h
  · have h1 : decide (300 < K) = true := decide_eq_true h
    have h2 : decide ((300 : Int) < (K : Int)) = true := by rw [decide_eq_true_iff]; omega
    rw [← hK] at hW0
    rw [← hK]
    have HW := Lib.hid hW0
    clear hW0 hk0 hR hb hl hK h
    go_enter Tryd.func5, Tryd.ntmps5
    go_wp2_with fail
    rw [← HW.out]
    go_wp2_with fail
    refine (known_any _).mono ?_
    rintro e' w3 ⟨rfl, hk3⟩
    have HK3 := Lib.hid (HK.out.trans_same hk3)
    clear hk3
    go_wp2_with fail
    go_ret
    exact ⟨rfl, HK3.out⟩
  · have h1 : decide (300 < K) = false := by rw [decide_eq_false_iff_not]; omega
    have h2 : decide ((300 : Int) < (K : Int)) = false := by rw [decide_eq_false_iff_not]; omega
    have HIS := Lib.hid (fun W (h' : Kp No W0 W) => rIs_any L e W a cap w.heap.size (hR.keep (hk0.trans_same h') fun _ _ x => x) (by omega))
    have HOF := Lib.hid (fun d W (h' : Kp No W0 W) => Offset_any L e d W a cap w.heap.size (hR.keep (hk0.trans_same h') fun _ _ x => x) (by omega) hl)
    have HLE := Lib.hid (fun d W (h' : Kp No W0 W) hd => Length_leap L e d W a cap w.heap.size (hR.keep (hk0.trans_same h') fun _ _ x => x) (by omega) hl hd)
    have HRD := Lib.hid (hR.keep hk0 fun _ _ x => x)
    rw [← hK] at HOF HLE HIS hW0 hb
    rw [← hK]
    have HW := Lib.hid hW0
    have HKL := Lib.hid hK
    have c0 : ∀ W, Kp No W0 W → W.cell? ⟨w.heap.size, 0, none⟩ = some (.slice a K cap) := fun W h => by rw [cell_at (h.get hb fun x => x)]; rfl
    have c1 : ∀ W, Kp No W0 W → W.cell? ⟨w.heap.size, 1, none⟩ = some (.int .i64 e) := fun W h => by rw [cell_at (h.get hb fun x => x)]; rfl
    have d0 := cell_at hb 0
    have d1 := cell_at hb 1
    simp at d0 d1
    clear hW0 hk0 hR hl hb hK
    cases hif : isF L e with
    | false =>
      rw [hif] at HIS
      clear hif
      go_enter Tryd.func5, Tryd.ntmps5
      go_wp2_with fail
      rw [← HW.out]
      go_wp2_with fail
      refine (HIS.out _ (Kp.refl _ _)).mono ?_
      rintro e' w2 ⟨rfl, hk2⟩
      have HK2 := Lib.hid (HK.out.trans_same hk2)
      clear hk2
      go_wp2_with fail
      refine (known_any _).mono ?_
      rintro e' w3 ⟨rfl, hk3⟩
      have HK3 := Lib.hid (HK2.out.trans_same hk3)
      clear hk3
      go_wp2_with fail
      go_ret
      exact ⟨rfl, HK3.out⟩
    | true =>
      have hp := isF_pos hif
      rw [← HKL.out] at hp
      obtain ⟨v, hv1, hv2⟩ := low_bits m
      obtain ⟨k, hk⟩ : ∃ k, k = v % K := ⟨_, rfl⟩
      have hkK : k < K := by rw [hk]; exact Nat.mod_lt _ hp
      have hq : (v : Int).tmod (K : Int) = (k : Int) := by rw [hk, Int.tmod_eq_emod_of_nonneg (by omega)]; exact (Int.natCast_emod v K).symm
      have hq2 : (v : Int) % (K : Int) = (k : Int) := by rw [hk]; exact (Int.natCast_emod v K).symm
      have hKz : ((K : Int) == 0) = false := by rw [beq_eq_false_iff_ne]; omega
      have hKz' : ¬ (K : Int) = 0 := by omega
      have hwk : wrap64 (k : Int) = (k : Int) := IntWalk.wrap64_in _ (by omega)
      obtain ⟨x, hx⟩ : ∃ x, L[k]? = some x := ⟨L[k]'(by rw [← HKL.out]; exact hkK), by simp⟩
      have bx := isF_day hif hx
      obtain ⟨s0, s1, s2⟩ := steps_at hif hx
      obtain ⟨t1, t2⟩ := tbV_at _ _ _ hx
      have hRw := HRD.out
      obtain ⟨g, off, rfl, hgB, hB, p0⟩ := hRw.at_ t1
      obtain ⟨g', off', hg', _, _, p1⟩ := hRw.at_ t2
      obtain ⟨rfl, rfl⟩ : g = g' ∧ off = off' := by simpa using hg'
      rw [Nat.mul_comm 2] at p0 p1
      rw [← Nat.add_assoc] at p1
      have hgw := Nat.lt_of_lt_of_le hgB hB
      have r0 : ∀ W, Kp No W0 W → W.cell? ⟨g, off + k * 2, none⟩ = some (.int .i64 x.1) := fun W h => (h.cell hgw fun x => x).trans p0
      have r1 : ∀ W, Kp No W0 W → W.cell? ⟨g, off + k * 2 + 1, none⟩ = some (.int .i64 x.2) := fun W h => (h.cell (p := ⟨g, off + k * 2 + 1, none⟩) hgw fun x => x).trans p1
      obtain ⟨d, hd⟩ : ∃ d, d = x.1 - 1 := ⟨_, rfl⟩
      have ed : wrap64 (x.1 - 1) = d := by rw [hd]; exact IntWalk.wrap64_in _ (by omega)
      rw [← hd] at s1 s2
      have HO0 := HOF.out x.1
      rw [s0] at HO0
      have HO0' := Lib.hid HO0
      have HL0 := Lib.hid (fun W hW => HLE.out d W hW (by omega))
      rw [hif] at HIS
      rcases Nat.eq_zero_or_pos k with hkz | hkp
      · have HL1 := HL0
        rw [s1 hkz] at HL1
        subst hkz
        simp only [Nat.zero_mul, Nat.add_zero] at r0 r1
        have kz : decide ((0 : Int) < ((0 : Nat) : Int)) = false := by decide
        have kz2 : (((0 : Nat) : Int) == 0) = true := rfl
        clear s0 s1 s2 hx bx hd HO0 HOF HLE HL0 t1 t2 hRw hgB hB hg' p0 p1 hgw hk hv1 hif hp
        go_enter Tryd.func5, Tryd.ntmps5
        go_wp2_with fail
        rw [← HW.out]
        go_wp2_with fail
        refine (HIS.out _ (Kp.refl _ _)).mono ?_
        rintro e' w1 ⟨rfl, k1⟩
        have d0 := c0 w1 k1
        have d1 := c1 w1 k1
        have d2 := r0 w1 k1
        go_wp2_with fail
        clear d0 d1 d2
        refine wp_region_held' (Kp No W0) [0,0,0,2,0,0,0,0,0,2,0,0,0,0,0,0,0,0,0,0,0,0,0,0,0,2,0,0,0,0,0,0,0,0,0,0,0,2,0,0] [0,1,2,4,3,5,6,7,8,10,11,12,13,14,15,9,16,17,18,19,20,21,22,23,24,26,27,28,29,30,31,32,25,33,34,35,36,37,38,39] (by kernel_rfl) (by kernel_rfl) (fun _ n h => h.drewN n) k1 ?_
        repeat (first
          | (apply wpOrd_skip rfl (by decide) rfl; (focus (go_simp; rfl)))
          | (apply wpOrd_pure rfl rfl rfl; (focus (intro _ _; go_simp; (try go_ints); rfl)); (focus (go_simp; rfl)))
          | (apply wpOrd_read rfl rfl rfl; (focus (intro _; go_simp; (try go_ints); rfl)); (focus (go_simp; rfl))))
        refine wpOrd_eff rfl rfl (fun q => ?_)
        go_wp2_with fail
        refine (HL1.out _ (k1.drewN _)).mono ?_
        rintro e' w2 ⟨rfl, hk⟩
        have k2 : Kp No W0 w2 := ((k1).drewN _).trans_same hk
        clear hk
        go_wp2_with fail
        repeat (first
          | (apply wpOrd_skip rfl (by decide) rfl; (focus (go_simp; rfl)))
          | (apply wpOrd_pure rfl rfl rfl; (focus (intro _ _; go_simp; (try go_ints); rfl)); (focus (go_simp; rfl)))
          | (apply wpOrd_read rfl rfl rfl; (focus (intro _; go_simp; (try go_ints); rfl)); (focus (go_simp; rfl))))
        refine wpOrd_eff rfl rfl (fun q => ?_)
        go_wp2_with fail
        refine (HO0'.out _ (k2.drewN _)).mono ?_
        rintro e' w3 ⟨rfl, hk⟩
        have k3 : Kp No W0 w3 := ((k2).drewN _).trans_same hk
        clear hk
        go_wp2_with fail
        repeat (first
          | (apply wpOrd_skip rfl (by decide) rfl; (focus (go_simp; rfl)))
          | (apply wpOrd_pure rfl rfl rfl; (focus (intro _ _; go_simp; (try go_ints); rfl)); (focus (go_simp; rfl)))
          | (apply wpOrd_read rfl rfl rfl; (focus (intro _; go_simp; (try go_ints); rfl)); (focus (go_simp; rfl))))
        refine wpOrd_shutr rfl rfl rfl (by go_simp; try rfl) (fun ns => ?_)
        refine ⟨k3.drewN _, ?_⟩
        repeat (first
          | (apply wpOrd_skip rfl (by decide) rfl; (focus (go_simp; rfl)))
          | (apply wpOrd_pure rfl rfl rfl; (focus (intro _ _; go_simp; (try go_ints); rfl)); (focus (go_simp; rfl)))
          | (apply wpOrd_read rfl rfl rfl; (focus (intro _; go_simp; (try go_ints); rfl)); (focus (go_simp; rfl))))
        refine wpOrd_eff rfl rfl (fun q => ?_)
        go_wp2_with fail
        refine (known_any _).mono ?_
        rintro e' w4 ⟨rfl, hk⟩
        have k4 : Kp No W0 w4 := ((k3).drewN _).trans_same hk
        clear hk
        go_wp2_with fail
        repeat (first
          | (apply wpOrd_skip rfl (by decide) rfl; (focus (go_simp; rfl)))
          | (apply wpOrd_pure rfl rfl rfl; (focus (intro _ _; go_simp; (try go_ints); rfl)); (focus (go_simp; rfl)))
          | (apply wpOrd_read rfl rfl rfl; (focus (intro _; go_simp; (try go_ints); rfl)); (focus (go_simp; rfl))))
        refine wpOrd_nil (fun nq => ?_)
        have H7 := Lib.hid (HK.out.trans_same k4)
        clear k1 k2 k3 k4 c0 c1 r0 r1
        go_wp2_with fail
        go_ret
        exact ⟨rfl, H7.out.drewN _⟩
      · obtain ⟨j, hj⟩ : ∃ j, j = k - 1 := ⟨_, rfl⟩
        have hkj : k = j + 1 := by omega
        obtain ⟨y, hy⟩ : ∃ y, L[j]? = some y := ⟨L[j]'(by rw [← HKL.out]; omega), by simp⟩
        have by1 := isF_day hif hy
        obtain ⟨s3, s4⟩ := s2 j y hkj hy
        obtain ⟨t3, t4⟩ := tbV_at _ _ _ hy
        obtain ⟨g', off', hg', _, _, p2⟩ := hRw.at_ t4
        obtain ⟨rfl, rfl⟩ : g = g' ∧ off = off' := by simpa using hg'
        rw [Nat.mul_comm 2] at p2
        rw [← Nat.add_assoc] at p2
        have r2 : ∀ W, Kp No W0 W → W.cell? ⟨g, off + j * 2 + 1, none⟩ = some (.int .i64 y.2) := fun W h => (h.cell (p := ⟨g, off + j * 2 + 1, none⟩) hgw fun x => x).trans p2
        obtain ⟨u1, hu1⟩ : ∃ u, u = 86400 + x.2 := ⟨_, rfl⟩
        obtain ⟨u2, hu2⟩ : ∃ u, u = u1 - y.2 := ⟨_, rfl⟩
        have eu1 : wrap64 (86400 + x.2) = u1 := by rw [hu1]; exact IntWalk.wrap64_in _ (by omega)
        have eu2 : wrap64 (u1 - y.2) = u2 := by rw [hu2]; exact IntWalk.wrap64_in _ (by omega)
        have HKJ1 := Lib.hid (show (k : Int) - 1 = (j : Int) by omega)
        have HL1 := HL0
        rw [s4, ← hu1, ← hu2] at HL1
        have HO1 := HOF.out d
        rw [s3] at HO1
        have HO1' := Lib.hid HO1
        have hjK : j < K := by omega
        have kz : decide ((0 : Int) < (k : Int)) = true := by rw [decide_eq_true_iff]; omega
        have kz2 : ((k : Int) == 0) = false := by rw [beq_eq_false_iff_ne]; omega
        have kz3 : decide (0 < k) = true := decide_eq_true hkp
        have kz4 : (k == 0) = false := by rw [beq_eq_false_iff_ne]; omega
        have kz5 : ¬ k = 0 := by omega
        clear s0 s1 s2 s3 s4 hx hy bx by1 hd HO0 HO1 HOF HLE HL0 t1 t2 t3 t4 hRw hgB hB hg' p0 p1 p2 hgw hk hv1 hif hp hkp hj hkj hu1 hu2
        go_enter Tryd.func5, Tryd.ntmps5
        go_wp2_with fail
        rw [← HW.out]
        go_wp2_with fail
        refine (HIS.out _ (Kp.refl _ _)).mono ?_
        rintro e' w1 ⟨rfl, k1⟩
        have d0 := c0 w1 k1
        have d1 := c1 w1 k1
        have d2 := r0 w1 k1
        go_wp2_with fail
        clear d0 d1 d2
        refine wp_region_held' (Kp No W0) [0,0,0,0,0,0,0,0,0,0,0,0,0,0,0,0,0] [0,1,2,3,4,5,6,7,8,9,10,11,12,13,14,15,16] (by kernel_rfl) (by kernel_rfl) (fun _ n h => h.drewN n) k1 ?_
        repeat (first
          | (apply wpOrd_skip rfl (by decide) rfl; (focus (go_simp; rfl)))
          | (apply wpOrd_pure rfl rfl rfl; (focus (intro _ _; go_simp; (try go_ints); rfl)); (focus (go_simp; rfl)))
          | (apply wpOrd_read rfl rfl rfl; (focus (intro _; go_simp; (try go_ints); rfl)); (focus (go_simp; rfl))))
        rw [HKJ1.out]
        repeat (first
          | (apply wpOrd_skip rfl (by decide) rfl; (focus (go_simp; rfl)))
          | (apply wpOrd_pure rfl rfl rfl; (focus (intro _ _; go_simp; (try go_ints); rfl)); (focus (go_simp; rfl)))
          | (apply wpOrd_read rfl rfl rfl; (focus (intro _; go_simp; (try go_ints); rfl)); (focus (go_simp; rfl))))
        refine wpOrd_nil (fun nq => ?_)
        have k1' := k1.drewN nq
        go_wp2_with fail
        refine wp_region_held' (Kp No W0) [0,0,0,2,0,0,0,0,0,2,0,0,0,0,0,0,0,0,0,0,0,0,0,0,0,2,0,0,0,0,0,0,0,0,0,0,0,2,0,0] [0,1,2,4,3,5,6,7,8,10,11,12,13,14,15,9,16,17,18,19,20,21,22,23,24,26,27,28,29,30,31,32,25,33,34,35,36,37,38,39] (by kernel_rfl) (by kernel_rfl) (fun _ n h => h.drewN n) k1' ?_
        repeat (first
          | (apply wpOrd_skip rfl (by decide) rfl; (focus (go_simp; rfl)))
          | (apply wpOrd_pure rfl rfl rfl; (focus (intro _ _; go_simp; (try go_ints); rfl)); (focus (go_simp; rfl)))
          | (apply wpOrd_read rfl rfl rfl; (focus (intro _; go_simp; (try go_ints); rfl)); (focus (go_simp; rfl))))
        refine wpOrd_eff rfl rfl (fun q => ?_)
        go_wp2_with fail
        refine (HL1.out _ (k1.drewN _)).mono ?_
        rintro e' w2 ⟨rfl, hk⟩
        have k2 : Kp No W0 w2 := ((k1).drewN _).trans_same hk
        clear hk
        go_wp2_with fail
        repeat (first
          | (apply wpOrd_skip rfl (by decide) rfl; (focus (go_simp; rfl)))
          | (apply wpOrd_pure rfl rfl rfl; (focus (intro _ _; go_simp; (try go_ints); rfl)); (focus (go_simp; rfl)))
          | (apply wpOrd_read rfl rfl rfl; (focus (intro _; go_simp; (try go_ints); rfl)); (focus (go_simp; rfl))))
        refine wpOrd_eff rfl rfl (fun q => ?_)
        go_wp2_with fail
        refine (HO0'.out _ (k2.drewN _)).mono ?_
        rintro e' w3 ⟨rfl, hk⟩
        have k3 : Kp No W0 w3 := ((k2).drewN _).trans_same hk
        clear hk
        go_wp2_with fail
        repeat (first
          | (apply wpOrd_skip rfl (by decide) rfl; (focus (go_simp; rfl)))
          | (apply wpOrd_pure rfl rfl rfl; (focus (intro _ _; go_simp; (try go_ints); rfl)); (focus (go_simp; rfl)))
          | (apply wpOrd_read rfl rfl rfl; (focus (intro _; go_simp; (try go_ints); rfl)); (focus (go_simp; rfl))))
        rw [HKJ1.out]
        repeat (first
          | (apply wpOrd_skip rfl (by decide) rfl; (focus (go_simp; rfl)))
          | (apply wpOrd_pure rfl rfl rfl; (focus (intro _ _; go_simp; (try go_ints); rfl)); (focus (go_simp; rfl)))
          | (apply wpOrd_read rfl rfl rfl; (focus (intro _; go_simp; (try go_ints); rfl)); (focus (go_simp; rfl))))
        refine wpOrd_eff rfl rfl (fun q => ?_)
        go_wp2_with fail
        refine (HO1'.out _ (k3.drewN _)).mono ?_
        rintro e' w4 ⟨rfl, hk⟩
        have k4 : Kp No W0 w4 := ((k3).drewN _).trans_same hk
        clear hk
        go_wp2_with fail
        repeat (first
          | (apply wpOrd_skip rfl (by decide) rfl; (focus (go_simp; rfl)))
          | (apply wpOrd_pure rfl rfl rfl; (focus (intro _ _; go_simp; (try go_ints); rfl)); (focus (go_simp; rfl)))
          | (apply wpOrd_read rfl rfl rfl; (focus (intro _; go_simp; (try go_ints); rfl)); (focus (go_simp; rfl))))
        refine wpOrd_eff rfl rfl (fun q => ?_)
        go_wp2_with fail
        refine (known_any _).mono ?_
        rintro e' w5 ⟨rfl, hk⟩
        have k5 : Kp No W0 w5 := ((k4).drewN _).trans_same hk
        clear hk
        go_wp2_with fail
        repeat (first
          | (apply wpOrd_skip rfl (by decide) rfl; (focus (go_simp; rfl)))
          | (apply wpOrd_pure rfl rfl rfl; (focus (intro _ _; go_simp; (try go_ints); rfl)); (focus (go_simp; rfl)))
          | (apply wpOrd_read rfl rfl rfl; (focus (intro _; go_simp; (try go_ints); rfl)); (focus (go_simp; rfl))))
        refine wpOrd_nil (fun nq => ?_)
        have H7 := Lib.hid (HK.out.trans_same k5)
        clear k1 k2 k3 k4 k5 k1' c0 c1 r0 r1 r2
        go_wp2_with fail
        go_ret
        exact ⟨rfl, H7.out.drewN _⟩
end Go.Proofs.YtapikolgpmefbaaDoor
