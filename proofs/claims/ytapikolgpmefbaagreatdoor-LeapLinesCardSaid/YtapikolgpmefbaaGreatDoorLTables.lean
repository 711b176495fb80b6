/-
  Two tables that are one: the law's tables.
-/
import Derived.Test.YtapikolgpmefbaaGreatDoorLRIs
namespace Go.Proofs.YtapikolgpmefbaaGreatDoor
open Go.RowKit Go.Mer

set_option maxHeartbeats 1000000 in
theorem tables_same (w : World) (L : List (Int × Int)) (e : Int) (a b : Option Addr) (ca cb Ba Bb : Nat) (hA : Rd w Ba a (tbV L)) (hB : Rd w Bb b (tbV L)) (hl : L.length ≤ 1000000) :
    Calls Tryz.prog 11 #[.agg #[.slice a L.length ca, .int .i64 e], .agg #[.slice b L.length cb, .int .i64 e]] w fun e' w' => e' = .returned (.bool true) ∧ Kp No w w' := by
  obtain ⟨K, hK⟩ : ∃ K, K = L.length := ⟨_, rfl⟩
  rw [← hK]
  obtain ⟨W0, hW0⟩ : ∃ W0, W0 = (w.alloc (.cells #[.slice a K ca, .int .i64 e] 24 (0, 0))).alloc (.cells #[.slice b K cb, .int .i64 e] 24 (0, 0)) := ⟨_, rfl⟩
  have hb1 : W0.heap[w.heap.size]? = some (.cells #[.slice a K ca, .int .i64 e] 24 (0, 0)) := by rw [hW0]; exact alloc_far (heap_alloc_new w _) _
  have hb2 : W0.heap[w.heap.size + 1]? = some (.cells #[.slice b K cb, .int .i64 e] 24 (0, 0)) := by
    rw [hW0]
    have := heap_alloc_new (w.alloc (.cells #[.slice a K ca, .int .i64 e] 24 (0, 0))) (.cells #[.slice b K cb, .int .i64 e] 24 (0, 0))
    rwa [World.size_alloc] at this
  have hk0 : Kp No w W0 := by rw [hW0]; exact ((Kp.refl _ _).alloc _).alloc _
  have HK := Lib.hid hk0
  have HW := Lib.hid hW0
  have HKL := Lib.hid hK
  have HLN := Lib.hid hl
  have HRA := Lib.hid (hA.keep hk0 fun _ _ x => x)
  have HRB := Lib.hid (hB.keep hk0 fun _ _ x => x)
  have HB1 := Lib.hid hb1
  have HB2 := Lib.hid hb2
  have c0 := cell_at hb1 0
  have c1 := cell_at hb1 1
  have c2 := cell_at hb2 0
  have c3 := cell_at hb2 1
  simp at c0 c1 c2 c3
  clear hK hW0 hb1 hb2 hk0 hA hB hl
  go_enter Tryz.func11, Tryz.ntmps11
  go_wp2_with fail
  rw [← HW.out]
  go_wp2_with fail
  clear c0 c1 c2 c3
  go_loopw [5] (fun i wr => ∃ k : Nat, k ≤ K ∧ i = .int .i64 (k : Int) ∧ Hid (Kp No W0 wr)) (fun i _ => K - (intOf i).toNat)
  case atStart => exact ⟨0, by omega, rfl, Lib.hid (Kp.refl _ _)⟩
  case round =>
    obtain ⟨k, hk, rfl, HKW⟩ := hrel
    have c0 := cell_at (HKW.out.get HB1.out fun x => x) 0
    have c2 := cell_at (HKW.out.get HB2.out fun x => x) 0
    simp at c0 c2
    rcases Nat.lt_or_ge k K with hc | hc
    · have hkc : decide (k < K) = true := decide_eq_true hc
      obtain ⟨x, hx⟩ : ∃ x, L[k]? = some x := ⟨L[k]'(by rw [← HKL.out]; exact hc), by simp⟩
      obtain ⟨t1, t2⟩ := tbV_at _ _ _ hx
      have hRa := HRA.out.keep HKW.out fun _ _ x => x
      have hRb := HRB.out.keep HKW.out fun _ _ x => x
      obtain ⟨g, off, rfl, _, _, p0⟩ := hRa.at_ t1
      obtain ⟨g', off', hg', _, _, p1⟩ := hRa.at_ t2
      obtain ⟨rfl, rfl⟩ : g = g' ∧ off = off' := by simpa using hg'
      obtain ⟨f, of, rfl, _, _, q0⟩ := hRb.at_ t1
      obtain ⟨f', of', hf', _, _, q1⟩ := hRb.at_ t2
      obtain ⟨rfl, rfl⟩ : f = f' ∧ of = of' := by simpa using hf'
      rw [Nat.mul_comm 2] at p0 p1 q0 q1
      rw [← Nat.add_assoc] at p1 q1
      have HWK := Lib.hid (show wrap64 ((k : Int) + 1) = ((k + 1 : Nat) : Int) by rw [IntWalk.wrap64_in _ (by have := HLN.out; have := HKL.out; omega)]; push_cast; rfl)
      clear hx t1 t2 hRa hRb hg' hf'
      go_wp2_with fail
      refine wp_region_ord [0,1,0,0,1,0,1,0,0,1,0] [0,2,5,7,1,3,4,6,8,9,10] (by kernel_rfl) (by kernel_rfl) ?_
      repeat (first
        | (apply wpOrd_skip rfl (by decide) rfl; (focus (go_simp; rfl)))
        | (apply wpOrd_pure rfl rfl rfl; (focus (intro _ _; go_simp; (try go_ints); rfl)); (focus (go_simp; rfl)))
        | (apply wpOrd_read rfl rfl rfl; (focus (intro _; go_simp; (try go_ints); rfl)); (focus (go_simp; rfl))))
      refine wpOrd_nil (fun nq => ?_)
      go_wp2_with fail
      rw [HWK.out]
      go_round
      · exact ⟨k + 1, by omega, rfl, Lib.hid (HKW.out.drewN _)⟩
      · simp only [intOf, Int.toNat_natCast]; omega
    · obtain rfl : k = K := by omega
      have hkc : decide (k < k) = false := by simp
      clear hk hc
      go_wp2_with fail
      go_ret
      exact ⟨rfl, HK.out.trans_same HKW.out⟩
end Go.Proofs.YtapikolgpmefbaaGreatDoor
