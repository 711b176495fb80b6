/-
  Is it a table: the reference's Is.
-/
import Derived.Test.YtapikolgpmefbaaGreatDoorLRLeaps
namespace Go.Proofs.YtapikolgpmefbaaGreatDoor
open Go.RowKit Go.Mer

/-- An effect that its guard shuts out. -/
theorem wpOrd_shutr {P : Program} {ops : Array Oper} {ks : List Nat} {S : World → Prop} {Q : Exit → Act → World → Prop} {i : Nat} {o : Oper} {rest : List Nat} {a : Act} {w : World} (ho : ops[i]? = some o) (hk : ks.getD i 2 = 2)
    (hg : Region.wanted o (yielded ops a.tmps) = false) {A : Act} (hA : a.put o.dst undef = A) (h : ∀ n, S (w.drewN n) ∧ wpOrd P ops ks S Q rest A (w.drewN n)) : wpOrd P ops ks S Q (i :: rest) a w := by
  subst hA
  refine wpOrd_eff ho hk fun n => ?_
  unfold wpList
  rw [if_neg (by rw [hg]; decide)]
  exact ⟨rfl, h n⟩
set_option maxHeartbeats 4000000 in
theorem rIs_any (L : List (Int × Int)) (n : Int) (w : World) (a : Option Addr) (cap B : Nat) (hR : Rd w B a (tbV L)) (hl : L.length ≤ 1000000) : Calls Tryz.prog 12 #[.agg #[.slice a L.length cap, .int .i64 n]] w fun e w' => e = .returned (.bool (isF L n)) ∧ Kp No w w' := by
  have HI := Lib.hid rIn_any
  obtain ⟨r, hr⟩ : ∃ r, r = isF L n := ⟨_, rfl⟩
  rw [← hr]
  unfold isF endsF at hr
  have HLN := Lib.hid hl
  have HRL := Lib.hid (fun (W : World) (hW : Kp No w W) => rleaps_any L W a cap B (hR.keep hW fun _ _ x => x) hl)
  obtain ⟨K, hK⟩ : ∃ K, K = L.length := ⟨_, rfl⟩
  rw [← hK] at HRL
  rw [← hK]
  obtain ⟨W0, hW0⟩ : ∃ W0, W0 = w.alloc (.cells #[.slice a K cap, .int .i64 n] 24 (0, 0)) := ⟨_, rfl⟩
  have hb : W0.heap[w.heap.size]? = some (.cells #[.slice a K cap, .int .i64 n] 24 (0, 0)) := by rw [hW0]; exact heap_alloc_new w _
  have HB := Lib.hid hb
  have HK0 := Lib.hid (show Kp No w W0 by rw [hW0]; exact (Kp.refl _ _).alloc _)
  have HW := Lib.hid hW0
  have HRD := Lib.hid (hR.keep HK0.out fun _ _ x => x)
  clear hb hW0 hR hl
  rcases Nat.eq_zero_or_pos K with rfl | hp
  · have HR := Lib.hid (show r = false by rw [hr, List.length_eq_zero_iff.1 hK.symm]; simp)
    have b0 := cell_at HB.out 0
    simp at b0
    clear hr hK
    go_enter Tryz.func12, Tryz.ntmps12
    go_wp2_with fail
    rw [← HW.out]
    refine wp_region_ord [0,0,0,0,1,2,0,0,0,1,2,0,0,0,1,0,1,0,0,0,0,1,0,0,0] [0,1,2,3,4,5,6,7,8,9,10,11,12,13,15,17,18,14,16,19,20,21,22,23,24] (by kernel_rfl) (by kernel_rfl) ?_
    repeat (first
      | (apply wpOrd_skip rfl (by decide) rfl; (focus (go_simp; rfl)))
      | (apply wpOrd_pure rfl rfl rfl; (focus (intro _ _; go_simp; (try go_ints); rfl)); (focus (go_simp; rfl)))
      | (apply wpOrd_read rfl rfl rfl; (focus (intro _; go_simp; (try go_ints); rfl)); (focus (go_simp; rfl))))
    refine wpOrd_shutr rfl rfl rfl (by go_simp; try rfl) (fun ns => ?_)
    refine ⟨trivial, ?_⟩
    repeat (first
      | (apply wpOrd_skip rfl (by decide) rfl; (focus (go_simp; rfl)))
      | (apply wpOrd_pure rfl rfl rfl; (focus (intro _ _; go_simp; (try go_ints); rfl)); (focus (go_simp; rfl)))
      | (apply wpOrd_read rfl rfl rfl; (focus (intro _; go_simp; (try go_ints); rfl)); (focus (go_simp; rfl))))
    refine wpOrd_shutr rfl rfl rfl (by go_simp; try rfl) (fun ns => ?_)
    refine ⟨trivial, ?_⟩
    repeat (first
      | (apply wpOrd_skip rfl (by decide) rfl; (focus (go_simp; rfl)))
      | (apply wpOrd_pure rfl rfl rfl; (focus (intro _ _; go_simp; (try go_ints); rfl)); (focus (go_simp; rfl)))
      | (apply wpOrd_read rfl rfl rfl; (focus (intro _; go_simp; (try go_ints); rfl)); (focus (go_simp; rfl))))
    refine wpOrd_nil (fun nq => ?_)
    go_wp2_with fail
    go_ret
    refine ⟨?_, ((HK0.out.drewN _).drewN _).drewN _⟩
    rw [HR.out]
    rfl
  · obtain ⟨j, hj⟩ : ∃ j, j = K - 1 := ⟨_, rfl⟩
    obtain ⟨y, hy⟩ : ∃ y, L[j]? = some y := ⟨L[j]'(by rw [← hK]; omega), by simp⟩
    have hlast : L.getLast? = some y := by rw [List.getLast?_eq_getElem?, ← hK, ← hj]; exact hy
    rw [hlast] at hr
    simp only at hr
    have bK : decide (0 < K) = true := decide_eq_true hp
    have bK' : decide ((0 : Int) < (K : Int)) = true := by rw [decide_eq_true_iff]; omega
    have hjK : j < K := by omega
    have hw : wrap64 ((K : Int) - 1) = (j : Int) := by rw [IntWalk.wrap64_in _ (by have := HLN.out; omega)]; omega
    obtain ⟨t1, t2⟩ := tbV_at _ _ _ hy
    have hRw := HRD.out
    obtain ⟨g, off, rfl, hgB, hB, p0⟩ := hRw.at_ t1
    rw [Nat.mul_comm 2] at p0
    have HGB := Lib.hid (Nat.lt_of_lt_of_le hgB hB)
    have HP := Lib.hid p0
    clear hgB hB hRw t1 t2 hlast hy hj hp hK p0
    have b0 := cell_at HB.out 0
    have b1 := cell_at HB.out 1
    simp at b0 b1
    cases h1 : leapsF [] L with
    | false =>
      have HR := Lib.hid (show r = false by rw [hr, h1]; rfl)
      rw [h1] at HRL
      clear hr h1
      go_enter Tryz.func12, Tryz.ntmps12
      go_wp2_with fail
      rw [← HW.out]
      refine wp_region_ord [0,0,0,0,1,2,0,0,0,1,2,0,0,0,1,0,1,0,0,0,0,1,0,0,0] [0,1,2,3,4,5,6,7,8,9,10,11,12,13,15,17,18,14,16,19,20,21,22,23,24] (by kernel_rfl) (by kernel_rfl) ?_
      repeat (first
        | (apply wpOrd_skip rfl (by decide) rfl; (focus (go_simp; rfl)))
        | (apply wpOrd_pure rfl rfl rfl; (focus (intro _ _; go_simp; (try go_ints); rfl)); (focus (go_simp; rfl)))
        | (apply wpOrd_read rfl rfl rfl; (focus (intro _; go_simp; (try go_ints); rfl)); (focus (go_simp; rfl))))
      refine wpOrd_eff rfl rfl (fun n1 => ?_)
      go_wp2_with fail
      refine (HRL.out _ (HK0.out.drewN n1)).mono ?_
      rintro e w2 ⟨rfl, hk2⟩
      have c0 := (hk2.get (show (W0.drewN n1).heap[w.heap.size]? = _ from HB.out) (fun x => x)) |> fun h => cell_at h 0
      have c1 := (hk2.get (show (W0.drewN n1).heap[w.heap.size]? = _ from HB.out) (fun x => x)) |> fun h => cell_at h 1
      simp at c0 c1
      have d0 := ((Kp.refl No W0).drewN n1 |>.trans_same hk2).cell HGB.out (fun x => x) |>.trans HP.out
      have HK2 := Lib.hid ((HK0.out.drewN n1).trans_same hk2)
      clear hk2 b0 b1
      go_wp2_with fail
      repeat (first
        | (apply wpOrd_skip rfl (by decide) rfl; (focus (go_simp; rfl)))
        | (apply wpOrd_pure rfl rfl rfl; (focus (intro _ _; go_simp; (try go_ints); rfl)); (focus (go_simp; rfl)))
        | (apply wpOrd_read rfl rfl rfl; (focus (intro _; go_simp; (try go_ints); rfl)); (focus (go_simp; rfl))))
      refine wpOrd_shutr rfl rfl rfl (by go_simp; try rfl) (fun ns => ?_)
      refine ⟨trivial, ?_⟩
      repeat (first
        | (apply wpOrd_skip rfl (by decide) rfl; (focus (go_simp; rfl)))
        | (apply wpOrd_pure rfl rfl rfl; (focus (intro _ _; go_simp; (try go_ints); rfl)); (focus (go_simp; rfl)))
        | (apply wpOrd_read rfl rfl rfl; (focus (intro _; go_simp; (try go_ints); rfl)); (focus (go_simp; rfl))))
      refine wpOrd_nil (fun nq => ?_)
      go_wp2_with fail
      go_ret
      refine ⟨?_, (HK2.out.drewN _).drewN _⟩
      rw [HR.out]
      rfl
    | true =>
      rw [h1] at HRL hr
      clear h1
      cases h2 : inF n with
      | false =>
        have HR := Lib.hid (show r = false by rw [hr, h2]; rfl)
        clear hr
        go_enter Tryz.func12, Tryz.ntmps12
        go_wp2_with fail
        rw [← HW.out]
        refine wp_region_ord [0,0,0,0,1,2,0,0,0,1,2,0,0,0,1,0,1,0,0,0,0,1,0,0,0] [0,1,2,3,4,5,6,7,8,9,10,11,12,13,15,17,18,14,16,19,20,21,22,23,24] (by kernel_rfl) (by kernel_rfl) ?_
        repeat (first
          | (apply wpOrd_skip rfl (by decide) rfl; (focus (go_simp; rfl)))
          | (apply wpOrd_pure rfl rfl rfl; (focus (intro _ _; go_simp; (try go_ints); rfl)); (focus (go_simp; rfl)))
          | (apply wpOrd_read rfl rfl rfl; (focus (intro _; go_simp; (try go_ints); rfl)); (focus (go_simp; rfl))))
        refine wpOrd_eff rfl rfl (fun n1 => ?_)
        go_wp2_with fail
        refine (HRL.out _ (HK0.out.drewN n1)).mono ?_
        rintro e w2 ⟨rfl, hk2⟩
        have c0 := (hk2.get (show (W0.drewN n1).heap[w.heap.size]? = _ from HB.out) (fun x => x)) |> fun h => cell_at h 0
        have c1 := (hk2.get (show (W0.drewN n1).heap[w.heap.size]? = _ from HB.out) (fun x => x)) |> fun h => cell_at h 1
        simp at c0 c1
        have d0 := ((Kp.refl No W0).drewN n1 |>.trans_same hk2).cell HGB.out (fun x => x) |>.trans HP.out
        have HK2 := Lib.hid ((HK0.out.drewN n1).trans_same hk2)
        clear hk2 b0 b1
        go_wp2_with fail
        repeat (first
          | (apply wpOrd_skip rfl (by decide) rfl; (focus (go_simp; rfl)))
          | (apply wpOrd_pure rfl rfl rfl; (focus (intro _ _; go_simp; (try go_ints); rfl)); (focus (go_simp; rfl)))
          | (apply wpOrd_read rfl rfl rfl; (focus (intro _; go_simp; (try go_ints); rfl)); (focus (go_simp; rfl))))
        refine wpOrd_eff rfl rfl (fun n2 => ?_)
        go_wp2_with fail
        refine (HI.out _ _).mono ?_
        rintro e w3 ⟨rfl, rfl⟩
        rw [h2]
        go_wp2_with fail
        repeat (first
          | (apply wpOrd_skip rfl (by decide) rfl; (focus (go_simp; rfl)))
          | (apply wpOrd_pure rfl rfl rfl; (focus (intro _ _; go_simp; (try go_ints); rfl)); (focus (go_simp; rfl)))
          | (apply wpOrd_read rfl rfl rfl; (focus (intro _; go_simp; (try go_ints); rfl)); (focus (go_simp; rfl))))
        refine wpOrd_nil (fun nq => ?_)
        go_wp2_with fail
        go_ret
        refine ⟨?_, (HK2.out.drewN _).drewN _⟩
        rw [HR.out]
        rfl
      | true =>
        rw [h2] at hr
        have HR := Lib.hid (show r = decide (y.1 < n) by rw [hr]; rfl)
        clear hr
        go_enter Tryz.func12, Tryz.ntmps12
        go_wp2_with fail
        rw [← HW.out]
        refine wp_region_ord [0,0,0,0,1,2,0,0,0,1,2,0,0,0,1,0,1,0,0,0,0,1,0,0,0] [0,1,2,3,4,5,6,7,8,9,10,11,12,13,15,17,18,14,16,19,20,21,22,23,24] (by kernel_rfl) (by kernel_rfl) ?_
        repeat (first
          | (apply wpOrd_skip rfl (by decide) rfl; (focus (go_simp; rfl)))
          | (apply wpOrd_pure rfl rfl rfl; (focus (intro _ _; go_simp; (try go_ints); rfl)); (focus (go_simp; rfl)))
          | (apply wpOrd_read rfl rfl rfl; (focus (intro _; go_simp; (try go_ints); rfl)); (focus (go_simp; rfl))))
        refine wpOrd_eff rfl rfl (fun n1 => ?_)
        go_wp2_with fail
        refine (HRL.out _ (HK0.out.drewN n1)).mono ?_
        rintro e w2 ⟨rfl, hk2⟩
        have c0 := (hk2.get (show (W0.drewN n1).heap[w.heap.size]? = _ from HB.out) (fun x => x)) |> fun h => cell_at h 0
        have c1 := (hk2.get (show (W0.drewN n1).heap[w.heap.size]? = _ from HB.out) (fun x => x)) |> fun h => cell_at h 1
        simp at c0 c1
        have d0 := ((Kp.refl No W0).drewN n1 |>.trans_same hk2).cell HGB.out (fun x => x) |>.trans HP.out
        have HK2 := Lib.hid ((HK0.out.drewN n1).trans_same hk2)
        clear hk2 b0 b1
        go_wp2_with fail
        repeat (first
          | (apply wpOrd_skip rfl (by decide) rfl; (focus (go_simp; rfl)))
          | (apply wpOrd_pure rfl rfl rfl; (focus (intro _ _; go_simp; (try go_ints); rfl)); (focus (go_simp; rfl)))
          | (apply wpOrd_read rfl rfl rfl; (focus (intro _; go_simp; (try go_ints); rfl)); (focus (go_simp; rfl))))
        refine wpOrd_eff rfl rfl (fun n2 => ?_)
        go_wp2_with fail
        refine (HI.out _ _).mono ?_
        rintro e w3 ⟨rfl, rfl⟩
        rw [h2]
        go_wp2_with fail
        repeat (first
          | (apply wpOrd_skip rfl (by decide) rfl; (focus (go_simp; rfl)))
          | (apply wpOrd_pure rfl rfl rfl; (focus (intro _ _; go_simp; (try go_ints); rfl)); (focus (go_simp; rfl)))
          | (apply wpOrd_read rfl rfl rfl; (focus (intro _; go_simp; (try go_ints); rfl)); (focus (go_simp; rfl))))
        refine wpOrd_nil (fun nq => ?_)
        go_wp2_with fail
        go_ret
        refine ⟨?_, (HK2.out.drewN _).drewN _⟩
        rw [HR.out]
        rfl
end Go.Proofs.YtapikolgpmefbaaGreatDoor
