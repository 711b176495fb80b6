/-
  Is it a table: leap's Is.
-/
import Derived.Test.YtapikolgpmefbaaGreatDoorLFollow
import Derived.Test.YtapikolgpmefbaaGreatDoorLRows
import Derived.Test.YtapikolgpmefbaaGreatDoorLEnds
namespace Go.Proofs.YtapikolgpmefbaaGreatDoor
open Go.RowKit Go.Mer

theorem tbV_take (L : List (Int × Int)) : ∀ k, tbV (L.take k) = (tbV L).take (2 * k) := by
  induction L with
  | nil => intro k; simp [tbV]
  | cons y r ih =>
    intro k
    cases k with
    | zero => simp [tbV]
    | succ k => rw [List.take_succ_cons, tbV, ih, tbV, show 2 * (k + 1) = 2 * k + 1 + 1 by omega, List.take_succ_cons, List.take_succ_cons]
theorem Is_any (L : List (Int × Int)) (n : Int) (w : World) (a : Option Addr) (cap B : Nat) (hR : Rd w B a (tbV L)) (hl : L.length ≤ 1000000) (hcap : L.length ≤ cap) : Calls Tryz.prog 14 #[.agg #[.slice a L.length cap, .int .i64 n]] w fun e w' => e = .returned (.bool (isF L n)) ∧ Kp No w w' := by
  obtain ⟨r, hr⟩ : ∃ r, r = isF L n := ⟨_, rfl⟩
  rw [← hr]
  have HRV := Lib.hid hr
  have HRD := Lib.hid hR
  have HLN := Lib.hid (And.intro hl hcap)
  clear hr hR hl hcap
  obtain ⟨K, hK⟩ : ∃ K, K = L.length := ⟨_, rfl⟩
  rw [← hK]
  have HK := Lib.hid hK
  clear hK
  go_enter Tryz.func14, Tryz.ntmps14
  go_wp2_with fail
  obtain ⟨W0, hW0⟩ : ∃ W0, W0 = w.alloc (.cells #[.slice a K cap, .int .i64 n] 24 (0, 0)) := ⟨_, rfl⟩
  rw [← hW0]
  have hb : W0.heap[w.heap.size]? = some (.cells #[.slice a K cap, .int .i64 n] 24 (0, 0)) := by rw [hW0]; exact heap_alloc_new w _
  have HB := Lib.hid hb
  have HK0 := Lib.hid (show Kp No w W0 by rw [hW0]; exact (Kp.refl _ _).alloc _)
  clear hb hW0
  go_loopw [8] (fun i wr => ∃ k : Nat, k ≤ K ∧ i = .int .i64 (k : Int) ∧ Hid (Fol L k) ∧ Hid (Kp No W0 wr)) (fun i _ => K - (intOf i).toNat)
  case atStart => exact ⟨0, by omega, rfl, Lib.hid (Fol.zero L), Lib.hid (Kp.refl _ _)⟩
  case round =>
    obtain ⟨k, hk, rfl, HF, HKW⟩ := hrel
    have hbb := HKW.out.get HB.out fun x => x
    have c0 := cell_at hbb 0
    have c1 := cell_at hbb 1
    simp at c0 c1
    have HBB := Lib.hid hbb
    clear hbb
    rcases Nat.lt_or_ge k K with hc | hc
    · obtain ⟨x, hx⟩ : ∃ x, L[k]? = some x := ⟨L[k]'(by rw [← HK.out]; exact hc), by simp⟩
      obtain ⟨t1, t2⟩ := tbV_at _ _ _ hx
      have hRw := (HRD.out.keep HK0.out fun _ _ x => x).keep HKW.out fun _ _ x => x
      have hfol := fun (W : World) (hW : Kp No wr W) => follows_any (L.take k) x W a cap B (by rw [tbV_take]; exact (hRw.keep hW fun _ _ x => x).take _) (by rw [List.length_take]; have := HLN.out.1; omega) HF.out.last
      rw [List.length_take, Nat.min_eq_left (by rw [← HK.out]; omega)] at hfol
      have HFO := Lib.hid hfol
      clear hfol
      obtain ⟨g, off, rfl, hgB, hB, q0⟩ := hRw.at_ t1
      obtain ⟨g', off', hg', _, _, q1⟩ := hRw.at_ t2
      obtain ⟨rfl, rfl⟩ : g = g' ∧ off = off' := by simpa using hg'
      rw [Nat.mul_comm 2] at q0 q1
      rw [← Nat.add_assoc] at q1
      have HX := Lib.hid (And.intro hk hx)
      have hkc : decide (k < K) = true := by rw [decide_eq_true_iff]; exact hc
      have HGB := Lib.hid (Nat.lt_of_lt_of_le hgB hB)
      clear hk hx t1 t2 hRw hg' hgB hB
      go_wp2_with fail
      obtain ⟨W2, hW2⟩ : ∃ W2, W2 = wr.alloc (.cells #[.int .i64 x.1, .int .i64 x.2] 38 (0, 0)) := ⟨_, rfl⟩
      rw [← hW2]
      have hk2 : Kp No wr W2 := by rw [hW2]; exact (Kp.refl _ _).alloc _
      have e0 := cell_at (hk2.get HBB.out fun x => x) 0
      have e1 := cell_at (by rw [hW2]; exact heap_alloc_new wr _ : W2.heap[wr.heap.size]? = some (.cells #[.int .i64 x.1, .int .i64 x.2] 38 (0, 0))) 0
      have e2 := cell_at (by rw [hW2]; exact heap_alloc_new wr _ : W2.heap[wr.heap.size]? = some (.cells #[.int .i64 x.1, .int .i64 x.2] 38 (0, 0))) 1
      simp at e0 e1 e2
      have HK2 := Lib.hid hk2
      clear hW2 hk2 c0 c1 q0 q1
      have hkc2 : k ≤ cap := by have := HLN.out.2; have := HX.out.1; have := HK.out; omega
      refine wp_region_ord [0,1,0,0,1,2,0] [0,2,1,3,4,5,6] (by kernel_rfl) (by kernel_rfl) ?_
      repeat (first
        | (apply wpOrd_skip rfl (by decide) rfl; (focus (go_simp; rfl)))
        | (apply wpOrd_pure rfl rfl rfl; (focus (intro _ _; go_simp; (try go_ints); rfl)); (focus (go_simp; rfl)))
        | (apply wpOrd_read rfl rfl rfl; (focus (intro _; go_simp; (try go_ints); rfl)); (focus (go_simp; rfl))))
      refine wpOrd_eff rfl rfl (fun m => ?_)
      go_wp2_with fail
      refine (HFO.out _ (HK2.out.drewN m)).mono ?_
      rintro e w3 ⟨rfl, hk3⟩
      have HK3 := Lib.hid ((HK2.out.drewN m).trans_same hk3)
      clear hk3 e0 e1 e2
      cases hf : followF (L.take k) x
      · have HL := Lib.hid (Fol.no HX.out.2 hf)
        clear hf
        go_wp2_with fail
        repeat (first
          | (apply wpOrd_skip rfl (by decide) rfl; (focus (go_simp; rfl)))
          | (apply wpOrd_pure rfl rfl rfl; (focus (intro _ _; go_simp; (try go_ints); rfl)); (focus (go_simp; rfl)))
          | (apply wpOrd_read rfl rfl rfl; (focus (intro _; go_simp; (try go_ints); rfl)); (focus (go_simp; rfl))))
        refine wpOrd_nil (fun nq => ?_)
        go_wp2_with fail
        go_ret
        refine ⟨?_, ((HK0.out.trans_same HKW.out).trans_same HK3.out).drewN nq⟩
        rw [HRV.out, isF, HL.out, Bool.false_and]
        rfl
      · have HL := Lib.hid (HF.out.succ HX.out.2 hf)
        clear hf
        go_wp2_with fail
        repeat (first
          | (apply wpOrd_skip rfl (by decide) rfl; (focus (go_simp; rfl)))
          | (apply wpOrd_pure rfl rfl rfl; (focus (intro _ _; go_simp; (try go_ints); rfl)); (focus (go_simp; rfl)))
          | (apply wpOrd_read rfl rfl rfl; (focus (intro _; go_simp; (try go_ints); rfl)); (focus (go_simp; rfl))))
        refine wpOrd_nil (fun nq => ?_)
        go_wp2_with fail
        rw [show wrap64 ((k : Int) + 1) = ((k + 1 : Nat) : Int) by rw [IntWalk.wrap64_in _ (by have := HLN.out.1; have := HK.out; omega)]; push_cast; rfl]
        go_round
        · exact ⟨k + 1, by omega, rfl, HL, Lib.hid ((HKW.out.trans_same HK3.out).drewN nq)⟩
        · simp only [intOf, Int.toNat_natCast]; omega
    · obtain rfl : k = K := by omega
      clear hk hc
      have hcall := ends_any L n wr a cap B ((HRD.out.keep HK0.out fun _ _ x => x).keep HKW.out fun _ _ x => x) HLN.out.1
      rw [← HK.out] at hcall
      have HE := Lib.hid hcall
      clear hcall
      go_wp2_with fail
      refine HE.out.mono ?_
      rintro e w' ⟨rfl, hk⟩
      go_wp2_with fail
      go_ret
      refine ⟨?_, (HK0.out.trans_same HKW.out).trans_same hk⟩
      rw [HRV.out, isF, Fol.all (HK.out ▸ HF.out), Bool.true_and]
      rfl
end Go.Proofs.YtapikolgpmefbaaGreatDoor
