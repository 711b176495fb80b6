/-
  The disk: Copy.
-/
import Derived.Test.YtdibkdgafidjgaaGreatDoorWa3
import Derived.Test.YtdibkdgafidjgaaGreatDoorWa9
import Derived.Deep.CutRange
namespace Go.Proofs.YtdibkdgafidjgaaGreatDoor
open Go.RowKit Go.Mer
set_option maxRecDepth 100000 in
set_option maxHeartbeats 2000000 in
theorem Copy_any (w : World) (d : Nat) (s : DSt) (F : Nat → Prop) (hD : DiskAt w d s F) :
  Calls Tryz.prog 28 #[.pointer (some ⟨d, 0, none⟩)] w fun e w' => ∃ (do_ : Nat) (fs : Files), e = .returned (.pointer (some ⟨do_, 0, none⟩)) ∧ Kp No w w' ∧ fs.Perm s.files ∧ ∃ F', DiskAt w' do_ ⟨s.room, none, fs⟩ F' ∧ ∀ k, F' k → w.heap.size ≤ k := by
 obtain ⟨m, fused, left, L, hC, hf, hs, hF, hFs⟩ := hD
 have hmm := @run_makeMap Tryz.prog
 have c0 := cell_at hC.cell 0
 have hdl := get_lt hC.cell
 simp at c0
 obtain ⟨mo, hmo⟩ : ∃ x, x = w.heap.size := ⟨_, rfl⟩
 obtain ⟨dd, hdd⟩ : ∃ x, x = mo + 1 := ⟨_, rfl⟩
 obtain ⟨ri, hri⟩ : ∃ x, x = w.heap.size + 1 + 1 := ⟨_, rfl⟩
 obtain ⟨A2, hA2⟩ : ∃ A, A = (w.alloc (.map #[] 0)).alloc (.cells #[.int .i64 (s.room : Int), .map (some mo), .bool false, .int .i64 0] 80) := ⟨_, rfl⟩
 have k2 : Kp No w A2 := by rw [hA2]; exact ((Kp.refl _ _).alloc _).alloc _
 have hsz2 : A2.heap.size = ri := by rw [hA2, hri]; simp
 have hC2 := hC.keep_no k2
 obtain ⟨o, hrun, hit⟩ := run_range_g (P := Tryz.prog) Tryz.underlying78 hC2.map
 rw [hsz2] at hrun hit
 have k3 : Kp No A2 (A2.alloc o) := (Kp.refl _ _).alloc o
 have hDo : DiskC A2 dd mo s.room false 0 [] := by
  refine { cell := ?_, map := ?_, files := (by simp), blks := (by simp), rows := (by simp), fits := (by simp [absL, totF]), roomy := hC.roomy, few := (by simp), left0 := (by simp), leftM := (by simp) }
  ·have hs1 : (w.alloc (.map #[] 0)).heap.size = dd := by rw [hdd, hmo]; simp
   rw [hA2, ← hs1]
   exact heap_alloc_new (w.alloc (.map #[] 0)) _
  ·rw [hA2, hmo]
   exact (GMap.made Value.string w).of_heap (by rw [Below.heap_alloc _ _ _ (by simp)])
 have HDo := Lib.hid (hDo.keep_no k3)
 have HI := Lib.hid hit
 have HC := Lib.hid hC
 have HS := Lib.hid hs
 have HK3 := Lib.hid (k2.trans_same k3)
 have HA2 := Lib.hid hA2
 have HMO := Lib.hid hmo
 have HDD := Lib.hid hdd
 have HRI := Lib.hid hri
 have c1 : A2.cell? ⟨d, 1, none⟩ = some (.map (some m)) := by rw [cell_at hC2.cell]; rfl
 have dl2 : d < A2.heap.size := get_lt hC2.cell
 clear hC hf hs hF hFs hC2 hit hDo hA2 k2 k3
 go_enter Tryz.func28, Tryz.ntmps28
 go_upto_region 4 with fail
 simp only [← hmo]
 simp only [← hdd]
 rw [← HA2.out]
 clear hmm c0 hdl hmo hdd hri HA2
 go_wp2_with fail
 have hmow : w.heap.size ≤ mo := by rw [HMO.out]; exact Nat.le_refl _
 have hdow : w.heap.size ≤ dd := by rw [HDD.out, HMO.out]; omega
 have hriw : w.heap.size ≤ ri := by rw [HRI.out]; omega
 have hrm : ri ≠ mo := by rw [HRI.out, HMO.out]; omega
 have hrd : ri ≠ dd := by rw [HRI.out, HDD.out, HMO.out]; omega
 have HRM := Lib.hid hrm
 have HRDD := Lib.hid hrd
 have HW1 := Lib.hid hmow
 have HW2 := Lib.hid hdow
 have HW3 := Lib.hid hriw
 clear hmow hdow hriw hrm hrd c1 dl2 hrun
 go_loopg [] (restV (absL L) []) (fun gk wr => ∃ V Lo, gk = restV (absL L) V ∧ Hid (GIter Value.string wr ri m (ptrL L) V) ∧ Hid (DiskC wr dd mo s.room false 0 Lo) ∧ Hid ((absL Lo).Perm ((absL L).filter fun p => decide (p.1 ∈ V))) ∧ Hid (∀ k, FP dd mo Lo k → w.heap.size ≤ k) ∧ Hid (Kp No w wr))
 case atStart => exact ⟨[], [], rfl, HI, HDo, Lib.hid (by rw [List.filter_eq_nil_iff.2 (by simp)]; exact List.Perm.refl _), Lib.hid (by
  rintro k (rfl | rfl | ⟨p, hp, _⟩)
  ·exact HW2.out
  ·exact HW1.out
  ·cases hp), HK3⟩
 case round =>
  obtain ⟨V, Lo, rfl, hI, hDo, hPe, hFo, hK⟩ := hrel
  rcases run_next_g (P := Tryz.prog) 0 hI.out with ⟨hall, hnext⟩ | ⟨p, hp, hpV, n, o', hnext, hI', hent⟩
  ·have HA := Lib.hid hall
   clear hall
   go_wp2_with fail
   go_ret
   have hfull : ((absL L).filter fun p => decide (p.1 ∈ V)) = absL L := List.filter_eq_self.2 fun q hq => by
    obtain ⟨x, hx, rfl⟩ := List.mem_map.1 hq
    exact decide_eq_true (HA.out (x.1, x.2.ptr) (List.mem_map.2 ⟨x, hx, rfl⟩))
   refine ⟨dd, absL Lo, rfl, hK.out, ?_, FP dd mo Lo, ⟨mo, false, 0, Lo, hDo.out, rfl, rfl, fun _ x => x, hDo.out.lt⟩, hFo.out⟩
   have h1 := hPe.out
   rw [hfull] at h1
   rw [HS.out]
   exact h1
  ·obtain ⟨x, hx, rfl⟩ := List.mem_map.1 hp
   obtain ⟨k, c⟩ := x
   have hnx : (Instr.next (.pointer (some ⟨ri, 0, none⟩)) false 0).run Tryz.prog wr = .ok (.tuple #[.bool true, .string k, .pointer (some ⟨c.blk, 0, none⟩)]) (ChangeMaps.setBlock (wr.drewN n) ri o') := hnext
   have hrl : ri < wr.heap.size := hI.out.lt
   have hwm : ri ≠ m := hI.out.ne
   have hen : (Instr.entry (.pointer (some ⟨ri, 0, none⟩))).run Tryz.prog (ChangeMaps.setBlock (wr.drewN n) ri o') = .ok (.tuple #[.string k, .pointer (some ⟨c.blk, 0, none⟩)]) (ChangeMaps.setBlock (wr.drewN n) ri o') :=
    hent _ (setBlock_at (w := wr.drewN n) hrl o') (by show (wr.heap.setIfInBounds _ o')[m]? = _; rw [Array.getElem?_setIfInBounds_ne hwm])
   have hk2 : Kp (One ri) wr (ChangeMaps.setBlock (wr.drewN n) ri o') := ((Kp.refl (One ri) wr).drewN n).setBlock (.inl rfl) o'
   have hD2 := hDo.out.keep hk2 fun j h (e : j = ri) => by
    rcases h with rfl | rfl | ⟨q, hq, rfl | hq2⟩
    ·exact HRDD.out e.symm
    ·exact HRM.out e.symm
    ·exact hI.out.ne_cells (hDo.out.files q hq).1 e.symm
    ·obtain ⟨cur, hcur⟩ := (hDo.out.files q hq).2.1.type j hq2
     exact hI.out.ne_cells hcur e.symm
   have hkw : Kp No w (ChangeMaps.setBlock (wr.drewN n) ri o') := (hK.out.drewN n).setBlock (.inr HW3.out) o'
   have hI2 := Lib.hid hI'
   obtain ⟨W2, hW2⟩ : ∃ W, W = ChangeMaps.setBlock (wr.drewN n) ri o' := ⟨_, rfl⟩
   rw [← hW2] at hD2 hkw hnx hen hI2
   have hV : k ∉ V := hpV
   have HVV := Lib.hid hV
   have hfo := (HC.out.files _ hx).keep hkw (fun x => x) fun _ _ x => x
   obtain ⟨fa, fc, hv, hnc, hfrd⟩ := hfo.2.1.rd
   have hlen : c.data.length ≤ 1073741824 := by
    have h1 := mem_len (l := absL L) (p := (k, c.abs)) (List.mem_map.2 ⟨(k, c), hx, rfl⟩)
    have h2 := HC.out.fits
    have h3 := HC.out.roomy
    simp only [FileR.abs] at h1
    omega
   simp only at hfo hv
   have q1 : ∀ W, Kp No W2 W → W.cell? ⟨dd, 1, none⟩ = some (.map (some mo)) := fun W hW => by rw [cell_at (hW.get hD2.cell fun x => x)]; rfl
   have q2 : ∀ W, Kp No W2 W → W.cell? ⟨c.blk, 0, none⟩ = some (.slice fa c.data.length fc) := fun W hW => by rw [cell_at (hW.get hfo.1 fun x => x), hv]; rfl
   have q3 : ∀ W, Kp No W2 W → W.cell? ⟨c.blk, 1, none⟩ = some (.int .i64 (c.lasts : Int)) := fun W hW => by rw [cell_at (hW.get hfo.1 fun x => x)]; rfl
   have HD2 := Lib.hid hD2
   have HFO := Lib.hid hfo
   have HFR := Lib.hid hfrd
   have HKW := Lib.hid hkw
   have HX := Lib.hid hx
   clear hW2 hk2 hnext hent hI' hp hpV hI hDo hV hfo hv hfrd hkw hx hD2 hK
   go_upto_region 7 with fail
   clear hnx hen
   refine wp_region_last (Kp No W2) [0,0,0,0,0,0,0,0,0,2,0,0,0,0,0,2,2] [0,1,2,3,4,5,6,7,8,10,11,12,13,9,14,15] 16 (by kernel_rfl) (by kernel_rfl) (fun _ n h => h.drewN n) (Kp.refl _ _) ?_
   repeat (first
    | (apply wpOrd_skip rfl (by decide) rfl; (focus (go_simp; rfl)))
    | (apply wpOrd_pure rfl rfl rfl; (focus (intro _ _; go_simp; (try go_ints); rfl)); (focus (go_simp; rfl)))
    | (apply wpOrd_read rfl rfl rfl; (focus (intro _; go_simp; (try go_ints); rfl)); (focus (go_simp; rfl))))
   refine wpOrd_eff rfl rfl (fun n1 => ?_)
   have hcl := clone_any fa fc c.data W2.heap.size (W2.drewN n1) HFR.out (by omega)
   have HCL := Lib.hid hcl
   clear hcl
   go_wp2_with fail
   refine HCL.out.mono ?_
   rintro e W4 ⟨v4, rfl, ho4, hk4, hf4⟩
   obtain ⟨a4, c4, rfl, _, _⟩ := ho4.rd
   have K4 : Kp No W2 W4 := hk4.of_drewN
   have HO4 := Lib.hid ho4
   have HF4 := Lib.hid hf4
   clear ho4 hk4 hf4 HCL
   go_wp2_with fail
   repeat (first
    | (apply wpOrd_skip rfl (by decide) rfl; (focus (go_simp; rfl)))
    | (apply wpOrd_pure rfl rfl rfl; (focus (intro _ _; go_simp; (try go_ints); rfl)); (focus (go_simp; rfl)))
    | (apply wpOrd_read rfl rfl rfl; (focus (intro _; go_simp; (try go_ints); rfl)); (focus (go_simp; rfl))))
   refine wpOrd_eff rfl rfl (fun n2 => ?_)
   go_wp2_with fail
   obtain ⟨B, hB⟩ : ∃ B, B = W4.heap.size := ⟨_, rfl⟩
   obtain ⟨W5, hW5⟩ : ∃ W, W = (W4.drewN n2).alloc (.cells #[.slice a4 c.data.length c4, .int .i64 (c.lasts : Int)] 105) := ⟨_, rfl⟩
   have k45 : Kp No W4 W5 := by rw [hW5]; exact ((Kp.refl _ _).drewN _).alloc _
   have K5 : Kp No W2 W5 := K4.trans_same k45
   have b5 : W5.heap[B]? = some (.cells #[.slice a4 c.data.length c4, .int .i64 (c.lasts : Int)] 105 (0, 0)) := by rw [hW5, hB]; exact heap_alloc_new (W4.drewN n2) _
   have HB5 := Lib.hid b5
   have HBs := Lib.hid (show W2.heap.size ≤ B by rw [hB]; exact K4.size)
   rw [← hW5, ← hB]
   have HO5 := Lib.hid (HO4.out.keep k45 fun _ _ x => x)
   clear hW5 b5 k45 hB q1 q2 q3
   refine ⟨K5, ?_⟩
   repeat (first
    | (apply wpOrd_skip rfl (by decide) rfl; (focus (go_simp; rfl)))
    | (apply wpOrd_pure rfl rfl rfl; (focus (intro _ _; go_simp; (try go_ints); rfl)); (focus (go_simp; rfl)))
    | (apply wpOrd_read rfl rfl rfl; (focus (intro _; go_simp; (try go_ints); rfl)); (focus (go_simp; rfl))))
   refine last_now (fun n4 => ?_)
   refine wpOrd_eff rfl rfl (fun n5 => ?_)
   obtain ⟨W6, hW6⟩ : ∃ W, W = (W5.drewN n4).drewN n5 := ⟨_, rfl⟩
   have K6 : Kp No W2 W6 := by rw [hW6]; exact (K5.drewN n4).drewN n5
   have b6 : W6.heap[B]? = some (.cells #[.slice a4 c.data.length c4, .int .i64 (c.lasts : Int)] 105 (0, 0)) := by rw [hW6]; exact HB5.out
   have ho6 : Own W6 5 1 (.slice a4 c.data.length c4) c.data.length (u8s c.data) := by rw [hW6]; exact HO5.out
   have hD6 := HD2.out.keep_no K6
   rw [← hW6]
   obtain ⟨o2, hupd, hG⟩ := run_update_g (P := Tryz.prog) (w := W6) Tryz.underlying78 kindStr strKey strInj hD6.map k (.pointer (some ⟨B, 0, none⟩))
   have HG := Lib.hid hG
   have HB6 := Lib.hid b6
   have HO6 := Lib.hid ho6
   have HD6 := Lib.hid hD6
   have HK6 := Lib.hid K6
   have hml := hD6.map.lt
   have HML := Lib.hid hml
   clear hG b6 ho6 hD6 hW6 K6 hml K5 K4
   go_wp2_with fail
   intro nr
   obtain ⟨W9, hW9⟩ : ∃ W, W = (ChangeMaps.setBlock W6 mo o2).drewN nr := ⟨_, rfl⟩
   have K69 : Kp (One mo) W6 W9 := by rw [hW9]; exact ((Kp.refl (One mo) W6).setBlock (.inl rfl) o2).drewN nr
   have K9 : Kp (One mo) W2 W9 := (Kp.of_no HK6.out).trans_same K69
   have hmo9 : W9.heap[mo]? = some o2 := by rw [hW9]; exact setBlock_at (w := W6) HML.out o2
   have hmap9 := HG.out W9 hmo9
   have hml2 : mo < W2.heap.size := HD2.out.map.lt
   have hBm : B ≠ mo := by have := HBs.out; omega
   have b9 := K69.get HB6.out fun (e : B = mo) => hBm e
   have ho9 := HO6.out.keep K69 fun j hj (e : j = mo) => by
    obtain ⟨cur, hcur⟩ := HO6.out.type j hj
    obtain ⟨es, ck, hmm2, _⟩ := HD6.out.map
    exact ne_of_map hcur hmm2 e
   have hin : (k, c.abs) ∈ absL L := List.mem_map.2 ⟨(k, c), HX.out, rfl⟩
   have hst := filter_step (V := V) (by rw [keys_absL]; exact HC.out.keys) hin HVV.out
   have hkn : gget Lo k = none := gget_none fun hm => by
    obtain ⟨q, hq, hqk⟩ := List.mem_map.1 hm
    have h1 : (q.1, q.2.abs) ∈ (absL L).filter fun p => decide (p.1 ∈ V) := hPe.out.mem_iff.1 (List.mem_map.2 ⟨q, hq, rfl⟩)
    have h2 := of_decide_eq_true (List.mem_filter.1 h1).2
    simp only at h2
    rw [hqk] at h2
    exact HVV.out h2
   obtain ⟨c', hc'⟩ : ∃ c' : FileR, c' = ⟨B, .slice a4 c.data.length c4, c.data, c.lasts⟩ := ⟨_, rfl⟩
   have habs : absL (gset Lo k c') = absL Lo ++ [(k, c.abs)] := by
    rw [gset_abs, gset_new (by rw [keys_absL]; exact gget_none_iff.1 hkn), hc']
    rfl
   have hperm : (absL (gset Lo k c')).Perm ((absL L).filter fun p => decide (p.1 ∈ k :: V)) := by
    rw [habs]
    refine (List.perm_append_singleton (k, c.abs) (absL Lo)).trans ?_
    exact (hPe.out.cons (k, c.abs)).trans hst.1.symm
   have hlen2 : (absL Lo).length + 1 ≤ L.length := by
    have h1 := hperm.length_eq
    rw [habs, List.length_append, List.length_singleton] at h1
    have h2 : ((absL L).filter fun p => decide (p.1 ∈ k :: V)).length ≤ (absL L).length := List.length_filter_le _ _
    have h3 : (absL L).length = L.length := by simp [absL]
    omega
   have hfw := HC.out.few
   have hlo : (absL Lo).length = Lo.length := by simp [absL]
   obtain ⟨h1, h2, h3⟩ := HD2.out.addFile (c' := c') hkn K9 (by rw [hc']; exact hmap9) (by rw [hc']; exact ⟨b9, ho9, (HC.out.files _ HX.out).2.2⟩) (by rw [hc']; exact HBs.out) (fun j hj => by rw [hc'] at hj; exact HF4.out j hj)
    (by rw [totF_perm hperm]; exact Nat.le_trans (totF_filter _ _) HC.out.fits) (by omega)
   have HN1 := Lib.hid h1
   have HN2 := Lib.hid h2
   have HPM := Lib.hid hperm
   have HKF := Lib.hid (show Kp No w W9 from HKW.out.trans K9 fun i hi (e : i = mo) => by have := HW1.out; omega)
   have HGI := Lib.hid (hI2.out.of_heap (K9.block _ hI2.out.lt fun (e : ri = mo) => HRM.out e) (K9.block m hI2.out.map.lt fun (e : m = mo) => by have h4 := HC.out.map.lt; have h5 := HW1.out; omega))
   have HST := Lib.hid hst.2
   rw [← hW9]
   clear hW9 K69 K9 hmo9 hmap9 hml2 hBm b9 ho9 hin hst hkn hc' habs hperm hlen2 hfw hlo h1 h2 h3 hupd
   go_wp2_with fail
   go_roundg (restV (absL L) (k :: V))
   case measure =>
    have := HST.out
    omega
   case rel =>
    refine ⟨k :: V, gset Lo k c', rfl, HGI, HN1, HPM, Lib.hid fun j hj => ?_, HKF⟩
    rcases HN2.out j hj with h4 | h4
    ·exact hFo.out j h4
    ·exact Nat.le_trans HKW.out.size h4
end Go.Proofs.YtdibkdgafidjgaaGreatDoor

