/-
  Texts laid together: WDoes3, WDoes6.
-/
import Derived.Test.YtdibkdgafidjgaaGreatDoorWc3
import Derived.Test.YtdibkdgafidjgaaGreatDoorWd0
import Derived.Test.YtdibkdgafidjgaaGreatDoorRD4M
import Derived.Test.YtdibkdgafidjgaaGreatDoorWTextsM
import Derived.Test.YtdibkdgafidjgaaGreatDoorWa3
import Derived.Test.YtdibkdgafidjgaaGreatDoorWb9
import Derived.Deep.CutRange
namespace Go.Proofs.YtdibkdgafidjgaaGreatDoor
open Go.RowKit Go.Mer
set_option maxRecDepth 100000 in
set_option maxHeartbeats 4000000 in
theorem does5 (w W : World) (p d r l x : Nat) (P : ByteArray) (s : DSt) (st : LSt) (Z : Nat → Prop) (h : PL w W p d r l x P s st s st Z)
  (kind N : Int) (tear : Int) (bv : Value) (f1 : (kind == 1) = false) (f2 : (kind == 2) = false) (f3 : (kind == 3) = false) (f4 : (kind == 4) = false) (f6 : (kind == 6) = false) :
  Calls Tryz.prog 26 #[.pointer (some ⟨p, 0, none⟩), .agg #[.int .i64 kind, .int .i64 N, bv, .int .u8 tear]] W (DoesP w W p d r l x P s st Z) := by
 obtain ⟨q, hq⟩ : ∃ q, q = W.heap.size := ⟨_, rfl⟩
 obtain ⟨W1, hW1⟩ : ∃ V, V = W.alloc (.cells #[.int .i64 kind, .int .i64 N, bv, .int .u8 tear] 59) := ⟨_, rfl⟩
 have k1 : Kp No W W1 := by rw [hW1]; exact (Kp.refl _ _).alloc _
 have hq1 : W1.heap[q]? = some (.cells #[.int .i64 kind, .int .i64 N, bv, .int .u8 tear] 59 (0, 0)) := by rw [hW1, hq]; exact heap_alloc_new W _
 have hsz : W1.heap.size = q + 1 := by rw [hW1, hq]; simp
 have h1 := h.no k1
 have hZq : ¬ Z q := fun hz => by have := (h.zn q hz).2; omega
 obtain ⟨u0, _, _, _⟩ := step_cells hq1 No (fun h => h)
 have c0 := u0 W1 (Kp.refl _ _)
 have HQ1 := Lib.hid hq1
 have HPL1 := Lib.hid h1
 have HPL := Lib.hid h
 have HK1 := Lib.hid k1
 have HSZ := Lib.hid hsz
 have HQ := Lib.hid hq
 have HZQ := Lib.hid hZq
 have hql1 : q < W1.heap.size := by omega
 clear h1 h k1 hsz hZq u0 hq1
 go_enter Tryz.func26, Tryz.ntmps26
 go_upto_region 1 with fail
 rw [← hW1, ← hq]
 clear hW1 hq
 obtain ⟨wA, hwA⟩ : ∃ wA, wA = W1 := ⟨_, rfl⟩
 rw [← hwA] at HPL1 HQ1 HK1 HSZ c0 hql1 ⊢
 have HPA := HPL1
 have HQA := HQ1
 clear hwA hql1
 obtain ⟨F, G, hWA, _, _, _⟩ := HPA.out.wal
 obtain ⟨H, K, hXA, _, _, _⟩ := HPA.out.ref
 obtain ⟨hplA, pcA⟩ := HPA.out.cells No (fun x => x)
 have p2 := fun V hV => (pcA V hV).2.2.1
 have HPC := Lib.hid pcA
 obtain ⟨_, u1, _, _⟩ := step_cells HQA.out No (fun x => x)
 have HU1 := Lib.hid u1
 have hqlA : q < wA.heap.size := get_lt HQA.out
 obtain ⟨qe, hqe⟩ : ∃ qe, qe = entS st N := ⟨_, rfl⟩
 obtain ⟨e1, he1⟩ : ∃ e1, e1 = qe.2 := ⟨_, rfl⟩
 have hqel : qe.1.length ≤ 1073741824 := by rw [hqe]; exact entS_len hWA.log N
 have hen := fun n1 => Entry_any (wA.drewN n1) l d P st G (hWA.log.keep_no ((Kp.refl No wA).drewN n1)) N
 rw [← hqe] at hen
 unfold EntP at hen
 rw [← he1] at hen
 have HEN := Lib.hid hen
 have HXA := Lib.hid hXA
 have HQE := Lib.hid (And.intro hqe he1)
 unfold ptrV at p2
 clear hen hqe he1 hWA hXA pcA
 go_upto_region 27 with fail
 refine wp_region_held' (Kp No wA) [0,0,0,0,0,0,2,0,0,0,0,0] [0,1,2,3,4,5,6,7,8,9,10,11] (by kernel_rfl) (by kernel_rfl) (fun _ n h => h.drewN n) (Kp.refl _ _) ?_
 repeat (first
  | (apply wpOrd_skip rfl (by decide) rfl; (focus (go_simp; rfl)))
  | (apply wpOrd_pure rfl rfl rfl; (focus (intro _ _; go_simp; (try go_ints); rfl)); (focus (go_simp; rfl)))
  | (apply wpOrd_read rfl rfl rfl; (focus (intro _; go_simp; (try go_ints); rfl)); (focus (go_simp; rfl))))
 refine wpOrd_eff rfl rfl (fun n1 => ?_)
 have hc := HEN.out n1
 clear HEN
 go_wp2_with fail
 with_reducible refine hc.mono ?_
 rintro e wB ⟨vB, rfl, hoB, hkB, hfB⟩
 clear hc
 obtain ⟨aB, cB, rfl, _, _⟩ := hoB.rd
 have HKB := Lib.hid (show Kp No wA wB from hkB.of_drewN)
 have HOB := Lib.hid hoB
 have HFB := Lib.hid (show ∀ g, (Value.slice aB qe.1.length cB).ownBlock = some g → wA.heap.size ≤ g from hfB)
 clear hoB hkB hfB
 go_wp2_with fail
 refine ⟨HKB.out, ?_⟩
 repeat (first
  | (apply wpOrd_skip rfl (by decide) rfl; (focus (go_simp; rfl)))
  | (apply wpOrd_pure rfl rfl rfl; (focus (intro _ _; go_simp; (try go_ints); rfl)); (focus (go_simp; rfl)))
  | (apply wpOrd_read rfl rfl rfl; (focus (intro _; go_simp; (try go_ints); rfl)); (focus (go_simp; rfl))))
 refine wpOrd_nil (fun nq => ?_)
 obtain ⟨wC, hwC⟩ : ∃ V, V = wB.drewN nq := ⟨_, rfl⟩
 have hkBC : Kp No wB wC := by rw [hwC]; exact (Kp.refl _ _).drewN nq
 have HKC := Lib.hid (HKB.out.trans_same hkBC)
 have HOC := Lib.hid (HOB.out.keep hkBC fun _ _ x => x)
 rw [← hwC]
 have hplC := HKC.out.lt hplA
 have hqlC := HKC.out.lt hqlA
 have p3 := fun V (hV : Kp No wC V) => (HPC.out V (HKC.out.trans_same hV)).2.2.2
 have u1 := fun V (hV : Kp No wC V) => HU1.out V (HKC.out.trans_same hV)
 have hen := fun n1 => xEntry_any (wC.drewN n1) x r P st K (HXA.out.log.keep_no (HKC.out.drewN n1)) N
 rw [← HQE.out.1] at hen
 unfold EntP at hen
 rw [← HQE.out.2] at hen
 have HEN := Lib.hid hen
 unfold ptrV at p3
 clear hen hwC hkBC HOB p2
 go_upto_region 28 with fail
 refine wp_region_held' (Kp No wC) [0,0,0,0,0,0,2,0,0,0,0,0] [0,1,2,3,4,5,6,7,8,9,10,11] (by kernel_rfl) (by kernel_rfl) (fun _ n h => h.drewN n) (Kp.refl _ _) ?_
 repeat (first
  | (apply wpOrd_skip rfl (by decide) rfl; (focus (go_simp; rfl)))
  | (apply wpOrd_pure rfl rfl rfl; (focus (intro _ _; go_simp; (try go_ints); rfl)); (focus (go_simp; rfl)))
  | (apply wpOrd_read rfl rfl rfl; (focus (intro _; go_simp; (try go_ints); rfl)); (focus (go_simp; rfl))))
 refine wpOrd_eff rfl rfl (fun n1 => ?_)
 have hc := HEN.out n1
 clear HEN
 go_wp2_with fail
 with_reducible refine hc.mono ?_
 rintro e wD ⟨vD, rfl, hoD, hkD, _⟩
 clear hc
 obtain ⟨aD, cD, rfl, _, _⟩ := hoD.rd
 have HKD := Lib.hid (show Kp No wC wD from hkD.of_drewN)
 have HOD := Lib.hid hoD
 clear hoD hkD
 go_wp2_with fail
 refine ⟨HKD.out, ?_⟩
 repeat (first
  | (apply wpOrd_skip rfl (by decide) rfl; (focus (go_simp; rfl)))
  | (apply wpOrd_pure rfl rfl rfl; (focus (intro _ _; go_simp; (try go_ints); rfl)); (focus (go_simp; rfl)))
  | (apply wpOrd_read rfl rfl rfl; (focus (intro _; go_simp; (try go_ints); rfl)); (focus (go_simp; rfl))))
 refine wpOrd_nil (fun nq => ?_)
 obtain ⟨wE, hwE⟩ : ∃ V, V = wD.drewN nq := ⟨_, rfl⟩
 have hkDE : Kp No wD wE := by rw [hwE]; exact (Kp.refl _ _).drewN nq
 have HKE := Lib.hid (HKD.out.trans_same hkDE)
 have HOE := Lib.hid (HOC.out.keep HKE.out fun _ _ x => x)
 rw [← hwE]
 have hsm := same_any aB aD cB cD wE.heap.size wE.heap.size qe.1 qe.1 wE HOE.out.rd' (HOD.out.keep hkDE fun _ _ x => x).rd' (by omega)
 have HSM := Lib.hid hsm
 clear hsm hwE hkDE p3 u1 hplC hqlC
 go_wp2_with fail
 refine HSM.out.mono ?_
 rintro e wF ⟨rfl, n8, rfl⟩
 obtain ⟨wG, hwG⟩ : ∃ V, V = wE.drewN n8 := ⟨_, rfl⟩
 have hkEG : Kp No wE wG := by rw [hwG]; exact (Kp.refl _ _).drewN n8
 have HKG := Lib.hid ((HKC.out.trans_same HKE.out).trans_same hkEG)
 have hsp := spoil_any wG qe.1 aB cB (HOE.out.keep hkEG fun _ _ x => x) (by omega)
 have HSP := Lib.hid hsp
 rw [← hwG]
 (try simp only [decide_true])
 clear hsp hwG hkEG HSM
 go_wp2_with fail
 refine HSP.out.mono ?_
 rintro e wH ⟨rfl, hkH⟩
 have HFIN := Lib.hid (HPA.out.no HKG.out)
 have HFIN2 := Lib.hid (HFIN.out.other hkH (fun g hg => by
  have h1 := HFB.out g hg
  refine ⟨fun hz => ?_, Nat.le_trans HPA.out.kp.size h1⟩
  have := (HPA.out.zn g hz).2
  omega))
 have HKH := Lib.hid (show ∀ T : Nat → Prop, Kp T wA wH from fun T => (Kp.of_no HKG.out).trans hkH fun i hi hg => by
  have h1 := HFB.out i hg
  omega)
 clear hkH
 go_wp2_with fail
 go_ret
 exact ⟨rfl, _, HFIN2.out, Foot.refl _ _, (Kp.of_no HK1.out).trans_same (HKH.out Z)⟩
set_option maxRecDepth 100000 in
set_option maxHeartbeats 4000000 in
theorem does4 (w W : World) (p d r l x : Nat) (P : ByteArray) (s : DSt) (st : LSt) (Z : Nat → Prop) (h : PL w W p d r l x P s st s st Z)
  (N : Int) (hN1 : N ≤ 9223372036854775807) (tear : Int) (bv : Value) :
  Calls Tryz.prog 26 #[.pointer (some ⟨p, 0, none⟩), .agg #[.int .i64 4, .int .i64 N, bv, .int .u8 tear]] W (DoesP w W p d r l x P (fuS s N) st Z) := by
 obtain ⟨q, hq⟩ : ∃ q, q = W.heap.size := ⟨_, rfl⟩
 obtain ⟨W1, hW1⟩ : ∃ V, V = W.alloc (.cells #[.int .i64 4, .int .i64 N, bv, .int .u8 tear] 59) := ⟨_, rfl⟩
 have k1 : Kp No W W1 := by rw [hW1]; exact (Kp.refl _ _).alloc _
 have hq1 : W1.heap[q]? = some (.cells #[.int .i64 4, .int .i64 N, bv, .int .u8 tear] 59 (0, 0)) := by rw [hW1, hq]; exact heap_alloc_new W _
 have hsz : W1.heap.size = q + 1 := by rw [hW1, hq]; simp
 have h1 := h.no k1
 have hZq : ¬ Z q := fun hz => by have := (h.zn q hz).2; omega
 obtain ⟨u0, _, _, _⟩ := step_cells hq1 No (fun h => h)
 have c0 := u0 W1 (Kp.refl _ _)
 have HQ1 := Lib.hid hq1
 have HPL1 := Lib.hid h1
 have HPL := Lib.hid h
 have HK1 := Lib.hid k1
 have HSZ := Lib.hid hsz
 have HQ := Lib.hid hq
 have HZQ := Lib.hid hZq
 have hql1 : q < W1.heap.size := by omega
 obtain ⟨F, hDA, hFZ, hnp, hgo⟩ := h1.diskZ
 have hap := fun n1 => Fuse_any (W1.drewN n1) d s F (hDA.keep_no ((Kp.refl No W1).drewN n1)) N hN1
 have HAP := Lib.hid hap
 have HGO := Lib.hid hgo
 have HN1 := Lib.hid hN1
 have hqd : ¬ F q := fun e => hZq (hFZ q e).2
 have HDF := Lib.hid hDA.own
 obtain ⟨hpl1, pc⟩ := h1.cells F hnp
 have p0 := fun V hV => (pc V hV).1
 obtain ⟨_, u1, _, _⟩ := step_cells hq1 F hqd
 have HQD := Lib.hid hqd
 clear h1 h k1 hsz hZq u0 hq1 hDA hnp hgo hap hFZ hqd pc
 unfold ptrV at p0
 go_enter Tryz.func26, Tryz.ntmps26
 go_upto_region 1 with fail
 rw [← hW1, ← hq]
 clear hW1 hq
 go_upto_region 16 with fail
 refine wp_region_held' (Kp F W1) [0,0,0,0,0,0,2] [0,1,2,3,4,5,6] (by kernel_rfl) (by kernel_rfl) (fun _ n h => h.drewN n) (Kp.refl _ _) ?_
 repeat (first
  | (apply wpOrd_skip rfl (by decide) rfl; (focus (go_simp; rfl)))
  | (apply wpOrd_pure rfl rfl rfl; (focus (intro _ _; go_simp; (try go_ints); rfl)); (focus (go_simp; rfl)))
  | (apply wpOrd_read rfl rfl rfl; (focus (intro _; go_simp; (try go_ints); rfl)); (focus (go_simp; rfl))))
 refine wpOrd_eff rfl rfl (fun n1 => ?_)
 have hc := HAP.out n1
 clear HAP
 go_wp2_with fail
 with_reducible refine hc.mono ?_
 rintro e w2 ⟨rfl, hd2, hk2⟩
 clear hc
 have hk2' : Kp F W1 w2 := hk2.of_drewN.mono fun i _ (e : i = d) => e ▸ HDF.out
 obtain ⟨Z2, hz2, hf2, hkz2⟩ := HGO.out w2 _ _ hd2 (Foot.refl _ _) hk2'
 have HK2 := Lib.hid hk2'
 have HQ2 := Lib.hid (hk2'.get HQ1.out HQD.out)
 have HS2 := Lib.hid (And.intro hz2 (And.intro hf2 hkz2))
 clear hd2 hk2 hk2' hz2 hf2 hkz2 HGO
 go_wp2_with fail
 refine ⟨HK2.out, ?_⟩
 refine wpOrd_nil (fun nq => ?_)
 obtain ⟨w3, hw3⟩ : ∃ V, V = w2.drewN nq := ⟨_, rfl⟩
 have hk3 : Kp No w2 w3 := by rw [hw3]; exact (Kp.refl No w2).drewN nq
 rw [← hw3]
 clear u1 p0 hpl1
 have hz3 := HS2.out.1.no hk3
 have HK3 := Lib.hid hk3
 have HQ3 := Lib.hid (hk3.get HQ2.out fun x => x)
 obtain ⟨H, hRA, hHZ, hnp, hgo⟩ := hz3.rdiskZ
 have hqz2 : ¬ Z2 q := fun hh => by
  rcases HS2.out.2.1 q hh with h1 | h1
  ·exact HZQ.out h1
  ·omega
 have hnq : ¬ H q := fun hh => hqz2 (hHZ q hh).2
 obtain ⟨hpl3, pc⟩ := hz3.cells H hnp
 have p1 := fun V hV => (pc V hV).2.1
 obtain ⟨_, u1, _, _⟩ := step_cells HQ3.out H hnq
 have hap := fun n1 => rFuse_any (w3.drewN n1) r s H (hRA.keep_no ((Kp.refl No w3).drewN n1)) N HN1.out
 have HAP := Lib.hid hap
 have HGO := Lib.hid hgo
 have HNQ := Lib.hid hnq
 have hql3 : q < w3.heap.size := get_lt HQ3.out
 clear hw3 hk3 hz3 hRA hHZ hnp hgo hnq hqz2 pc hap
 unfold ptrV at p1
 go_upto_region 17 with fail
 refine wp_region_held' (Kp H w3) [0,0,0,0,0,0,2] [0,1,2,3,4,5,6] (by kernel_rfl) (by kernel_rfl) (fun _ n h => h.drewN n) (Kp.refl _ _) ?_
 repeat (first
  | (apply wpOrd_skip rfl (by decide) rfl; (focus (go_simp; rfl)))
  | (apply wpOrd_pure rfl rfl rfl; (focus (intro _ _; go_simp; (try go_ints); rfl)); (focus (go_simp; rfl)))
  | (apply wpOrd_read rfl rfl rfl; (focus (intro _; go_simp; (try go_ints); rfl)); (focus (go_simp; rfl))))
 refine wpOrd_eff rfl rfl (fun n1 => ?_)
 have hc := HAP.out n1
 clear HAP
 go_wp2_with fail
 with_reducible refine hc.mono ?_
 rintro e w4 ⟨rfl, hd4, hk4⟩
 clear hc
 have hk4' : Kp H w3 w4 := hk4.of_drewN
 obtain ⟨Z4, hz4, hf4', hkz4⟩ := HGO.out w4 _ _ hd4 (Foot.refl _ _) hk4'
 have HK4 := Lib.hid hk4'
 have HQ4 := Lib.hid (hk4'.get HQ3.out HNQ.out)
 have HS4 := Lib.hid (And.intro hz4 (And.intro hf4' hkz4))
 clear hd4 hk4 hk4' hz4 hf4' hkz4 HGO
 go_wp2_with fail
 refine ⟨HK4.out, ?_⟩
 refine wpOrd_nil (fun nq => ?_)
 obtain ⟨wA, hwA⟩ : ∃ V, V = w4.drewN nq := ⟨_, rfl⟩
 have hk5 : Kp No w4 wA := by rw [hwA]; exact (Kp.refl No w4).drewN nq
 rw [← hwA]
 clear u1 p1 hpl3 hql3
 have HPA := Lib.hid (HS4.out.1.no hk5)
 have HQA := Lib.hid (hk5.get HQ4.out fun x => x)
 have HFZ := Lib.hid (show Foot Z Z4 W from fun i hi => by
  rcases HS4.out.2.1 i hi with h1 | h1
  ·exact (HS2.out.2.1 i h1).imp id fun h2 => Nat.le_trans HK1.out.size h2
  ·exact .inr (Nat.le_trans (Nat.le_trans HK1.out.size (Nat.le_trans HK2.out.size HK3.out.size)) h1))
 have HKZ := Lib.hid (show Kp Z W wA from by
  have a2 : Kp Z W w3 := ((Kp.of_no HK1.out).trans_same HS2.out.2.2).trans_no HK3.out
  refine (a2.trans HS4.out.2.2 fun i hi hh => ?_).trans_no hk5
  rcases HS2.out.2.1 i hh with h1 | h1
  ·exact h1
  ·have := HK1.out.size; omega)
 clear hwA hk5 hql1
 obtain ⟨F, G, hWA, _, _, _⟩ := HPA.out.wal
 obtain ⟨H, K, hXA, _, _, _⟩ := HPA.out.ref
 obtain ⟨hplA, pcA⟩ := HPA.out.cells No (fun x => x)
 have p2 := fun V hV => (pcA V hV).2.2.1
 have HPC := Lib.hid pcA
 obtain ⟨_, u1, _, _⟩ := step_cells HQA.out No (fun x => x)
 have HU1 := Lib.hid u1
 have hqlA : q < wA.heap.size := get_lt HQA.out
 obtain ⟨qe, hqe⟩ : ∃ qe, qe = entS st N := ⟨_, rfl⟩
 obtain ⟨e1, he1⟩ : ∃ e1, e1 = qe.2 := ⟨_, rfl⟩
 have hqel : qe.1.length ≤ 1073741824 := by rw [hqe]; exact entS_len hWA.log N
 have hen := fun n1 => Entry_any (wA.drewN n1) l d P st G (hWA.log.keep_no ((Kp.refl No wA).drewN n1)) N
 rw [← hqe] at hen
 unfold EntP at hen
 rw [← he1] at hen
 have HEN := Lib.hid hen
 have HXA := Lib.hid hXA
 have HQE := Lib.hid (And.intro hqe he1)
 unfold ptrV at p2
 clear hen hqe he1 hWA hXA pcA
 go_upto_region 27 with fail
 refine wp_region_held' (Kp No wA) [0,0,0,0,0,0,2,0,0,0,0,0] [0,1,2,3,4,5,6,7,8,9,10,11] (by kernel_rfl) (by kernel_rfl) (fun _ n h => h.drewN n) (Kp.refl _ _) ?_
 repeat (first
  | (apply wpOrd_skip rfl (by decide) rfl; (focus (go_simp; rfl)))
  | (apply wpOrd_pure rfl rfl rfl; (focus (intro _ _; go_simp; (try go_ints); rfl)); (focus (go_simp; rfl)))
  | (apply wpOrd_read rfl rfl rfl; (focus (intro _; go_simp; (try go_ints); rfl)); (focus (go_simp; rfl))))
 refine wpOrd_eff rfl rfl (fun n1 => ?_)
 have hc := HEN.out n1
 clear HEN
 go_wp2_with fail
 with_reducible refine hc.mono ?_
 rintro e wB ⟨vB, rfl, hoB, hkB, hfB⟩
 clear hc
 obtain ⟨aB, cB, rfl, _, _⟩ := hoB.rd
 have HKB := Lib.hid (show Kp No wA wB from hkB.of_drewN)
 have HOB := Lib.hid hoB
 have HFB := Lib.hid (show ∀ g, (Value.slice aB qe.1.length cB).ownBlock = some g → wA.heap.size ≤ g from hfB)
 clear hoB hkB hfB
 go_wp2_with fail
 refine ⟨HKB.out, ?_⟩
 repeat (first
  | (apply wpOrd_skip rfl (by decide) rfl; (focus (go_simp; rfl)))
  | (apply wpOrd_pure rfl rfl rfl; (focus (intro _ _; go_simp; (try go_ints); rfl)); (focus (go_simp; rfl)))
  | (apply wpOrd_read rfl rfl rfl; (focus (intro _; go_simp; (try go_ints); rfl)); (focus (go_simp; rfl))))
 refine wpOrd_nil (fun nq => ?_)
 obtain ⟨wC, hwC⟩ : ∃ V, V = wB.drewN nq := ⟨_, rfl⟩
 have hkBC : Kp No wB wC := by rw [hwC]; exact (Kp.refl _ _).drewN nq
 have HKC := Lib.hid (HKB.out.trans_same hkBC)
 have HOC := Lib.hid (HOB.out.keep hkBC fun _ _ x => x)
 rw [← hwC]
 have hplC := HKC.out.lt hplA
 have hqlC := HKC.out.lt hqlA
 have p3 := fun V (hV : Kp No wC V) => (HPC.out V (HKC.out.trans_same hV)).2.2.2
 have u1 := fun V (hV : Kp No wC V) => HU1.out V (HKC.out.trans_same hV)
 have hen := fun n1 => xEntry_any (wC.drewN n1) x r P st K (HXA.out.log.keep_no (HKC.out.drewN n1)) N
 rw [← HQE.out.1] at hen
 unfold EntP at hen
 rw [← HQE.out.2] at hen
 have HEN := Lib.hid hen
 unfold ptrV at p3
 clear hen hwC hkBC HOB p2
 go_upto_region 28 with fail
 refine wp_region_held' (Kp No wC) [0,0,0,0,0,0,2,0,0,0,0,0] [0,1,2,3,4,5,6,7,8,9,10,11] (by kernel_rfl) (by kernel_rfl) (fun _ n h => h.drewN n) (Kp.refl _ _) ?_
 repeat (first
  | (apply wpOrd_skip rfl (by decide) rfl; (focus (go_simp; rfl)))
  | (apply wpOrd_pure rfl rfl rfl; (focus (intro _ _; go_simp; (try go_ints); rfl)); (focus (go_simp; rfl)))
  | (apply wpOrd_read rfl rfl rfl; (focus (intro _; go_simp; (try go_ints); rfl)); (focus (go_simp; rfl))))
 refine wpOrd_eff rfl rfl (fun n1 => ?_)
 have hc := HEN.out n1
 clear HEN
 go_wp2_with fail
 with_reducible refine hc.mono ?_
 rintro e wD ⟨vD, rfl, hoD, hkD, _⟩
 clear hc
 obtain ⟨aD, cD, rfl, _, _⟩ := hoD.rd
 have HKD := Lib.hid (show Kp No wC wD from hkD.of_drewN)
 have HOD := Lib.hid hoD
 clear hoD hkD
 go_wp2_with fail
 refine ⟨HKD.out, ?_⟩
 repeat (first
  | (apply wpOrd_skip rfl (by decide) rfl; (focus (go_simp; rfl)))
  | (apply wpOrd_pure rfl rfl rfl; (focus (intro _ _; go_simp; (try go_ints); rfl)); (focus (go_simp; rfl)))
  | (apply wpOrd_read rfl rfl rfl; (focus (intro _; go_simp; (try go_ints); rfl)); (focus (go_simp; rfl))))
 refine wpOrd_nil (fun nq => ?_)
 obtain ⟨wE, hwE⟩ : ∃ V, V = wD.drewN nq := ⟨_, rfl⟩
 have hkDE : Kp No wD wE := by rw [hwE]; exact (Kp.refl _ _).drewN nq
 have HKE := Lib.hid (HKD.out.trans_same hkDE)
 have HOE := Lib.hid (HOC.out.keep HKE.out fun _ _ x => x)
 rw [← hwE]
 have hsm := same_any aB aD cB cD wE.heap.size wE.heap.size qe.1 qe.1 wE HOE.out.rd' (HOD.out.keep hkDE fun _ _ x => x).rd' (by omega)
 have HSM := Lib.hid hsm
 clear hsm hwE hkDE p3 u1 hplC hqlC
 go_wp2_with fail
 refine HSM.out.mono ?_
 rintro e wF ⟨rfl, n8, rfl⟩
 obtain ⟨wG, hwG⟩ : ∃ V, V = wE.drewN n8 := ⟨_, rfl⟩
 have hkEG : Kp No wE wG := by rw [hwG]; exact (Kp.refl _ _).drewN n8
 have HKG := Lib.hid ((HKC.out.trans_same HKE.out).trans_same hkEG)
 have hsp := spoil_any wG qe.1 aB cB (HOE.out.keep hkEG fun _ _ x => x) (by omega)
 have HSP := Lib.hid hsp
 rw [← hwG]
 (try simp only [decide_true])
 clear hsp hwG hkEG HSM
 go_wp2_with fail
 refine HSP.out.mono ?_
 rintro e wH ⟨rfl, hkH⟩
 have HFIN := Lib.hid (HPA.out.no HKG.out)
 have HFIN2 := Lib.hid (HFIN.out.other hkH (fun g hg => by
  have h1 := HFB.out g hg
  refine ⟨fun hz => ?_, Nat.le_trans HPA.out.kp.size h1⟩
  have := (HPA.out.zn g hz).2
  omega))
 have HKH := Lib.hid (show ∀ T : Nat → Prop, Kp T wA wH from fun T => (Kp.of_no HKG.out).trans hkH fun i hi hg => by
  have h1 := HFB.out i hg
  omega)
 clear hkH
 go_wp2_with fail
 go_ret
 exact ⟨rfl, _, HFIN2.out, HFZ.out, HKZ.out.trans_same (HKH.out Z)⟩
end Go.Proofs.YtdibkdgafidjgaaGreatDoor
namespace Go.Proofs.YtdibkdgafidjgaaGreatDoor
open Go.RowKit Go.Mer
def CutP (w W : World) (p d r l x : Nat) (P : ByteArray) (s : DSt) (st : LSt) (Z : Nat → Prop) (e : Ending) (w' : World) : Prop :=
 e = .returned (.bool true) ∧ ((∃ s' Z', s'.files = s.files ∧ s'.room = s.room ∧ PL w w' p d r l x P s' st s' st Z' ∧ Foot Z Z' W ∧ Kp Z W w') ∨
  ∃ l x s' st' Z', Fit 0 ⟨#[97]⟩ s' st' ∧ st'.dead = false ∧ Whole ⟨#[97]⟩ s' st' ∧ PL w w' p d r l x ⟨#[97]⟩ s' st' s' st' Z' ∧ Foot Z Z' W ∧ Kp Z W w')
theorem cu_free2 {s : DSt} (h : Free s) (x : ByteArray) (n : Int) : Free (cuS s x n).2 := by
 obtain ⟨h1, h2⟩ := cu_ok h.ok x n
 refine ⟨?_, ?_, h1⟩
 ·unfold cuS five
  split
  ·exact h.fuse
  ·split
   ·split
    ·simp [h.fuse]
    ·exact h.fuse
   ·exact h.fuse
 ·rcases five_keep s [x] (cuCode s x n) (cuFiles s.files x n) with e | ⟨_, e⟩
  ·unfold cuS; rw [e]; exact h.nodup
  ·unfold cuS; rw [e]
   unfold cuFiles
   split
   ·exact gset_nodup h.nodup
   ·exact h.nodup
set_option maxRecDepth 100000 in
set_option maxHeartbeats 8000000 in
theorem does6 (w W : World) (p d r l x k : Nat) (P : ByteArray) (s : DSt) (st : LSt) (Z : Nat → Prop) (h : PL w W p d r l x P s st s st Z) (hpow : Pow w) (hF : Fit k P s st) (hk : k ≤ 3000) (hP : P.size ≤ 50)
  (N : Int) (tear : Int) (bv : Value) :
  Calls Tryz.prog 26 #[.pointer (some ⟨p, 0, none⟩), .agg #[.int .i64 6, .int .i64 N, bv, .int .u8 tear]] W (CutP w W p d r l x P s st Z) := by
 obtain ⟨q, hq⟩ : ∃ q, q = W.heap.size := ⟨_, rfl⟩
 obtain ⟨W1, hW1⟩ : ∃ V, V = W.alloc (.cells #[.int .i64 6, .int .i64 N, bv, .int .u8 tear] 59) := ⟨_, rfl⟩
 have k1 : Kp No W W1 := by rw [hW1]; exact (Kp.refl _ _).alloc _
 have hq1 : W1.heap[q]? = some (.cells #[.int .i64 6, .int .i64 N, bv, .int .u8 tear] 59 (0, 0)) := by rw [hW1, hq]; exact heap_alloc_new W _
 have hsz : W1.heap.size = q + 1 := by rw [hW1, hq]; simp
 have h1 := h.no k1
 have hZq : ¬ Z q := fun hz => by have := (h.zn q hz).2; omega
 obtain ⟨u0, _, _, _⟩ := step_cells hq1 No (fun h => h)
 have c0 := u0 W1 (Kp.refl _ _)
 have HQ1 := Lib.hid hq1
 have HPL1 := Lib.hid h1
 have HPL := Lib.hid h
 have HK1 := Lib.hid k1
 have HSZ := Lib.hid hsz
 have HQ := Lib.hid hq
 have HZQ := Lib.hid hZq
 have hql1 : q < W1.heap.size := by omega
 obtain ⟨H, K, hXA, _, _, _⟩ := h1.ref
 obtain ⟨F0, hDA0, _, _, _⟩ := h1.diskZ
 have HND := Lib.hid hDA0.few.2.1
 clear hDA0
 obtain ⟨hpl1, pc⟩ := h1.cells No (fun h => h)
 have p3 := (pc W1 (Kp.refl _ _)).2.2.2
 have hsg : st.segs.length ≤ 10000 := by have := hF.segs; omega
 have hxn := xNames_own W1 x r P st K hXA.log (by omega) hP (fun z hz => by have := hF.no z hz; have := hF.ents; omega)
 obtain ⟨L, hL⟩ : ∃ L, L = st.segs.map fun z => bnm P z.1 := ⟨_, rfl⟩
 rw [← hL] at hxn
 have hLl : L.length ≤ 10000 := by rw [hL, List.length_map]; exact hsg
 have HXN := Lib.hid hxn
 have HL := Lib.hid hL
 have HPW := Lib.hid (And.intro hpow (And.intro hF (And.intro hP hk)))
 unfold ptrV at p3
 clear h1 h k1 hsz hZq u0 hq1 hXA pc hsg hxn hL hpow hF hk hP
 go_enter Tryz.func26, Tryz.ntmps26
 go_upto_region 1 with fail
 rw [← hW1, ← hq]
 clear hW1 hq
 go_upto_region 19 with fail
 go_wp2_with fail
 refine HXN.out.mono ?_
 rintro e w2 ⟨a2, c2, rfl, ho2, hk2, hfr2⟩
 have HO2 := Lib.hid ho2
 have HK2 := Lib.hid hk2
 have HFR := Lib.hid hfr2
 have HPL2 := Lib.hid (HPL1.out.no hk2)
 have HQ2 := Lib.hid (hk2.get HQ1.out fun x => x)
 clear ho2 hk2 hfr2 HXN p3
 rcases Nat.eq_zero_or_pos L.length with h0 | h0
 ·have HFIN := Lib.hid (show CutP w W p d r l x P s st Z (.returned (.bool true)) w2 from ⟨rfl, .inl ⟨s, Z, rfl, rfl, HPL2.out, Foot.refl _ _, Kp.of_no (HK1.out.trans_same HK2.out)⟩⟩)
  rw [h0]
  clear hLl
  go_wp2_with fail
  go_ret
  exact HFIN.out
 ·obtain ⟨m, hm⟩ : ∃ m, L.length = m + 1 := ⟨L.length - 1, by omega⟩
  obtain ⟨g, off, rfl, hg2, hgo, hgc⟩ := rd_name HO2.out (m := m) (by omega)
  obtain ⟨nm, hnm⟩ : ∃ nm, nm = L[m]'(by omega) := ⟨_, rfl⟩
  rw [← hnm] at hgc
  have HGF := Lib.hid (HFR.out g hgo)
  have HGC := Lib.hid hgc
  obtain ⟨sn, hsn⟩ : ∃ sn, sn = L.length := ⟨_, rfl⟩
  rw [← hsn]
  have hms : m < sn := by omega
  have hw3 : (sn : Int) - 1 = (m : Int) := by omega
  have hb0 : ((sn : Int) == 0) = false := by simp; omega
  have hsb : (sn : Int) ≤ 10000 := by omega
  clear hgc hgo hnm h0 hLl hm hsn
  obtain ⟨F, hDA, hFZ, hnp, hgo⟩ := HPL2.out.diskZ
  obtain ⟨hpl2, pc⟩ := HPL2.out.cells No (fun x => x)
  have p0 := (pc w2 (Kp.refl _ _)).1
  have HAP := Lib.hid (Fuse_any w2 d s F hDA (-1) (by decide))
  have HGO := Lib.hid hgo
  have HD := Lib.hid (And.intro hDA.own (And.intro hFZ hnp))
  unfold ptrV at p0
  clear hDA hFZ hnp hgo pc
  go_wp2_with fail
  refine HAP.out.mono ?_
  rintro e w3 ⟨rfl, hd3, hk3⟩
  have hk3' : Kp F w2 w3 := hk3.mono fun i _ (e : i = d) => e ▸ HD.out.1
  obtain ⟨Z3, hz3, hf3, hkz3⟩ := HGO.out w3 _ _ hd3 (Foot.refl _ _) hk3'
  obtain ⟨s3, hs3⟩ : ∃ s3, s3 = fuS s (-1) := ⟨_, rfl⟩
  rw [← hs3] at hz3
  have HPL3 := Lib.hid hz3
  have HZ3 := Lib.hid (And.intro hf3 hkz3)
  have HGZ2 := Lib.hid (show ¬ Z g from fun hz => by have := (HPL.out.zn g hz).2; have := HGF.out; have := HK1.out.size; omega)
  have HQZ3 := Lib.hid (show ¬ Z3 q from fun hz => (hf3 q hz).elim HZQ.out fun h2 => by have := get_lt HQ2.out; omega)
  have HGZ3 := Lib.hid (show ¬ Z3 g from fun hz => (hf3 g hz).elim HGZ2.out fun h2 => by omega)
  have HQ3 := Lib.hid (hk3'.get HQ2.out fun hh => HZQ.out (HD.out.2.1 q hh).2)
  have HGC3 := Lib.hid ((hk3'.cell (p := ⟨g, off + m, none⟩) hg2 fun hh => HGZ2.out (HD.out.2.1 g hh).2).trans HGC.out)
  have hg3 := hk3'.lt hg2
  have HS3 := Lib.hid hs3
  obtain ⟨H, hRA, hHZ, hnp, hgo⟩ := hz3.rdiskZ
  obtain ⟨hpl3, pc⟩ := hz3.cells No (fun x => x)
  have p1 := (pc w3 (Kp.refl _ _)).2.1
  have HAP := Lib.hid (rFuse_any w3 r s H (by have := hRA; exact this) (-1) (by decide))
  have HGO := Lib.hid hgo
  have HD3 := Lib.hid (And.intro hHZ hnp)
  rw [← hs3] at HAP
  unfold ptrV at p1
  clear hd3 hk3 hk3' hz3 hf3 hkz3 hs3 hRA hHZ hnp hgo pc p0 HD hg2
  go_wp2_with fail
  refine HAP.out.mono ?_
  rintro e w4 ⟨rfl, hd4, hk4⟩
  obtain ⟨Z4, hz4, hf4, hkz4⟩ := HGO.out w4 _ _ hd4 (Foot.refl _ _) hk4
  have HPL4 := Lib.hid hz4
  have HZ4 := Lib.hid (And.intro hf4 hkz4)
  have HQZ4 := Lib.hid (show ¬ Z4 q from fun hz => (hf4 q hz).elim HQZ3.out fun h2 => by have := get_lt HQ3.out; omega)
  have HGZ4 := Lib.hid (show ¬ Z4 g from fun hz => (hf4 g hz).elim HGZ3.out fun h2 => by omega)
  have HQ4 := Lib.hid (hk4.get HQ3.out fun hh => HQZ3.out (HD3.out.1 q hh).2)
  have HGC4 := Lib.hid ((hk4.cell (p := ⟨g, off + m, none⟩) hg3 fun hh => HGZ3.out (HD3.out.1 g hh).2).trans HGC3.out)
  have hg4 := hk4.lt hg3
  obtain ⟨F, hDA, hFZ, hnp, hgo⟩ := hz4.diskZ
  obtain ⟨hpl4, pc⟩ := hz4.cells F hnp
  have p0 := fun V hV => (pc V hV).1
  have hnq : ¬ F q := fun hh => HQZ4.out (hFZ q hh).2
  have hng : ¬ F g := fun hh => HGZ4.out (hFZ g hh).2
  have hql4 : q < w4.heap.size := get_lt HQ4.out
  obtain ⟨_, u1, _, _⟩ := step_cells HQ4.out F hnq
  have c4 := fun V (hV : Kp F w4 V) => (hV.cell (p := ⟨g, off + m, none⟩) hg4 hng).trans HGC4.out
  obtain ⟨qc, hqc⟩ : ∃ qc, qc = cuS s3 nm N := ⟨_, rfl⟩
  have hap := fun n1 => Cut_any (w4.drewN n1) d s3 F (hDA.keep_no ((Kp.refl No w4).drewN n1)) nm N
  rw [← hqc] at hap
  unfold Said5 at hap
  obtain ⟨ec, hec⟩ : ∃ ec, ec = qc.1 := ⟨_, rfl⟩
  rw [← hec] at hap
  have HAP := Lib.hid hap
  have HGO := Lib.hid hgo
  have HQC := Lib.hid (And.intro hqc hec)
  have HF4 := Lib.hid (And.intro hFZ (And.intro hnq hng))
  unfold ptrV at p0
  clear hd4 hk4 hz4 hf4 hkz4 hDA hFZ hnp hgo pc p1 hap hqc hec hnq hng HD3 hg3
  go_upto_region 24 with fail
  refine wp_region_held' (Kp F w4) [0,0,0,0,0,0,1,0,0,0,0,0,2,0] [0,1,2,3,4,5,10,11,6,7,8,9,12,13] (by kernel_rfl) (by kernel_rfl) (fun _ n h => h.drewN n) (Kp.refl _ _) ?_
  repeat (first
   | (apply wpOrd_skip rfl (by decide) rfl; (focus (go_simp; rfl)))
   | (apply wpOrd_pure rfl rfl rfl; (focus (intro _ _; go_simp; (try go_ints); rfl)); (focus (go_simp; rfl)))
   | (apply wpOrd_read rfl rfl rfl; (focus (intro _; go_simp; (try go_ints); rfl)); (focus (go_simp; rfl))))
  refine wpOrd_eff rfl rfl (fun n1 => ?_)
  have hc := HAP.out n1
  clear HAP
  go_wp2_with fail
  with_reducible refine hc.mono ?_
  rintro e w5 ⟨rfl, F5, hd5, hf5, hk5⟩
  clear hc
  have hk5' : Kp F w4 w5 := hk5.of_drewN
  have hf5' : Foot F F5 w4 := hf5
  obtain ⟨Z5, hz5, hfz5, hkz5⟩ := HGO.out w5 _ _ hd5 hf5' hk5'
  have HK5 := Lib.hid hk5'
  have HPL5 := Lib.hid hz5
  have HZ5 := Lib.hid (And.intro hfz5 hkz5)
  have HQZ5 := Lib.hid (show ¬ Z5 q from fun hz => (hfz5 q hz).elim HQZ4.out fun h2 => by omega)
  have HGZ5 := Lib.hid (show ¬ Z5 g from fun hz => (hfz5 g hz).elim HGZ4.out fun h2 => by omega)
  have HQ5 := Lib.hid (hk5'.get HQ4.out HF4.out.2.1)
  have HGC5 := Lib.hid ((hk5'.cell (p := ⟨g, off + m, none⟩) hg4 HF4.out.2.2).trans HGC4.out)
  have hg5 := hk5'.lt hg4
  clear hd5 hf5 hk5 hk5' hf5' hz5 hfz5 hkz5 HGO
  go_wp2_with fail
  refine ⟨HK5.out, ?_⟩
  repeat (first
   | (apply wpOrd_skip rfl (by decide) rfl; (focus (go_simp; rfl)))
   | (apply wpOrd_pure rfl rfl rfl; (focus (intro _ _; go_simp; (try go_ints); rfl)); (focus (go_simp; rfl)))
   | (apply wpOrd_read rfl rfl rfl; (focus (intro _; go_simp; (try go_ints); rfl)); (focus (go_simp; rfl))))
  refine wpOrd_nil (fun nq => ?_)
  obtain ⟨w6, hw6⟩ : ∃ V, V = w5.drewN nq := ⟨_, rfl⟩
  have hk56 : Kp No w5 w6 := by rw [hw6]; exact (Kp.refl _ _).drewN nq
  rw [← hw6]
  clear u1 c4 p0 hpl4 hql4 hg4
  have HK6 := Lib.hid hk56
  have HPL6 := Lib.hid (HPL5.out.no hk56)
  have HQ6 := Lib.hid (hk56.get HQ5.out fun x => x)
  have HGC6 := Lib.hid ((hk56.cell (p := ⟨g, off + m, none⟩) hg5 fun x => x).trans HGC5.out)
  have hg6 := hk56.lt hg5
  obtain ⟨H, hRA, hHZ, hnp, hgo⟩ := HPL6.out.rdiskZ
  obtain ⟨hpl6, pc⟩ := HPL6.out.cells H hnp
  have p1 := fun V hV => (pc V hV).2.1
  have hnq : ¬ H q := fun hh => HQZ5.out (hHZ q hh).2
  have hng : ¬ H g := fun hh => HGZ5.out (hHZ g hh).2
  have hql6 : q < w6.heap.size := get_lt HQ6.out
  obtain ⟨_, u1, _, _⟩ := step_cells HQ6.out H hnq
  have c6 := fun V (hV : Kp H w6 V) => (hV.cell (p := ⟨g, off + m, none⟩) hg6 hng).trans HGC6.out
  have hap := fun n1 => rCut_any (w6.drewN n1) r s3 H (hRA.keep_no ((Kp.refl No w6).drewN n1)) nm N
  rw [← HQC.out.1] at hap
  unfold SaidR at hap
  rw [← HQC.out.2] at hap
  have HAP := Lib.hid hap
  have HGO := Lib.hid hgo
  unfold ptrV at p1
  clear hw6 hk56 hRA hHZ hnp hgo pc hap hnq hng hg5
  go_upto_region 25 with fail
  refine wp_region_held' (Kp H w6) [0,0,0,0,0,0,1,0,0,0,0,0,2,0] [0,1,2,3,4,5,10,11,6,7,8,9,12,13] (by kernel_rfl) (by kernel_rfl) (fun _ n h => h.drewN n) (Kp.refl _ _) ?_
  repeat (first
   | (apply wpOrd_skip rfl (by decide) rfl; (focus (go_simp; rfl)))
   | (apply wpOrd_pure rfl rfl rfl; (focus (intro _ _; go_simp; (try go_ints); rfl)); (focus (go_simp; rfl)))
   | (apply wpOrd_read rfl rfl rfl; (focus (intro _; go_simp; (try go_ints); rfl)); (focus (go_simp; rfl))))
  refine wpOrd_eff rfl rfl (fun n1 => ?_)
  have hc := HAP.out n1
  clear HAP
  go_wp2_with fail
  with_reducible refine hc.mono ?_
  rintro e w7 ⟨rfl, H7, hd7, hf7, hk7⟩
  clear hc
  have hk7' : Kp H w6 w7 := hk7.of_drewN
  have hf7' : Foot H H7 w6 := hf7
  obtain ⟨Z7, hz7, hfz7, hkz7⟩ := HGO.out w7 _ _ hd7 hf7' hk7'
  have HK7 := Lib.hid hk7'
  have HPL7 := Lib.hid hz7
  have HZ7 := Lib.hid (And.intro hfz7 hkz7)
  clear hd7 hf7 hk7 hk7' hf7' hz7 hfz7 hkz7 HGO
  go_wp2_with fail
  refine ⟨HK7.out, ?_⟩
  repeat (first
   | (apply wpOrd_skip rfl (by decide) rfl; (focus (go_simp; rfl)))
   | (apply wpOrd_pure rfl rfl rfl; (focus (intro _ _; go_simp; (try go_ints); rfl)); (focus (go_simp; rfl)))
   | (apply wpOrd_read rfl rfl rfl; (focus (intro _; go_simp; (try go_ints); rfl)); (focus (go_simp; rfl))))
  refine wpOrd_nil (fun nq => ?_)
  obtain ⟨w8, hw8⟩ : ∃ V, V = w7.drewN nq := ⟨_, rfl⟩
  have hk78 : Kp No w7 w8 := by rw [hw8]; exact (Kp.refl _ _).drewN nq
  rw [← hw8]
  clear u1 c6 p1 hpl6 hql6 hg6
  have HPL8 := Lib.hid (HPL7.out.no hk78)
  have HK12 := Lib.hid (HK1.out.trans_same HK2.out)
  have HFZ := Lib.hid (show Foot Z Z7 W from fun i hi => by
   have s1 := HK12.out.size
   have s2 := HZ3.out.2.size
   have s3 := HZ4.out.2.size
   have s4 := HZ5.out.2.size
   have s5 := HK6.out.size
   rcases HZ7.out.1 i hi with h1 | h1
   ·rcases HZ5.out.1 i h1 with h1 | h1
    ·rcases HZ4.out.1 i h1 with h1 | h1
     ·rcases HZ3.out.1 i h1 with h1 | h1
      ·exact .inl h1
      ·right; omega
     ·right; omega
    ·right; omega
   ·right; omega)
  have HKZ := Lib.hid (show Kp Z W w8 from by
   have s1 := HK12.out.size
   have s2 := HZ3.out.2.size
   have s3 := HZ4.out.2.size
   have s4 := HZ5.out.2.size
   have a1 : Kp Z W w3 := (Kp.of_no HK12.out).trans_same HZ3.out.2
   have a2 : Kp Z W w4 := a1.trans HZ4.out.2 fun i hi hh => by
    rcases HZ3.out.1 i hh with h1 | h1
    ·exact h1
    ·omega
   have a3 : Kp Z W w5 := a2.trans HZ5.out.2 fun i hi hh => by
    rcases HZ4.out.1 i hh with h1 | h1
    ·rcases HZ3.out.1 i h1 with h1 | h1
     ·exact h1
     ·omega
    ·omega
   have a4 : Kp Z W w7 := (a3.trans_no HK6.out).trans HZ7.out.2 fun i hi hh => by
    rcases HZ5.out.1 i hh with h1 | h1
    ·rcases HZ4.out.1 i h1 with h1 | h1
     ·rcases HZ3.out.1 i h1 with h1 | h1
      ·exact h1
      ·omega
     ·omega
    ·omega
   exact a4.trans_no hk78)
  clear hw8 hk78
  by_cases h0 : ec = 0
  ·have hfr3 : Free s3 := by
    rw [HS3.out]
    exact ⟨rfl, HND.out, HPW.out.2.1.ok⟩
   have hfr : Free qc.2 := by rw [HQC.out.1]; exact cu_free2 hfr3 nm N
   have hrm : qc.2.room ≤ 1048576 := by
    rw [HQC.out.1, (cu_ok hfr3.ok nm N).2, HS3.out]
    exact HPW.out.2.1.room
   obtain ⟨Z9, hpd, hZ9⟩ := HPL8.out.forget
   have hop := open_pair w w8 p d r (ptrV l) (ptrV x) qc.2 Z9 hpd HPW.out.1 hfr hrm
   have HOP := Lib.hid hop
   have HZ9 := Lib.hid hZ9
   subst h0
   clear hop hfr3 hfr hrm hpd hZ9
   go_wp2_with fail
   refine HOP.out.mono ?_
   rintro e w9 ⟨rfl, l', x', s', st', Z', o1, o2, o3, o4, o5, o6⟩
   have HFIN := Lib.hid (show CutP w W p d r l x P s st Z (.returned (.bool true)) w9 from ⟨rfl, .inr ⟨l', x', s', st', Z', o3, o2.dead, o2.whole, o4, (fun i hi => by
    rcases o5 i hi with h1 | h1
    ·exact HFZ.out i (HZ9.out i h1)
    ·exact .inr (Nat.le_trans HKZ.out.size h1)), HKZ.out.trans o6 fun i hi hh => by
    rcases HFZ.out i (HZ9.out i hh) with h1 | h1
    ·exact h1
    ·omega⟩⟩)
   clear o1 o2 o3 o4 o5 o6
   go_wp2_with fail
   go_ret
   exact HFIN.out
  ·have hno : qc.2 = s3 := by
    have h1 : (cuS s3 nm N).1 ≠ 0 := by rw [← HQC.out.1, ← HQC.out.2]; exact h0
    rw [HQC.out.1]
    exact five_no h1
   have HFIN := Lib.hid (show CutP w W p d r l x P s st Z (.returned (.bool true)) w8 from ⟨rfl, .inl ⟨s3, Z7, by rw [HS3.out]; rfl, by rw [HS3.out]; rfl, by rw [← hno]; exact HPL8.out, HFZ.out, HKZ.out⟩⟩)
   have hb : (ec == 0) = false := by simpa using h0
   have hb2 : decide (ec = 0) = false := decide_eq_false h0
   clear hno
   go_wp2_with fail
   go_ret
   exact HFIN.out
end Go.Proofs.YtdibkdgafidjgaaGreatDoor

