/-
  All entries, and all files, in both: 'stood' answers true.
-/
import Derived.Test.YtdibkdgafidjgaaGreatDoorWTextsM
import Derived.Test.YtdibkdgafidjgaaGreatDoorWc2
import Derived.Deep.CutRange
namespace Go.Proofs.YtdibkdgafidjgaaGreatDoor
open Go.RowKit Go.Mer
set_option maxRecDepth 100000 in
set_option maxHeartbeats 8000000 in
theorem stood_any (w W : World) (p d r l x k : Nat) (P : ByteArray) (s : DSt) (st : LSt) (Z : Nat → Prop) (h : PL w W p d r l x P s st s st Z) (hF : Fit k P s st) (hk : k ≤ 3000) (hP : P.size ≤ 50) :
  Calls Tryz.prog 27 #[.pointer (some ⟨p, 0, none⟩)] W fun e w' => e = .returned (.bool true) ∧ Kp No W w' := by
 obtain ⟨hpl, pc⟩ := h.cells No (fun h => h)
 obtain ⟨F, G, H, K, hp, hWA, hXA, hD, hZ⟩ := h
 obtain ⟨n, hn⟩ : ∃ n, n = st.ents.length := ⟨_, rfl⟩
 obtain ⟨m, hm⟩ : ∃ m, m = st.synced := ⟨_, rfl⟩
 have hn9 : n ≤ 100000 := by have := hF.ents; omega
 have hm9 : m ≤ n := by have := hF.hsl; omega
 have hsg : st.segs.length ≤ 10000 := by have := hF.segs; omega
 have hzb : ∀ z ∈ st.segs, z.1 < 1000000 := fun z hz => by have := hF.no z hz; omega
 have hnx := next_any W l d P st G hWA.log (by omega) (by omega)
 obtain ⟨xa, xc, hxl, hxc, x2, x4, xe⟩ := xrows hXA.log
 rw [← hn] at hxc x2
 have e1 : ((st.ents.length + 1 : Nat) : Int) = (n : Int) + 1 := by omega
 have e2 : ((st.synced + 1 : Nat) : Int) = (m : Int) + 1 := by omega
 rw [e1, e2] at hnx
 rw [e2] at x4
 have HNX := Lib.hid hnx
 have HWA := Lib.hid hWA
 have HXA := Lib.hid hXA
 have HPC := Lib.hid pc
 have HX2 := Lib.hid x2
 have HX4 := Lib.hid x4
 have HXE := Lib.hid xe
 have HN := Lib.hid hn
 have HSG := Lib.hid (And.intro hsg (And.intro hzb (And.intro hP hF.ok)))
 have HFEW := Lib.hid hWA.disk.few.1
 have p2 := (pc W (Kp.refl _ _)).2.2.1
 unfold ptrV at p2
 clear hnx hWA hXA pc x2 x4 xe hn hm hsg hzb hP hF hp hD hZ e1 e2 hk
 go_enter Tryz.func27, Tryz.ntmps27
 go_wp2_with fail
 refine HNX.out.mono ?_
 rintro e w1 ⟨rfl, hk1⟩
 have HK1 := Lib.hid hk1
 have p0 := fun V (hV : Kp No w1 V) => (HPC.out V (hk1.trans_same hV)).1
 have p1 := fun V (hV : Kp No w1 V) => (HPC.out V (hk1.trans_same hV)).2.1
 have p2 := fun V (hV : Kp No w1 V) => (HPC.out V (hk1.trans_same hV)).2.2.1
 have p3 := fun V (hV : Kp No w1 V) => (HPC.out V (hk1.trans_same hV)).2.2.2
 have y2 := fun V (hV : Kp No w1 V) => HX2.out V (hk1.trans_same hV)
 have y4 := fun V (hV : Kp No w1 V) => HX4.out V (hk1.trans_same hV)
 have hpl1 := hk1.lt hpl
 have hxl1 := hk1.lt hxl
 have HW1 := Lib.hid (fun n1 => wNames_any (w1.drewN n1) l d P st G (HWA.out.log.keep_no (hk1.drewN n1)) (by have := HSG.out.1; omega))
 obtain ⟨L, hL⟩ : ∃ L, L = st.segs.map fun z => bnm P z.1 := ⟨_, rfl⟩
 have hLl : L.length ≤ 10000 := by rw [hL, List.length_map]; exact HSG.out.1
 have HLL := Lib.hid hLl
 rw [← hL] at HW1
 have HL := Lib.hid hL
 unfold ptrV at p0 p1 p2 p3
 clear hk1 hL hLl HNX
 go_upto_region 2 with fail
 refine wp_region_held' (Kp No w1) [0,0,0,0,0,0,0,0,1,0,0,0,0,0,0,0,0,0,0,0,0,0,0,0,0,0,0,2,0,0,0,0,2,2,0,0,0,0,0,0,0,2,0,0,0,0,2,2,0,0] [0,1,2,3,4,5,6,7,8,9,10,11,12,13,14,15,16,17,18,19,20,21,22,23,24,25,26,28,29,30,31,27,32,33,34,35,36,37,38,39,40,42,43,44,45,41,46,47,48,49] (by kernel_rfl) (by kernel_rfl) (fun _ n h => h.drewN n) (Kp.refl _ _) ?_
 repeat (first
  | (apply wpOrd_skip rfl (by decide) rfl; (focus (go_simp; rfl)))
  | (apply wpOrd_pure rfl rfl rfl; (focus (intro _ _; go_simp; (try go_ints); rfl)); (focus (go_simp; rfl)))
  | (apply wpOrd_read rfl rfl rfl; (focus (intro _; go_simp; (try go_ints); rfl)); (focus (go_simp; rfl))))
 refine wpOrd_eff rfl rfl (fun n1 => ?_)
 have hc := HW1.out n1
 clear HW1
 go_wp2_with fail
 with_reducible refine hc.mono ?_
 rintro e w2 ⟨a2, c2, rfl, hr2, hk2⟩
 clear hc
 have HK2 := Lib.hid (show Kp No w1 w2 from hk2.of_drewN)
 have HR2 := Lib.hid hr2
 have HX := Lib.hid (fun n2 => xNames_any (w2.drewN n2) x r P st K (HXA.out.log.keep_no ((HK1.out.trans_same hk2.of_drewN).drewN n2)) (by have := HSG.out.1; omega) HSG.out.2.2.1 HSG.out.2.1)
 rw [← HL.out] at HX
 clear hk2 hr2
 go_wp2_with fail
 refine ⟨HK2.out, ?_⟩
 repeat (first
  | (apply wpOrd_skip rfl (by decide) rfl; (focus (go_simp; rfl)))
  | (apply wpOrd_pure rfl rfl rfl; (focus (intro _ _; go_simp; (try go_ints); rfl)); (focus (go_simp; rfl)))
  | (apply wpOrd_read rfl rfl rfl; (focus (intro _; go_simp; (try go_ints); rfl)); (focus (go_simp; rfl))))
 refine wpOrd_eff rfl rfl (fun n2 => ?_)
 have hc := HX.out n2
 clear HX
 go_wp2_with fail
 with_reducible refine hc.mono ?_
 rintro e w3 ⟨a3, c3, rfl, hr3, hk3⟩
 clear hc
 have hk23 : Kp No w2 w3 := hk3.of_drewN
 have HK3 := Lib.hid (HK2.out.trans_same hk23)
 have HT := Lib.hid (fun n3 => texts_same a2 a3 c2 c3 (w3.drewN n3).heap.size (w3.drewN n3).heap.size L (w3.drewN n3) (((HR2.out.keep hk23 fun _ _ x => x).mono hk23.size (Nat.le_refl _))) hr3 (by have := HLL.out; omega))
 clear hk3 hr3 hk23
 go_wp2_with fail
 refine ⟨HK3.out, ?_⟩
 repeat (first
  | (apply wpOrd_skip rfl (by decide) rfl; (focus (go_simp; rfl)))
  | (apply wpOrd_pure rfl rfl rfl; (focus (intro _ _; go_simp; (try go_ints); rfl)); (focus (go_simp; rfl)))
  | (apply wpOrd_read rfl rfl rfl; (focus (intro _; go_simp; (try go_ints); rfl)); (focus (go_simp; rfl))))
 refine wpOrd_eff rfl rfl (fun n3 => ?_)
 have hc := HT.out n3
 clear HT
 go_wp2_with fail
 with_reducible refine hc.mono ?_
 rintro e w4 ⟨rfl, n4, rfl⟩
 clear hc
 obtain ⟨V4, hV4⟩ : ∃ V, V = (w3.drewN n3).drewN n4 := ⟨_, rfl⟩
 have HK4 := Lib.hid (show Kp No w1 V4 by rw [hV4]; exact (HK3.out.drewN n3).drewN n4)
 rw [← hV4]
 have HW1 := Lib.hid (fun n1 => names_wal (V4.drewN n1) d s F (HWA.out.disk.keep_no ((HK1.out.trans_same HK4.out).drewN n1)) HSG.out.2.2.2)
 obtain ⟨N, hN⟩ : ∃ N, N = nmS s.files := ⟨_, rfl⟩
 have hNl : N.length ≤ 4096 := by rw [hN, nm_len]; exact HFEW.out
 have HNL := Lib.hid hNl
 rw [← hN] at HW1
 have HN2 := Lib.hid hN
 clear hV4 hN hNl
 go_wp2_with fail
 refine ⟨HK4.out, ?_⟩
 repeat (first
  | (apply wpOrd_skip rfl (by decide) rfl; (focus (go_simp; rfl)))
  | (apply wpOrd_pure rfl rfl rfl; (focus (intro _ _; go_simp; (try go_ints); rfl)); (focus (go_simp; rfl)))
  | (apply wpOrd_read rfl rfl rfl; (focus (intro _; go_simp; (try go_ints); rfl)); (focus (go_simp; rfl))))
 refine wpOrd_eff rfl rfl (fun n1 => ?_)
 have hc := HW1.out n1
 clear HW1
 go_wp2_with fail
 with_reducible refine hc.mono ?_
 rintro e w5 ⟨a5, c5, rfl, hr5, hk5⟩
 clear hc
 have hk45 : Kp No V4 w5 := hk5.of_drewN
 have HK5 := Lib.hid (HK4.out.trans_same hk45)
 have HR5 := Lib.hid hr5
 have HX := Lib.hid (fun n2 => names_ref (w5.drewN n2) r s H (HXA.out.disk.keep_no ((HK1.out.trans_same HK5.out).drewN n2)))
 rw [← HN2.out] at HX
 clear hk5 hr5 hk45
 go_wp2_with fail
 refine ⟨HK5.out, ?_⟩
 repeat (first
  | (apply wpOrd_skip rfl (by decide) rfl; (focus (go_simp; rfl)))
  | (apply wpOrd_pure rfl rfl rfl; (focus (intro _ _; go_simp; (try go_ints); rfl)); (focus (go_simp; rfl)))
  | (apply wpOrd_read rfl rfl rfl; (focus (intro _; go_simp; (try go_ints); rfl)); (focus (go_simp; rfl))))
 refine wpOrd_eff rfl rfl (fun n2 => ?_)
 have hc := HX.out n2
 clear HX
 go_wp2_with fail
 with_reducible refine hc.mono ?_
 rintro e w6 ⟨a6, c6, rfl, hr6, hk6⟩
 clear hc
 have hk56 : Kp No w5 w6 := hk6.of_drewN
 have HK6 := Lib.hid (HK5.out.trans_same hk56)
 have HT := Lib.hid (fun n3 => texts_same a5 a6 c5 c6 (w6.drewN n3).heap.size (w6.drewN n3).heap.size N (w6.drewN n3) (((HR5.out.keep hk56 fun _ _ x => x).mono hk56.size (Nat.le_refl _))) hr6 (by have := HNL.out; omega))
 clear hk6 hr6 hk56
 go_wp2_with fail
 refine ⟨HK6.out, ?_⟩
 repeat (first
  | (apply wpOrd_skip rfl (by decide) rfl; (focus (go_simp; rfl)))
  | (apply wpOrd_pure rfl rfl rfl; (focus (intro _ _; go_simp; (try go_ints); rfl)); (focus (go_simp; rfl)))
  | (apply wpOrd_read rfl rfl rfl; (focus (intro _; go_simp; (try go_ints); rfl)); (focus (go_simp; rfl))))
 refine wpOrd_eff rfl rfl (fun n3 => ?_)
 have hc := HT.out n3
 clear HT
 go_wp2_with fail
 with_reducible refine hc.mono ?_
 rintro e w7 ⟨rfl, n4, rfl⟩
 clear hc
 obtain ⟨V7, hV7⟩ : ∃ V, V = (w6.drewN n3).drewN n4 := ⟨_, rfl⟩
 have HK7 := Lib.hid (show Kp No w1 V7 by rw [hV7]; exact (HK6.out.drewN n3).drewN n4)
 rw [← hV7]
 clear hV7
 go_wp2_with fail
 refine ⟨HK7.out, ?_⟩
 repeat (first
  | (apply wpOrd_skip rfl (by decide) rfl; (focus (go_simp; rfl)))
  | (apply wpOrd_pure rfl rfl rfl; (focus (intro _ _; go_simp; (try go_ints); rfl)); (focus (go_simp; rfl)))
  | (apply wpOrd_read rfl rfl rfl; (focus (intro _; go_simp; (try go_ints); rfl)); (focus (go_simp; rfl))))
 refine wpOrd_nil (fun nq => ?_)
 obtain ⟨w8, hw8⟩ : ∃ V, V = V7.drewN nq := ⟨_, rfl⟩
 have HK8 := Lib.hid (show Kp No W w8 by rw [hw8]; exact (HK1.out.trans_same HK7.out).drewN nq)
 rw [← hw8]
 clear hw8 p0 p1 p2 p3 y2 y4 hpl1 hxl1
 go_wp2_with fail
 go_loopw [5] (fun s5 wr => ∃ j : Nat, j ≤ n ∧ s5 = .int .i64 (j : Int) ∧ Hid (Kp No W wr)) (fun s5 _ => n - (intOf s5).toNat)
 case atStart => exact ⟨0, Nat.zero_le _, rfl, HK8⟩
 case round =>
  obtain ⟨j, hj, rfl, HK⟩ := hrel
  have hplr := HK.out.lt hpl
  have hxlr := HK.out.lt hxl
  have p2 := (HPC.out wr HK.out).2.2.1
  have p3 := (HPC.out wr HK.out).2.2.2
  have y2 := HX2.out wr HK.out
  unfold ptrV at p2 p3
  by_cases hlt : j < n
  ·have hjs : j < st.ents.length := by rw [← HN.out]; exact hlt
   obtain ⟨g, off, ea, ec, rfl, hg, hgc, hgr⟩ := HXE.out j hjs
   have hen := Entry_any wr l d P st G (HWA.out.log.keep_no HK.out) ((j : Int) + 1)
   rw [ent_yes hjs rfl] at hen
   unfold EntP at hen
   obtain ⟨y, hy⟩ : ∃ y, y = st.ents[j] := ⟨_, rfl⟩
   simp only [← hy] at hen hgc hgr
   have hyl : y.length ≤ 1073741824 := by
    have h9 := entS_len HWA.out.log ((j : Int) + 1)
    rw [ent_yes hjs rfl, ← hy] at h9
    exact h9
   have HEN := Lib.hid hen
   have HGC := Lib.hid hgc
   have HGR := Lib.hid hgr
   have HG := Lib.hid hg
   clear hen hgc hgr hy hjs
   go_wp2_with fail
   refine HEN.out.mono ?_
   rintro e w9 ⟨v, rfl, ho, hk9, _⟩
   obtain ⟨a9, c9, rfl, _, _⟩ := ho.rd
   have HK9 := Lib.hid (HK.out.trans_same hk9)
   have hgl9 := HK9.out.lt HG.out
   have hpl9 := HK9.out.lt hpl
   have hxl9 := HK9.out.lt hxl
   have p3 := (HPC.out w9 HK9.out).2.2.2
   have y2 := HX2.out w9 HK9.out
   have g2 := HGC.out w9 HK9.out
   have hsm := same_any a9 ea c9 ec w9.heap.size w9.heap.size y y w9 ho.rd' (HGR.out w9 HK9.out) (by omega)
   have HSM := Lib.hid hsm
   unfold ptrV at p3
   clear p2 hsm ho hk9 HEN hyl
   go_wp2_with fail
   refine HSM.out.mono ?_
   rintro e w10 ⟨rfl, n8, rfl⟩
   obtain ⟨V8, hV8⟩ : ∃ V, V = w9.drewN n8 := ⟨_, rfl⟩
   have HK10 := Lib.hid (show Kp No W V8 by rw [hV8]; exact HK9.out.drewN n8)
   rw [← hV8]
   (try simp only [decide_true])
   clear hV8 HSM p3 y2 g2
   go_wp2_with fail
   go_roundw
   case rel => exact ⟨j + 1, by omega, by go_num, HK10⟩
   case measure => simp [intOf]; omega
  ·have hjn : j = n := by omega
   subst hjn
   clear hlt
   have p1 := (HPC.out wr HK.out).2.1
   unfold ptrV at p1
   have hnr := names_ref wr r s H (HXA.out.disk.keep_no HK.out)
   rw [← HN2.out] at hnr
   have HNR := Lib.hid hnr
   clear hnr
   go_wp2_with fail
   refine HNR.out.mono ?_
   rintro e w9 ⟨a9, c9, rfl, hr9, hk9⟩
   have HK9 := Lib.hid (HK.out.trans_same hk9)
   have HR9 := Lib.hid hr9
   have hNl := HNL.out
   clear hr9 hk9 HNR p1 p2 p3 y2
   go_wp2_with fail
   go_loopw [9] (fun s9 wq => ∃ k : Nat, k ≤ N.length ∧ s9 = .int .i64 (k : Int) ∧ Hid (Kp No w9 wq)) (fun s9 _ => N.length - (intOf s9).toNat)
   case atStart => exact ⟨0, Nat.zero_le _, rfl, Lib.hid (Kp.refl _ _)⟩
   case round =>
    obtain ⟨k, hk, rfl, HQ⟩ := hrel
    by_cases hlt : k < N.length
    ·have hrr := (HR9.out.keep HQ.out fun _ _ x => x).mono HQ.out.size (Nat.le_refl _)
     obtain ⟨g, off, rfl, hg, _, hc⟩ := hrr.at_ (i := k) (u := .string N[k]) (by simp [hlt])
     obtain ⟨nm, hnm⟩ : ∃ nm, nm = N[k] := ⟨_, rfl⟩
     rw [← hnm] at hc
     have HKQ := Lib.hid (HK9.out.trans_same HQ.out)
     have hpq := HKQ.out.lt hpl
     have p0 := fun V (hV : Kp No wr V) => (HPC.out V (HKQ.out.trans_same hV)).1
     have c0 := fun V (hV : Kp No wr V) => (hV.cell (p := ⟨g, off + k, none⟩) hg fun x => x).trans hc
     have HC := Lib.hid (And.intro c0 hg)
     have hd := fun n1 => Read_any (wr.drewN n1) d s F (HWA.out.disk.keep_no (HKQ.out.drewN n1)) nm
     have hDs := rd_len (HWA.out.disk.keep_no HKQ.out) nm
     unfold ReadPost at hd
     obtain ⟨q, hq⟩ : ∃ q, q = rdS s.files nm := ⟨_, rfl⟩
     rw [← hq] at hd hDs
     have HD := Lib.hid hd
     have HQQ := Lib.hid hq
     unfold ptrV at p0
     clear hd hq hnm hrr hc
     go_upto_region 14 with fail
     refine wp_region_held' (Kp No wr) [0,0,0,0,0,0,0,0,2,0,0,0,0,0] [0,1,2,3,4,5,6,7,8,9,10,11,12,13] (by kernel_rfl) (by kernel_rfl) (fun _ n h => h.drewN n) (Kp.refl _ _) ?_
     repeat (first
      | (apply wpOrd_skip rfl (by decide) rfl; (focus (go_simp; rfl)))
      | (apply wpOrd_pure rfl rfl rfl; (focus (intro _ _; go_simp; (try go_ints); rfl)); (focus (go_simp; rfl)))
      | (apply wpOrd_read rfl rfl rfl; (focus (intro _; go_simp; (try go_ints); rfl)); (focus (go_simp; rfl))))
     refine wpOrd_eff rfl rfl (fun n1 => ?_)
     have hc := HD.out n1
     clear HD
     go_wp2_with fail
     with_reducible refine hc.mono ?_
     rintro e w11 ⟨v2, rfl, ho2, hk2, _, _⟩
     clear hc
     obtain ⟨a2, e2, rfl, _, _⟩ := ho2.rd
     have HK2 := Lib.hid (show Kp No wr w11 from hk2.of_drewN)
     have HO2 := Lib.hid ho2
     clear ho2 hk2
     go_wp2_with fail
     refine ⟨HK2.out, ?_⟩
     repeat (first
      | (apply wpOrd_skip rfl (by decide) rfl; (focus (go_simp; rfl)))
      | (apply wpOrd_pure rfl rfl rfl; (focus (intro _ _; go_simp; (try go_ints); rfl)); (focus (go_simp; rfl)))
      | (apply wpOrd_read rfl rfl rfl; (focus (intro _; go_simp; (try go_ints); rfl)); (focus (go_simp; rfl))))
     refine wpOrd_nil (fun nq => ?_)
     obtain ⟨w12, hw12⟩ : ∃ V, V = w11.drewN nq := ⟨_, rfl⟩
     have hk12 : Kp No w11 w12 := by rw [hw12]; exact (Kp.refl _ _).drewN nq
     have HK12 := Lib.hid (HK2.out.trans_same hk12)
     have HO12 := Lib.hid (HO2.out.keep hk12 fun _ _ x => x)
     rw [← hw12]
     have hpq2 := HK12.out.lt hpq
     have hg2 := HK12.out.lt hg
     have p1 := fun V (hV : Kp No w12 V) => (HPC.out V ((HKQ.out.trans_same HK12.out).trans_same hV)).2.1
     have c1 := fun V (hV : Kp No w12 V) => HC.out.1 V (HK12.out.trans_same hV)
     have hd := fun n1 => rRead_any (w12.drewN n1) r s H (HXA.out.disk.keep_no ((HKQ.out.trans_same HK12.out).drewN n1)) nm
     unfold RReadPost at hd
     rw [← HQQ.out] at hd
     have HD := Lib.hid hd
     unfold ptrV at p1
     clear hd hw12 hk12 HO2 HK2 p0 c0
     go_upto_region 15 with fail
     refine wp_region_held' (Kp No w12) [0,0,0,0,0,0,0,0,2,0,0,0,0,0] [0,1,2,3,4,5,6,7,8,9,10,11,12,13] (by kernel_rfl) (by kernel_rfl) (fun _ n h => h.drewN n) (Kp.refl _ _) ?_
     repeat (first
      | (apply wpOrd_skip rfl (by decide) rfl; (focus (go_simp; rfl)))
      | (apply wpOrd_pure rfl rfl rfl; (focus (intro _ _; go_simp; (try go_ints); rfl)); (focus (go_simp; rfl)))
      | (apply wpOrd_read rfl rfl rfl; (focus (intro _; go_simp; (try go_ints); rfl)); (focus (go_simp; rfl))))
     refine wpOrd_eff rfl rfl (fun n1 => ?_)
     have hc := HD.out n1
     clear HD
     go_wp2_with fail
     with_reducible refine hc.mono ?_
     rintro e w13 ⟨v3, rfl, ho3, hk3, _⟩
     clear hc
     obtain ⟨a3, e3, rfl, _, _⟩ := ho3.rd
     have HK3 := Lib.hid (show Kp No w12 w13 from hk3.of_drewN)
     have HO3 := Lib.hid ho3
     clear ho3 hk3
     go_wp2_with fail
     refine ⟨HK3.out, ?_⟩
     repeat (first
      | (apply wpOrd_skip rfl (by decide) rfl; (focus (go_simp; rfl)))
      | (apply wpOrd_pure rfl rfl rfl; (focus (intro _ _; go_simp; (try go_ints); rfl)); (focus (go_simp; rfl)))
      | (apply wpOrd_read rfl rfl rfl; (focus (intro _; go_simp; (try go_ints); rfl)); (focus (go_simp; rfl))))
     refine wpOrd_nil (fun nq => ?_)
     obtain ⟨w14, hw14⟩ : ∃ V, V = w13.drewN nq := ⟨_, rfl⟩
     have hk14 : Kp No w13 w14 := by rw [hw14]; exact (Kp.refl _ _).drewN nq
     have HK14 := Lib.hid (HK3.out.trans_same hk14)
     rw [← hw14]
     have hsm := same_any a2 a3 e2 e3 w14.heap.size w14.heap.size q.1 q.1 w14 (HO12.out.keep HK14.out fun _ _ x => x).rd' (HO3.out.keep hk14 fun _ _ x => x).rd' (by omega)
     have HSM := Lib.hid hsm
     have HKF := Lib.hid (HQ.out.trans_same (HK12.out.trans_same HK14.out))
     clear hw14 hk14 hsm p1 c1 HO3 HK3
     go_wp2_with fail
     refine HSM.out.mono ?_
     rintro e w15 ⟨rfl, n8, rfl⟩
     obtain ⟨V8, hV8⟩ : ∃ V, V = w14.drewN n8 := ⟨_, rfl⟩
     have HK15 := Lib.hid (show Kp No w9 V8 by rw [hV8]; exact HKF.out.drewN n8)
     rw [← hV8]
     (try simp only [decide_true])
     clear hV8 HSM
     go_wp2_with fail
     go_roundw
     case rel => exact ⟨k + 1, by omega, by go_num, HK15⟩
     case measure => simp [intOf]; omega
    ·have hkn : k = N.length := by omega
     subst hkn
     have HK15 := Lib.hid (HK9.out.trans_same HQ.out)
     clear hlt
     go_wp2_with fail
     go_ret
     exact ⟨rfl, HK15.out⟩
end Go.Proofs.YtdibkdgafidjgaaGreatDoor

