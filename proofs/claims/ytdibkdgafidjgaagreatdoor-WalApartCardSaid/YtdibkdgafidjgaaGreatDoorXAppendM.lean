/-
  The reference's Append.
-/
import Derived.Test.YtdibkdgafidjgaaGreatDoorWb3
import Derived.Test.YtdibkdgafidjgaaGreatDoorWb4
import Derived.Test.YtdibkdgafidjgaaGreatDoorWAppendM
import Derived.Test.YtdibkdgafidjgaaGreatDoorRWriteM
namespace Go.Proofs.YtdibkdgafidjgaaGreatDoor
open Go.RowKit Go.Mer
theorem sy_not6 (s : DSt) (x : ByteArray) : (syS s x).1 ≠ 6 := by
 unfold syS five
 split
 ·show (9 : Int) ≠ 6; decide
 ·split
  ·split
   ·show (0 : Int) ≠ 6; decide
   ·unfold syCode
    split
    ·show (7 : Int) ≠ 6; decide
    ·show (0 : Int) ≠ 6; decide
  ·show (1 : Int) ≠ 6; decide
theorem syncs_not6 (P : ByteArray) (s : DSt) (st : LSt) : (syncsS P s st).1 ≠ 6 := by
 unfold syncsS
 split
 ·split
  ·show (0 : Int) ≠ 6; decide
  ·exact sy_not6 _ _
 ·show (0 : Int) ≠ 6; decide
def AxpP (w : World) (r x : Nat) (P : ByteArray) (F G : Nat → Prop) (q : (Nat × Int) × DSt × LSt) (e : Ending) (w' : World) : Prop :=
 e = .returned (.tuple #[.int .i64 (q.1.1 : Int), .int .i64 q.1.2]) ∧ SaidX w r x P F G q.2.1 q.2.2 w'
theorem SaidX.kp {w a : World} {d l : Nat} {P : ByteArray} {F G : Nat → Prop} {s' : DSt} {st' : LSt} (h : SaidX w d l P F G s' st' a) : Kp (Both F G) w a := by
 obtain ⟨_, _, _, _, _, h⟩ := h
 exact h
set_option maxRecDepth 100000 in
set_option maxHeartbeats 4000000 in
theorem xAppend_any (w : World) (r x : Nat) (P : ByteArray) (s : DSt) (st : LSt) (F G : Nat → Prop) (h : XAt w r x P s st F G) (hne : st.segs = [] → st.ents.length ≤ st.synced) (hsl : st.synced ≤ st.ents.length) (hfew : st.ents.length + 1 < 1000000) (hz : ∀ z ∈ st.segs, z.1 < 1000000) (hsegs : st.segs.length ≤ 1000000) (hP : P.size ≤ 50) (htr : Tracked P s st)
  (pa : Option Addr) (pc : Nat) (p : List UInt8) (hp : ∀ W, Kp (Both F G) w W → Rd W W.heap.size pa (u8s p)) (hpl : p.length ≤ 1000000000) :
  Calls Tryz.prog 15 #[.pointer (some ⟨x, 0, none⟩), .slice pa p.length pc] w (AxpP w r x P F G (appS P s st p)) := by
 obtain ⟨sv, ev, E, hC, hE, hLF, hGl⟩ := h.log
 obtain ⟨c0, c1, c2, c3, _, c5, _⟩ := hC.cells
 have hll := get_lt hC.cell
 obtain ⟨ea, ec, rfl, hec, _⟩ := hC.ents.rd
 obtain ⟨pl, hple⟩ : ∃ pl, pl = p.length := ⟨_, rfl⟩
 rw [← hple] at hpl ⊢
 obtain ⟨en, hen⟩ : ∃ en, en = E.length := ⟨_, rfl⟩
 rw [← hen] at c2
 obtain ⟨k1, hk1⟩ : ∃ k1, k1 = en + 1 := ⟨_, rfl⟩
 have hek : st.ents.length + 1 = k1 := by rw [hk1, hen, hE, List.length_map]
 have HW1 := Lib.hid (show wrap64 ((en : Int) + 1) = (k1 : Int) by
  rw [IntWalk.wrap64_in _ (by omega), hk1]
  push_cast
  rfl)
 have c2w := c2 w (Kp.refl _ _)
 have c3w := c3 w (Kp.refl _ _)
 have c5w := c5 w (Kp.refl _ _)
 have H := Lib.hid h
 have HNE := Lib.hid (And.intro hne hsl)
 have HFEW := Lib.hid (And.intro hfew (And.intro hsegs hz))
 have HTR := Lib.hid htr
 have HP := Lib.hid hp
 have HPLE := Lib.hid hple
 have HC := Lib.hid hC
 have HE := Lib.hid hE
 have HEN := Lib.hid hen
 have HEK := Lib.hid hek
 have HLF := Lib.hid hLF
 have HPL := Lib.hid hpl
 clear h hne hsl hfew hz hsegs htr hp hple hC hE hLF hGl c0 c1 c2 c3 c5 hk1 hek hen hec
 cases hd : st.dead with
 | true =>
  have HQ := Lib.hid (show appS P s st p = ((0, 9), s, st) by unfold appS; rw [if_pos hd])
  rw [hd] at c5w
  clear hd
  go_enter Tryz.func15, Tryz.ntmps15
  go_wp2_with fail
  go_ret2
  rw [HQ.out]
  exact ⟨rfl, SaidX.here H.out (Kp.refl _ _)⟩
 | false =>
  by_cases hlong : 262134 < pl
  ·have HQ := Lib.hid (show appS P s st p = ((0, 5), s, st) by unfold appS; rw [if_neg (by rw [hd]; decide), if_pos (by rw [← HPLE.out]; exact hlong)])
   have e1 : decide ((262134 : Int) < (pl : Int)) = true := by rw [decide_eq_true_iff]; omega
   rw [hd] at c5w
   clear hd
   go_enter Tryz.func15, Tryz.ntmps15
   go_wp2_with fail
   go_ret2
   rw [HQ.out]
   exact ⟨rfl, SaidX.here H.out (Kp.refl _ _)⟩
  ·have e1 : decide ((262134 : Int) < (pl : Int)) = false := by rw [decide_eq_false_iff_not]; omega
   have HD := Lib.hid hd
   rw [hd] at c5w
   have HPL2 := Lib.hid (show p.length ≤ 262134 by rw [← HPLE.out]; omega)
   clear hd
   rcases List.eq_nil_or_concat st.segs with hsg | ⟨S1, z, hsg⟩
   ·obtain ⟨sa, sc, rfl, _⟩ := HC.out.segs.rd
    have HSG := Lib.hid hsg
    rw [hsg] at c3w
    have hl0 : (([] : List (Nat × Nat)).map (·.1)).length = 0 := rfl
    rw [hl0] at c3w
    clear hsg hl0
    have hw1 := HW1.out
    go_enter Tryz.func15, Tryz.ntmps15
    go_upto_region 15 with fail
    rw [hw1]
    clear hw1
    obtain ⟨s1, hs1⟩ : ∃ s1, s1 = s := ⟨_, rfl⟩
    obtain ⟨st1, hst1⟩ : ∃ st1, st1 = st := ⟨_, rfl⟩
    have HS1 := Lib.hid (show SaidX w r x P F G s1 st1 w from by rw [hs1, hst1]; exact SaidX.here H.out (Kp.refl _ _))
    have HPR := Lib.hid (show preS P s st = (0, s1, st1) from by rw [hs1, hst1]; exact pre_none HSG.out)
    have HST := Lib.hid (show st1.ents = st.ents ∧ st1.segs = st.segs ∧ st1.dead = false from by rw [hst1]; exact ⟨rfl, rfl, HD.out⟩)
    have HFR := Lib.hid (fresh_none HSG.out)
    have HTO := Lib.hid (show bnm P k1 = toN P st by unfold toN; rw [if_pos HFR.out, HEK.out])
    have HNB := Lib.hid (show k1 < 1000000 by rw [← HEK.out]; exact HFEW.out.1)
    clear hs1 hst1 c2w c3w c5w
    have hkx := HS1.out.kp
    have HPX := Lib.hid (HP.out w hkx)
    have hk1b : k1 ≤ 1000000000000 := by rw [← HEK.out]; have := HFEW.out.1; omega
    have hnums := rNum_any k1 hk1b w
    have HNU := Lib.hid hnums
    have HK1B := Lib.hid hk1b
    clear hkx hnums hk1b
    go_wp2_with fail
    have hc := HNU.out
    with_reducible refine hc.mono ?_
    rintro e w5 ⟨na, nc, rfl, ho5, hf5, hk5⟩
    clear hc HNU
    obtain ⟨a6, c6, w6, hrun, ho6, hf6, hk6⟩ := own_app w w5 (.slice na (numL k1).length nc) (numL k1) p ho5 hf5 hk5 pa pc (HPX.out.kp hk5) (by
     have := (entL_len k1 HK1B.out p).2
     have := HPL2.out
     omega)
    obtain ⟨M, hM⟩ : ∃ M, M = numL k1 ++ p := ⟨_, rfl⟩
    rw [← hM] at hrun ho6
    have hen := rEncode_new w6 a6 c6 M ho6.rd' (by
     rw [hM, List.length_append]
     have := (entL_len k1 HK1B.out p).2
     have := HPL2.out
     omega)
    rw [← HPLE.out] at hrun
    have HX6 := Lib.hid hrun
    have HEC := Lib.hid hen
    have HK6 := Lib.hid hk6
    have HM := Lib.hid (show frameL M = entL k1 p by rw [hM]; rfl)
    clear hM ho5 hf5 hk5 hrun ho6 hf6 hk6 hen
    go_wp2_with (at_builtin; refine wpList_append_run rfl rfl rfl rfl HX6.out ?_)
    have hc := HEC.out
    with_reducible refine hc.mono ?_
    rintro e w8 ⟨fa, fc, rfl, hr8, hk8, hf8⟩
    clear hc HEC
    obtain ⟨F1, G1, hX1, hF1, hG1, hK1⟩ := HS1.out
    have hk8x : Kp No w w8 := HK6.out.trans_same hk8
    have hX8 := hX1.no hk8x
    obtain ⟨svx, evx, Ex, hCx, hEx, hLFx, _⟩ := hX8.log
    have hcF : ∀ W, Kp F1 w8 W → RLogC W x r P svx evx (st1.segs.map (·.1)) Ex (st1.synced + 1) st1.dead := fun W hW => hCx.keep hW (fun k hk hf => hX8.sep k hf (hLFx k hk))
    have g0 : ∀ W, Kp F1 w8 W → W.cell? ⟨x, 0, none⟩ = some (.pointer (some ⟨r, 0, none⟩)) := fun W hW => (hcF W hW).cells.1 W (Kp.refl _ _)
    have g1 : ∀ W, Kp F1 w8 W → W.cell? ⟨x, 1, none⟩ = some (.string P) := fun W hW => (hcF W hW).cells.2.1 W (Kp.refl _ _)
    have hll8 := get_lt hCx.cell
    have hfaF : 0 < (u8s (frameL M)).length → ∀ k o, fa = some ⟨k, o, none⟩ → ¬ F1 k := fun _ k o ha hf => by
     have h1 := hf8 k o ha
     have h2 := hX1.disk.lt k hf
     have h3 := HK6.out.size
     omega
    obtain ⟨fl, hfl⟩ : ∃ fl, fl = (frameL M).length := ⟨_, rfl⟩
    rw [← hfl]
    have HFLE := Lib.hid (show fl = (entL k1 p).length by rw [hfl, HM.out])
    have hwr := fun W (hW : Kp No w8 W) => rWrite_any W r s1 F1 (hX8.disk.keep_no hW) (bnm P k1) fa fc (frameL M) (hr8.kp hW) (by
     have := entL_len k1 HK1B.out p
     have h2 := HPL2.out
     rw [HM.out]
     omega) hfaF
    rw [← hfl] at hwr
    have HWR := Lib.hid hwr
    have HNM := Lib.hid (fun W => rName_bnm P (by omega) k1 HNB.out W)
    have HX1 := Lib.hid (And.intro hX8 (And.intro hF1 (And.intro hG1 hK1)))
    have HK8X := Lib.hid hk8x
    clear hr8 hk8 hf8 hX1 hF1 hG1 hK1 hk8x hX8 hCx hEx hLFx hcF hfaF hfl hwr
    go_upto_region 16 with fail
    refine wp_region_held' (Kp F1 w8) [0,0,0,0,0,0,0,0,0,2,0,2,0] [0,1,2,3,4,5,6,7,8,10,9,11,12] (by kernel_rfl) (by kernel_rfl) (fun _ n h => h.drewN n) (Kp.refl _ _) ?_
    repeat (first
     | (apply wpOrd_skip rfl (by decide) rfl; (focus (go_simp; rfl)))
     | (apply wpOrd_pure rfl rfl rfl; (focus (intro _ _; go_simp; (try go_ints); rfl)); (focus (go_simp; rfl)))
     | (apply wpOrd_read rfl rfl rfl; (focus (intro _; go_simp; (try go_ints); rfl)); (focus (go_simp; rfl))))
    refine wpOrd_eff rfl rfl (fun n2 => ?_)
    have hc := HNM.out (w8.drewN n2)
    go_wp2_with fail
    with_reducible refine hc.mono ?_
    rintro e w9 ⟨rfl, hk9⟩
    clear hc
    go_wp2_with fail
    have hk9' : Kp No w8 w9 := hk9.of_drewN
    refine ⟨Kp.of_no hk9', ?_⟩
    refine wpOrd_eff rfl rfl (fun n3 => ?_)
    have hc := HWR.out (w9.drewN n3) (hk9'.drewN n3)
    obtain ⟨q, hqe⟩ : ∃ q, q = wrS s1 (bnm P k1) (frameL M) := ⟨_, rfl⟩
    have hqc := wr_code s1 (bnm P k1) (frameL M)
    rw [← hqe] at hc hqc
    have HQ := Lib.hid (show q = wrS s1 (toN P st) (entL k1 p) by rw [hqe, HTO.out, HM.out])
    have HK9 := Lib.hid hk9'
    clear hqe hk9 hk9' HWR HNM
    go_wp2_with fail
    with_reducible refine hc.mono ?_
    rintro e w10 ⟨rfl, F10, hD10, hF10, hK10⟩
    clear hc
    have hk910 : Kp F1 w9 w10 := hK10.of_drewN
    have hX10 : XAt w10 r x P q.2 st1 F10 G1 := (HX1.out.1.no HK9.out).turnD hD10 hF10 hk910
    obtain ⟨qc, hqe⟩ : ∃ qc, qc = q.1 := ⟨_, rfl⟩
    rw [← hqe] at hqc ⊢
    have HQE := Lib.hid hqe
    have HX10 := Lib.hid hX10
    have hk810 : Kp F1 w8 w10 := (Kp.of_no HK9.out).trans_same hk910
    have HS10 := Lib.hid (show Foot F F10 w ∧ Foot G G1 w ∧ Kp (Both F G) w w10 from by
     refine ⟨HX1.out.2.1.trans (fun k hk => (hF10 k hk).imp id fun h => Nat.le_trans (Nat.le_trans HK8X.out.size HK9.out.size) h) HX1.out.2.2.2.size, HX1.out.2.2.1, ?_⟩
     refine (HX1.out.2.2.2.trans_no HK8X.out).trans hk810 fun i hi hf => ?_
     rcases HX1.out.2.1 i hf with h1 | h1
     ·exact .inl h1
     ·omega)
    have HK810 := Lib.hid hk810
    clear hD10 hF10 hK10 hk910 hX10 hqe hk810
    go_wp2_with fail
    refine ⟨HK810.out, ?_⟩
    repeat (first
     | (apply wpOrd_skip rfl (by decide) rfl; (focus (go_simp; rfl)))
     | (apply wpOrd_pure rfl rfl rfl; (focus (intro _ _; go_simp; (try go_ints); rfl)); (focus (go_simp; rfl)))
     | (apply wpOrd_read rfl rfl rfl; (focus (intro _; go_simp; (try go_ints); rfl)); (focus (go_simp; rfl))))
    refine wpOrd_nil (fun nq => ?_)
    clear g0 g1 hll8
    obtain ⟨w11, hw11⟩ : ∃ W, W = w10.drewN nq := ⟨_, rfl⟩
    have hk11 : Kp No w10 w11 := by rw [hw11]; exact (Kp.refl No w10).drewN nq
    rw [← hw11]
    have HX11 := Lib.hid (HX10.out.no hk11)
    have HS11 := Lib.hid (show Foot F F10 w ∧ Foot G G1 w ∧ Kp (Both F G) w w11 from ⟨HS10.out.1, HS10.out.2.1, HS10.out.2.2.trans_no hk11⟩)
    clear hw11 hk11
    by_cases hqz : qc = 0
    rotate_left
    ·have e3 : (qc == (0 : Int)) = false := by rw [beq_eq_false_iff_ne]; exact hqz
     have e4 : (qc != (0 : Int)) = true := by rw [bne, e3]; rfl
     have hfa := fail_any w11 r x P q.2 st1 F10 G1 HX11.out HST.out.2.2 qc
     have hap := app_go (p := p) HD.out HPL2.out HPR.out
     rw [HEK.out, ← HQ.out, if_neg (by rw [← HQE.out]; exact hqz), ← HQE.out] at hap
     have HAP := Lib.hid hap
     clear hap
     go_wp2_with fail
     with_reducible refine hfa.mono ?_
     rintro e w12 ⟨rfl, hsx⟩
     have HFIN := Lib.hid (show SaidX w r x P F G q.2 { st1 with dead := qc != 6 } w12 from SaidX.trans ⟨F10, G1, HX11.out, HS11.out.1, HS11.out.2.1, HS11.out.2.2, hsx⟩)
     clear hfa hsx
     go_wp2_with fail
     go_ret2
     rw [HAP.out]
     exact ⟨rfl, HFIN.out⟩
    obtain ⟨sv9, ev9, E9, hrun9, hE9, _⟩ := XLRun.start HX11.out.log
    obtain ⟨sa9, sc9, rfl, _, _⟩ := hrun9.c.segs.rd
    obtain ⟨ea9, ec9, rfl, _, _⟩ := hrun9.c.ents.rd
    obtain ⟨en9, hen9⟩ : ∃ en9, en9 = E9.length := ⟨_, rfl⟩
    have hen9b : en9 ≤ 1000000 := by
     have h2 := congrArg List.length hE9
     rw [List.length_map, HST.out.1] at h2
     have h3 := HFEW.out.1
     omega
    have HRUN9 := Lib.hid hrun9
    have HE9 := Lib.hid hE9
    have HEN9 := Lib.hid hen9
    have HEN9B := Lib.hid hen9b
    clear hrun9 hE9 hen9 hen9b
    have hqc0 : qc = 0 := hqz
    rw [hqc0] at HQE
    clear hqc
    subst hqc0
    obtain ⟨sn9, hsn9⟩ : ∃ sn9, sn9 = (st1.segs.map (·.1)).length := ⟨_, rfl⟩
    have hsn9b : sn9 ≤ 1000000 := by rw [hsn9, List.length_map, HST.out.2.1]; exact HFEW.out.2.1
    have hC11 := HRUN9.out.c
    rw [← hsn9] at hC11
    have hl9 := get_lt hC11.cell
    have hos := hC11.segs
    obtain ⟨a', c', w12, hrn, ho', hkp', hbl'⟩ := own_one (T := 51) (E := 3) (sz := 1) (bytes := 8) Tryz.underlying51 infoInt (W := w11) (v := .slice sa9 sn9 sc9) (n := sn9) (xs := (st1.segs.map (·.1)).flatMap numC) (by rw [hsn9]; rw [hsn9] at hos; exact hos) (news := numC k1) (numC_one k1) rfl (cs := #[.int .i64 (k1 : Int)]) rfl (by omega) (by omega)
    have c3w9 := hC11.cells.2.2.2.1 w11 (Kp.refl _ _)
    have hcW := hkp'.get hC11.cell fun e => (HRUN9.out.c.seg_ne (by rw [hsn9] at e; exact e)).1 rfl
    have hl3W : w12.cell? ⟨x, 3, none⟩ = some (.slice sa9 sn9 sc9) := by rw [cell_at hcW]; rfl
    have hf3W := free_at hcW 3
    have hllW := get_lt hcW
    have hnew := HRUN9.out.seg (S' := st1.segs.map (·.1) ++ [k1]) (W' := w12) (sv' := .slice a' (sn9 + 1) c') (by rw [← hsn9]; exact hkp') (by rw [List.length_append, List.length_singleton, ← hsn9, List.flatMap_append, List.flatMap_cons, List.flatMap_nil, List.append_nil]; exact ho') (by rw [← hsn9]; exact hbl')
    have HNEW := Lib.hid hnew
    have HRN := Lib.hid hrn
    clear hnew hrn ho' hkp' hbl' hcW hC11 hos hsn9
    go_upto_region 20 with fail
    go_upto_region 21 with (at_builtin; refine wpList_append_run rfl rfl rfl rfl HRN.out ?_)
    obtain ⟨w14, hw14⟩ : ∃ W, W = w12.setCell ⟨x, 3, none⟩ (.slice a' (sn9 + 1) c') := ⟨_, rfl⟩
    rw [← hw14] at HNEW ⊢
    clear hw14 hl3W hf3W hllW c3w9 hl9
    have HL14 := HNEW
    have hk1114 : Kp G1 w11 w14 := HL14.out.kp
    have hC14 := HL14.out.c
    have hll14 := get_lt hC14.cell
    have hwx14 : Kp (Both F G) w w14 := HS11.out.2.2.trans (T := G1) hk1114 fun i hi hg => by
     rcases HS11.out.2.1 i hg with h1 | h1
     ·exact .inr h1
     ·omega
    have hE14 : ∀ k, (Value.slice ea9 en9 ec9).ownBlock = some k → k ≠ x ∧ k < w14.heap.size := fun k hk => by
     rw [HEN9.out] at hk
     exact ⟨(hC14.ent_ne hk).1, hC14.ents.lt k hk⟩
    have e2 : ∀ W, Kp (fun k => (Value.slice ea9 en9 ec9).ownBlock = some k) w14 W → W.cell? ⟨x, 2, none⟩ = some (.slice ea9 en9 ec9) := fun W hW => by
     rw [hW.cell (p := ⟨x, 2, none⟩) hll14 (fun h => (hE14 x h).1 rfl), cell_at hC14.cell, HEN9.out]
     rfl
    have e2f : ∀ W, Kp (fun k => (Value.slice ea9 en9 ec9).ownBlock = some k) w14 W → W.frozen? ⟨x, 2, none⟩ = false := fun W hW => by
     rw [hW.frozen (p := ⟨x, 2, none⟩) hll14 (fun h => (hE14 x h).1 rfl)]
     exact free_at hC14.cell 2
    have HWX14 := Lib.hid hwx14
    have HE14 := Lib.hid hE14
    clear hwx14 hE14 hC14 hk1114
    go_upto_region 21 with fail
    refine wp_region_last (Kp (fun k => (Value.slice ea9 en9 ec9).ownBlock = some k) w14) [0,0,0,0,0,2,0,2,2,2,0,0,2] [0,1,2,3,4,6,5,7,8,9,10,11] 12 (by kernel_rfl) (by kernel_rfl) (fun _ n h => h.drewN n) (Kp.refl _ _) ?_
    repeat (first
     | (apply wpOrd_skip rfl (by decide) rfl; (focus (go_simp; rfl)))
     | (apply wpOrd_pure rfl rfl rfl; (focus (intro _ _; go_simp; (try go_ints); rfl)); (focus (go_simp; rfl)))
     | (apply wpOrd_read rfl rfl rfl; (focus (intro _; go_simp; (try go_ints); rfl)); (focus (go_simp; rfl))))
    refine wpOrd_eff rfl rfl (fun n5 => ?_)
    go_wp2_with fail
    obtain ⟨w15, hw15⟩ : ∃ W, W = (w14.drewN n5).alloc (.cells #[] 5) := ⟨_, rfl⟩
    have k15 : Kp No w14 w15 := by rw [hw15]; exact ((Kp.refl _ _).drewN n5).alloc _
    have o15 : Own w15 5 1 (.slice (some ⟨w14.heap.size, 0, none⟩) 0 0) 0 [] := by rw [hw15]; exact Own.made (w14.drewN n5) 5 1 #[] 0 0 (Nat.le_refl _) (by simp [maxLen]) (by simp) rfl
    rw [← hw15]
    clear hw15
    refine ⟨Kp.of_no k15, ?_⟩
    refine wpOrd_eff rfl rfl (fun n7 => ?_)
    obtain ⟨ca, cc, w17, hrc, hoc, hkc, hfc⟩ := cpy_bytes' (w15.drewN n7) w14.heap.size (o15.drewN n7) p pa pc (HP.out _ (HWX14.out.trans_no (k15.drewN n7))) (by have := HPL2.out; omega)
    rw [← HPLE.out] at hrc
    have k17 : Kp No w14 w17 := (k15.drewN n7).trans hkc fun i hi (e : i = w14.heap.size) => by omega
    have hfc2 : ∀ g, (Value.slice ca p.length cc).ownBlock = some g → w14.heap.size ≤ g := fun g hg => by
     rcases hfc g hg with h1 | h1
     ·omega
     ·have := k15.size
      have h2 : w15.heap.size ≤ g := h1
      omega
    have HRC := Lib.hid hrc
    have HOC := Lib.hid hoc
    have HFC := Lib.hid hfc2
    have HK17 := Lib.hid k17
    clear hrc hoc hkc hfc hfc2 k15 o15 k17
    refine wpList_append_run rfl rfl rfl rfl HRC.out (wpList_nil ⟨rfl, Kp.of_no HK17.out, ?_⟩)
    refine wpOrd_eff rfl rfl (fun n8 => ?_)
    go_wp2_with fail
    obtain ⟨w18, hw18⟩ : ∃ W, W = (w17.drewN n8).alloc (.cells #[.slice ca pl cc] 23) := ⟨_, rfl⟩
    have h18g : w18.heap[w17.heap.size]? = some (.cells #[.slice ca pl cc] 23 (0, 0)) := by rw [hw18]; exact heap_alloc_new (w17.drewN n8) _
    have k18 : Kp No w17 w18 := by rw [hw18]; exact ((Kp.refl _ _).drewN n8).alloc _
    rw [← hw18]
    clear hw18
    have k1418 : Kp No w14 w18 := HK17.out.trans_same k18
    refine ⟨Kp.of_no k1418, ?_⟩
    refine wpOrd_eff rfl rfl (fun n9 => ?_)
    have hlr : XLRun w11 (w18.drewN n9) x r P (.slice a' (sn9 + 1) c') (.slice ea9 en9 ec9) (st1.segs.map (·.1) ++ [k1]) E9 (st1.synced + 1) st1.dead G1 := by rw [HEN9.out]; exact HL14.out.no (k1418.drewN n9)
    have hoe : Own (w18.drewN n9) 23 1 (.slice ea9 en9 ec9) en9 (E9.flatMap rowC) := by have := hlr.c.ents; rw [← HEN9.out] at this; exact this
    obtain ⟨a9, c9, w19, hrn, ho', hkp', hbl'⟩ := own_two (T := 22) (E := 23) (sz := 1) (bytes := 24) Tryz.underlying22 infoRowB hoe (news := rowC ⟨ca, cc, p⟩) (rowC_one _) rfl (g := w17.heap.size) (cs := #[.slice ca pl cc]) h18g (by rw [HPLE.out]; rfl) (by have := HEN9B.out; omega) (by have := HEN9B.out; omega)
    have kS : Kp (fun k => (Value.slice ea9 en9 ec9).ownBlock = some k) w14 w19 := (Kp.of_no (k1418.drewN n9)).trans_same hkp'
    have HRN9 := Lib.hid hrn
    have HOP := Lib.hid ho'
    have HKV := Lib.hid hkp'
    have HBL := Lib.hid hbl'
    have HLR := Lib.hid hlr
    have HK18 := Lib.hid (k18.drewN n9)
    clear hrn ho' hkp' hbl' hlr hoe h18g k18 k1418
    refine wpList_append_run rfl rfl rfl rfl HRN9.out (wpList_nil ⟨rfl, kS, ?_⟩)
    repeat (first
     | (apply wpOrd_skip rfl (by decide) rfl; (focus (go_simp; rfl)))
     | (apply wpOrd_pure rfl rfl rfl; (focus (intro _ _; go_simp; (try go_ints); rfl)); (focus (go_simp; rfl)))
     | (apply wpOrd_read rfl rfl rfl; (focus (intro _; go_simp; (try go_ints); rfl)); (focus (go_simp; rfl))))
    refine last_now (fun n11 => ?_)
    refine wpOrd_eff rfl rfl (fun n12 => ?_)
    obtain ⟨w20, hw20⟩ : ∃ W, W = (w19.drewN n11).drewN n12 := ⟨_, rfl⟩
    have k20 : Kp (fun k => (Value.slice ea9 en9 ec9).ownBlock = some k) (w18.drewN n9) w20 := by rw [hw20]; exact (HKV.out.drewN n11).drewN n12
    have kS20 : Kp (fun k => (Value.slice ea9 en9 ec9).ownBlock = some k) w14 w20 := by rw [hw20]; exact (kS.drewN n11).drewN n12
    have ho20 : Own w20 23 1 (.slice a9 (en9 + 1) c9) (en9 + 1) (E9.flatMap rowC ++ rowC ⟨ca, cc, p⟩) := by rw [hw20]; exact HOP.out
    rw [← hw20]
    have hc20 := e2 w20 kS20
    have hf20 := e2f w20 kS20
    have hl20 := kS20.lt hll14
    have hpc : p.length ≤ cc := by
     obtain ⟨_, _, cap, hv, h1', _⟩ := HOC.out
     injection hv with _ _ e
     all_goals omega
    have hocp : EntOk (w18.drewN n9) ⟨ca, cc, p⟩ := ⟨HOC.out.keep HK18.out fun _ _ x => x, hpc, by show p.length ≤ 1000000000; have := HPL2.out; omega⟩
    have hnew := HLR.out.ent (r := ⟨ca, cc, p⟩) (W' := w20) (ev' := .slice a9 (en9 + 1) c9) hocp
     (fun g hg => .inr (by
      have h2 := HFC.out g hg
      have h3 := HL14.out.kp.size
      omega)) k20
     (by rw [List.length_append, List.length_singleton, ← HEN9.out, List.flatMap_append, List.flatMap_cons, List.flatMap_nil, List.append_nil]; exact ho20) HBL.out
    have HNEW2 := Lib.hid hnew
    clear hnew hw20 k20 kS20 ho20 hocp hpc
    go_wp2_with fail
    intro nr
    obtain ⟨w22, hw22⟩ : ∃ W, W = (w20.setCell ⟨x, 2, none⟩ (.slice a9 (en9 + 1) c9)).drewN nr := ⟨_, rfl⟩
    have HL22 := Lib.hid (HNEW2.out.no (show Kp No _ w22 from by rw [hw22]; exact (Kp.refl No _).drewN nr))
    rw [← hw22]
    clear hw22 hc20 hf20 hl20 kS e2 e2f
    have hap := app_go (p := p) HD.out HPL2.out HPR.out
    rw [HEK.out, ← HQ.out, if_pos HQE.out.symm] at hap
    have hadd : addS st1 p = _ := add_fresh (show freshS st1 = true by unfold freshS; rw [HST.out.2.1]; exact HFR.out)
    have hseg : (addS st1 p).segs.map (·.1) = (st1.segs.map (·.1) ++ [k1]) := by rw [hadd]; simp [HST.out.1, HEK.out]
    have hL22 := HL22.out
    rw [← hseg] at hL22
    obtain ⟨G3, hL3, hG3, hK3⟩ := hL22.stop rfl
    have hst : (⟨(E9 ++ [(⟨ca, cc, p⟩ : Row)]).map Row.data, (addS st1 p).segs, st1.synced, st1.dead⟩ : LSt) = addS st1 p := by
     rw [List.map_append, ← HE9.out]
     rw [hadd]
     rfl
    rw [hst] at hL3
    have hX22 := HX11.out.turnL hL3 hG3 hK3
    have HFIN := Lib.hid (show AxpP w r x P F G (appS P s st p) (.returned (.tuple #[.int .i64 (k1 : Int), .int .i64 0])) w22 from by
     unfold AxpP
     rw [hap]
     refine ⟨rfl, F10, G3, hX22, HS11.out.1, HS11.out.2.1.trans hG3 HS11.out.2.2.size, HS11.out.2.2.trans (T := G1) hK3 fun i hi hg => ?_⟩
     rcases HS11.out.2.1 i hg with h1 | h1
     ·exact .inr h1
     ·omega)
    clear hap hadd hseg hL22 hL3 hG3 hK3 hst hX22
    go_wp2_with fail
    go_ret2
    exact HFIN.out
   ·rw [List.concat_eq_append] at hsg
    have hC2' := HC.out
    rw [hsg, List.map_append, List.map_cons, List.map_nil] at hC2'
    obtain ⟨sg, soff, sn, sc, rfl, hsn, hsnb, hsgl, hsc0⟩ := hC2'.lastNo
    obtain ⟨m2, hm2⟩ : ∃ m2, m2 = (S1.map (·.1)).length := ⟨_, rfl⟩
    rw [← hm2] at hsn hsc0
    have hms : m2 < sn := by omega
    have hw3 : (sn : Int) - 1 = (m2 : Int) := by omega
    have hsn0 : ((sn : Int) == (0 : Int)) = false := by rw [beq_eq_false_iff_ne]; omega
    have hzlt := HFEW.out.2.2 z (by rw [hsg]; simp)
    have htz := HTR.out S1 z hsg
    have hc3 := hC2'.cells.2.2.2.1
    obtain ⟨zn, hzn⟩ : ∃ zn, zn = z.1 := ⟨_, rfl⟩
    obtain ⟨zb, hzb⟩ : ∃ zb, zb = z.2 := ⟨_, rfl⟩
    have hsz := size_any w r x P s st F G H.out S1 z hsg hP hzlt
    rw [htz, ← hzb] at hsz
    rw [← hzn] at hsc0 hzlt
    have HSG := Lib.hid hsg
    have HZN := Lib.hid hzn
    have HZB := Lib.hid hzb
    have HZL := Lib.hid hzlt
    have HC3 := Lib.hid hc3
    have HSC0 := Lib.hid hsc0
    clear hsg hC2' hsn hm2 hzlt htz hzn hzb hc3 hsc0
    by_cases hfr : 1024 ≤ zb
    ·have e4 : decide ((1024 : Int) ≤ (zb : Int)) = true := by rw [decide_eq_true_iff]; omega
     have HFR := Lib.hid (show freshS st = true by rw [fresh_last HSG.out, ← HZB.out]; exact decide_eq_true hfr)
     have HPRE := Lib.hid (pre_fresh (P := P) (s := s) HFR.out (by rw [HSG.out]; simp))
     clear hfr
     have hw1 := HW1.out
     go_enter Tryz.func15, Tryz.ntmps15
     go_upto_region 7 with fail
     rw [hw1]
     clear hw1
     go_wp2_with fail
     with_reducible refine hsz.mono ?_
     rintro e w3 ⟨rfl, hk3⟩
     clear hsz
     have hsy := xSync_any w3 r x P s st F G (H.out.no hk3) HNE.out.1 HNE.out.2 (Nat.le_of_lt (Nat.lt_trans (Nat.lt_succ_self _) HFEW.out.1)) HFEW.out.2.2 hP
     obtain ⟨qs, hqs⟩ : ∃ qs, qs = syncsS P s st := ⟨_, rfl⟩
     obtain ⟨kn, hkn⟩ := syncs_nat P s st
     have hn6 := syncs_not6 P s st
     have hsame := syncs_same P s st
     have hsn' : sncS P s st = (qs.1, qs.2.1, { qs.2.2 with dead := decide (qs.1 ≠ 0) }) := by
      unfold sncS
      rw [if_neg (by rw [HD.out]; decide), hqs]
     rw [← hqs] at hkn hsame hn6
     unfold SnxP at hsy
     rw [hsn'] at hsy
     have HPRE2 := Lib.hid (show preS P s st = qs by rw [hqs]; exact HPRE.out)
     have HSAME := Lib.hid hsame
     have HKN := Lib.hid hkn
     have HN6 := Lib.hid hn6
     have HK3 := Lib.hid hk3
     clear hqs HPRE hkn hsame hk3 hn6 hsn'
     go_wp2_with fail
     with_reducible refine hsy.mono ?_
     rintro e w4 ⟨rfl, hs4⟩
     clear hsy
     simp only at hs4 ⊢
     rw [HKN.out] at hs4 ⊢
     have hs42 : SaidX w r x P F G qs.2.1 { qs.2.2 with dead := decide ((kn : Int) ≠ 0) } w4 := SaidX.trans ⟨F, G, H.out.no HK3.out, Foot.refl _ _, Foot.refl _ _, Kp.of_no HK3.out, hs4⟩
     clear hs4
     by_cases hkz : kn = 0
     ·subst hkz
      obtain ⟨s1, hs1⟩ : ∃ s1, s1 = qs.2.1 := ⟨_, rfl⟩
      obtain ⟨st1, hst1⟩ : ∃ st1, st1 = qs.2.2 := ⟨_, rfl⟩
      have hdd : ({ qs.2.2 with dead := decide (((0 : Nat) : Int) ≠ 0) } : LSt) = st1 := by
       rw [hst1]
       have h1 : qs.2.2.dead = false := by rw [HSAME.out.2.2]; exact HD.out
       have h0 : decide (((0 : Nat) : Int) ≠ 0) = false := by decide
       rw [h0, ← h1]
      rw [hdd, ← hs1] at hs42
      have HS1 := Lib.hid hs42
      have HPR := Lib.hid (show preS P s st = (0, s1, st1) from by
       rw [HPRE2.out, hs1, hst1]
       have := HKN.out
       rw [show ((0 : Nat) : Int) = 0 from rfl] at this
       rw [← this])
      have HST := Lib.hid (show st1.ents = st.ents ∧ st1.segs = st.segs ∧ st1.dead = false from by rw [hst1]; exact ⟨HSAME.out.1, HSAME.out.2.1, by rw [HSAME.out.2.2]; exact HD.out⟩)
      have HTO := Lib.hid (show bnm P k1 = toN P st by unfold toN; rw [if_pos HFR.out, HEK.out])
      have HNB := Lib.hid (show k1 < 1000000 by rw [← HEK.out]; exact HFEW.out.1)
      clear hs1 hst1 hdd hs42 c2w c3w c5w HPRE2 HSAME HKN HN6
      go_upto_region 15 with fail
      have hkx := HS1.out.kp
      have HPX := Lib.hid (HP.out w4 hkx)
      have hk1b : k1 ≤ 1000000000000 := by rw [← HEK.out]; have := HFEW.out.1; omega
      have hnums := rNum_any k1 hk1b w4
      have HNU := Lib.hid hnums
      have HK1B := Lib.hid hk1b
      clear hkx hnums hk1b
      go_wp2_with fail
      have hc := HNU.out
      with_reducible refine hc.mono ?_
      rintro e w5 ⟨na, nc, rfl, ho5, hf5, hk5⟩
      clear hc HNU
      obtain ⟨a6, c6, w6, hrun, ho6, hf6, hk6⟩ := own_app w4 w5 (.slice na (numL k1).length nc) (numL k1) p ho5 hf5 hk5 pa pc (HPX.out.kp hk5) (by
       have := (entL_len k1 HK1B.out p).2
       have := HPL2.out
       omega)
      obtain ⟨M, hM⟩ : ∃ M, M = numL k1 ++ p := ⟨_, rfl⟩
      rw [← hM] at hrun ho6
      have hen := rEncode_new w6 a6 c6 M ho6.rd' (by
       rw [hM, List.length_append]
       have := (entL_len k1 HK1B.out p).2
       have := HPL2.out
       omega)
      rw [← HPLE.out] at hrun
      have HX6 := Lib.hid hrun
      have HEC := Lib.hid hen
      have HK6 := Lib.hid hk6
      have HM := Lib.hid (show frameL M = entL k1 p by rw [hM]; rfl)
      clear hM ho5 hf5 hk5 hrun ho6 hf6 hk6 hen
      go_wp2_with (at_builtin; refine wpList_append_run rfl rfl rfl rfl HX6.out ?_)
      have hc := HEC.out
      with_reducible refine hc.mono ?_
      rintro e w8 ⟨fa, fc, rfl, hr8, hk8, hf8⟩
      clear hc HEC
      obtain ⟨F1, G1, hX1, hF1, hG1, hK1⟩ := HS1.out
      have hk8x : Kp No w4 w8 := HK6.out.trans_same hk8
      have hX8 := hX1.no hk8x
      obtain ⟨svx, evx, Ex, hCx, hEx, hLFx, _⟩ := hX8.log
      have hcF : ∀ W, Kp F1 w8 W → RLogC W x r P svx evx (st1.segs.map (·.1)) Ex (st1.synced + 1) st1.dead := fun W hW => hCx.keep hW (fun k hk hf => hX8.sep k hf (hLFx k hk))
      have g0 : ∀ W, Kp F1 w8 W → W.cell? ⟨x, 0, none⟩ = some (.pointer (some ⟨r, 0, none⟩)) := fun W hW => (hcF W hW).cells.1 W (Kp.refl _ _)
      have g1 : ∀ W, Kp F1 w8 W → W.cell? ⟨x, 1, none⟩ = some (.string P) := fun W hW => (hcF W hW).cells.2.1 W (Kp.refl _ _)
      have hll8 := get_lt hCx.cell
      have hfaF : 0 < (u8s (frameL M)).length → ∀ k o, fa = some ⟨k, o, none⟩ → ¬ F1 k := fun _ k o ha hf => by
       have h1 := hf8 k o ha
       have h2 := hX1.disk.lt k hf
       have h3 := HK6.out.size
       omega
      obtain ⟨fl, hfl⟩ : ∃ fl, fl = (frameL M).length := ⟨_, rfl⟩
      rw [← hfl]
      have HFLE := Lib.hid (show fl = (entL k1 p).length by rw [hfl, HM.out])
      have hwr := fun W (hW : Kp No w8 W) => rWrite_any W r s1 F1 (hX8.disk.keep_no hW) (bnm P k1) fa fc (frameL M) (hr8.kp hW) (by
       have := entL_len k1 HK1B.out p
       have h2 := HPL2.out
       rw [HM.out]
       omega) hfaF
      rw [← hfl] at hwr
      have HWR := Lib.hid hwr
      have HNM := Lib.hid (fun W => rName_bnm P (by omega) k1 HNB.out W)
      have HX1 := Lib.hid (And.intro hX8 (And.intro hF1 (And.intro hG1 hK1)))
      have HK8X := Lib.hid hk8x
      clear hr8 hk8 hf8 hX1 hF1 hG1 hK1 hk8x hX8 hCx hEx hLFx hcF hfaF hfl hwr
      go_upto_region 16 with fail
      refine wp_region_held' (Kp F1 w8) [0,0,0,0,0,0,0,0,0,2,0,2,0] [0,1,2,3,4,5,6,7,8,10,9,11,12] (by kernel_rfl) (by kernel_rfl) (fun _ n h => h.drewN n) (Kp.refl _ _) ?_
      repeat (first
       | (apply wpOrd_skip rfl (by decide) rfl; (focus (go_simp; rfl)))
       | (apply wpOrd_pure rfl rfl rfl; (focus (intro _ _; go_simp; (try go_ints); rfl)); (focus (go_simp; rfl)))
       | (apply wpOrd_read rfl rfl rfl; (focus (intro _; go_simp; (try go_ints); rfl)); (focus (go_simp; rfl))))
      refine wpOrd_eff rfl rfl (fun n2 => ?_)
      have hc := HNM.out (w8.drewN n2)
      go_wp2_with fail
      with_reducible refine hc.mono ?_
      rintro e w9 ⟨rfl, hk9⟩
      clear hc
      go_wp2_with fail
      have hk9' : Kp No w8 w9 := hk9.of_drewN
      refine ⟨Kp.of_no hk9', ?_⟩
      refine wpOrd_eff rfl rfl (fun n3 => ?_)
      have hc := HWR.out (w9.drewN n3) (hk9'.drewN n3)
      obtain ⟨q, hqe⟩ : ∃ q, q = wrS s1 (bnm P k1) (frameL M) := ⟨_, rfl⟩
      have hqc := wr_code s1 (bnm P k1) (frameL M)
      rw [← hqe] at hc hqc
      have HQ := Lib.hid (show q = wrS s1 (toN P st) (entL k1 p) by rw [hqe, HTO.out, HM.out])
      have HK9 := Lib.hid hk9'
      clear hqe hk9 hk9' HWR HNM
      go_wp2_with fail
      with_reducible refine hc.mono ?_
      rintro e w10 ⟨rfl, F10, hD10, hF10, hK10⟩
      clear hc
      have hk910 : Kp F1 w9 w10 := hK10.of_drewN
      have hX10 : XAt w10 r x P q.2 st1 F10 G1 := (HX1.out.1.no HK9.out).turnD hD10 hF10 hk910
      obtain ⟨qc, hqe⟩ : ∃ qc, qc = q.1 := ⟨_, rfl⟩
      rw [← hqe] at hqc ⊢
      have HQE := Lib.hid hqe
      have HX10 := Lib.hid hX10
      have hk810 : Kp F1 w8 w10 := (Kp.of_no HK9.out).trans_same hk910
      have HS10 := Lib.hid (show Foot F F10 w ∧ Foot G G1 w ∧ Kp (Both F G) w w10 from by
       refine ⟨HX1.out.2.1.trans (fun k hk => (hF10 k hk).imp id fun h => Nat.le_trans (Nat.le_trans HK8X.out.size HK9.out.size) h) HX1.out.2.2.2.size, HX1.out.2.2.1, ?_⟩
       refine (HX1.out.2.2.2.trans_no HK8X.out).trans hk810 fun i hi hf => ?_
       rcases HX1.out.2.1 i hf with h1 | h1
       ·exact .inl h1
       ·omega)
      have HK810 := Lib.hid hk810
      clear hD10 hF10 hK10 hk910 hX10 hqe hk810
      go_wp2_with fail
      refine ⟨HK810.out, ?_⟩
      repeat (first
       | (apply wpOrd_skip rfl (by decide) rfl; (focus (go_simp; rfl)))
       | (apply wpOrd_pure rfl rfl rfl; (focus (intro _ _; go_simp; (try go_ints); rfl)); (focus (go_simp; rfl)))
       | (apply wpOrd_read rfl rfl rfl; (focus (intro _; go_simp; (try go_ints); rfl)); (focus (go_simp; rfl))))
      refine wpOrd_nil (fun nq => ?_)
      clear g0 g1 hll8
      obtain ⟨w11, hw11⟩ : ∃ W, W = w10.drewN nq := ⟨_, rfl⟩
      have hk11 : Kp No w10 w11 := by rw [hw11]; exact (Kp.refl No w10).drewN nq
      rw [← hw11]
      have HX11 := Lib.hid (HX10.out.no hk11)
      have HS11 := Lib.hid (show Foot F F10 w ∧ Foot G G1 w ∧ Kp (Both F G) w w11 from ⟨HS10.out.1, HS10.out.2.1, HS10.out.2.2.trans_no hk11⟩)
      clear hw11 hk11
      by_cases hqz : qc = 0
      rotate_left
      ·have e3 : (qc == (0 : Int)) = false := by rw [beq_eq_false_iff_ne]; exact hqz
       have e4 : (qc != (0 : Int)) = true := by rw [bne, e3]; rfl
       have hfa := fail_any w11 r x P q.2 st1 F10 G1 HX11.out HST.out.2.2 qc
       have hap := app_go (p := p) HD.out HPL2.out HPR.out
       rw [HEK.out, ← HQ.out, if_neg (by rw [← HQE.out]; exact hqz), ← HQE.out] at hap
       have HAP := Lib.hid hap
       clear hap
       go_wp2_with fail
       with_reducible refine hfa.mono ?_
       rintro e w12 ⟨rfl, hsx⟩
       have HFIN := Lib.hid (show SaidX w r x P F G q.2 { st1 with dead := qc != 6 } w12 from SaidX.trans ⟨F10, G1, HX11.out, HS11.out.1, HS11.out.2.1, HS11.out.2.2, hsx⟩)
       clear hfa hsx
       go_wp2_with fail
       go_ret2
       rw [HAP.out]
       exact ⟨rfl, HFIN.out⟩
      obtain ⟨sv9, ev9, E9, hrun9, hE9, _⟩ := XLRun.start HX11.out.log
      obtain ⟨sa9, sc9, rfl, _, _⟩ := hrun9.c.segs.rd
      obtain ⟨ea9, ec9, rfl, _, _⟩ := hrun9.c.ents.rd
      obtain ⟨en9, hen9⟩ : ∃ en9, en9 = E9.length := ⟨_, rfl⟩
      have hen9b : en9 ≤ 1000000 := by
       have h2 := congrArg List.length hE9
       rw [List.length_map, HST.out.1] at h2
       have h3 := HFEW.out.1
       omega
      have HRUN9 := Lib.hid hrun9
      have HE9 := Lib.hid hE9
      have HEN9 := Lib.hid hen9
      have HEN9B := Lib.hid hen9b
      clear hrun9 hE9 hen9 hen9b
      have hqc0 : qc = 0 := hqz
      rw [hqc0] at HQE
      clear hqc
      subst hqc0
      obtain ⟨sn9, hsn9⟩ : ∃ sn9, sn9 = (st1.segs.map (·.1)).length := ⟨_, rfl⟩
      have hsn9b : sn9 ≤ 1000000 := by rw [hsn9, List.length_map, HST.out.2.1]; exact HFEW.out.2.1
      have hC11 := HRUN9.out.c
      rw [← hsn9] at hC11
      have hl9 := get_lt hC11.cell
      have hos := hC11.segs
      obtain ⟨a', c', w12, hrn, ho', hkp', hbl'⟩ := own_one (T := 51) (E := 3) (sz := 1) (bytes := 8) Tryz.underlying51 infoInt (W := w11) (v := .slice sa9 sn9 sc9) (n := sn9) (xs := (st1.segs.map (·.1)).flatMap numC) (by rw [hsn9]; rw [hsn9] at hos; exact hos) (news := numC k1) (numC_one k1) rfl (cs := #[.int .i64 (k1 : Int)]) rfl (by omega) (by omega)
      have c3w9 := hC11.cells.2.2.2.1 w11 (Kp.refl _ _)
      have hcW := hkp'.get hC11.cell fun e => (HRUN9.out.c.seg_ne (by rw [hsn9] at e; exact e)).1 rfl
      have hl3W : w12.cell? ⟨x, 3, none⟩ = some (.slice sa9 sn9 sc9) := by rw [cell_at hcW]; rfl
      have hf3W := free_at hcW 3
      have hllW := get_lt hcW
      have hnew := HRUN9.out.seg (S' := st1.segs.map (·.1) ++ [k1]) (W' := w12) (sv' := .slice a' (sn9 + 1) c') (by rw [← hsn9]; exact hkp') (by rw [List.length_append, List.length_singleton, ← hsn9, List.flatMap_append, List.flatMap_cons, List.flatMap_nil, List.append_nil]; exact ho') (by rw [← hsn9]; exact hbl')
      have HNEW := Lib.hid hnew
      have HRN := Lib.hid hrn
      clear hnew hrn ho' hkp' hbl' hcW hC11 hos hsn9
      go_upto_region 20 with fail
      go_upto_region 21 with (at_builtin; refine wpList_append_run rfl rfl rfl rfl HRN.out ?_)
      obtain ⟨w14, hw14⟩ : ∃ W, W = w12.setCell ⟨x, 3, none⟩ (.slice a' (sn9 + 1) c') := ⟨_, rfl⟩
      rw [← hw14] at HNEW ⊢
      clear hw14 hl3W hf3W hllW c3w9 hl9
      have HL14 := HNEW
      have hk1114 : Kp G1 w11 w14 := HL14.out.kp
      have hC14 := HL14.out.c
      have hll14 := get_lt hC14.cell
      have hwx14 : Kp (Both F G) w w14 := HS11.out.2.2.trans (T := G1) hk1114 fun i hi hg => by
       rcases HS11.out.2.1 i hg with h1 | h1
       ·exact .inr h1
       ·omega
      have hE14 : ∀ k, (Value.slice ea9 en9 ec9).ownBlock = some k → k ≠ x ∧ k < w14.heap.size := fun k hk => by
       rw [HEN9.out] at hk
       exact ⟨(hC14.ent_ne hk).1, hC14.ents.lt k hk⟩
      have e2 : ∀ W, Kp (fun k => (Value.slice ea9 en9 ec9).ownBlock = some k) w14 W → W.cell? ⟨x, 2, none⟩ = some (.slice ea9 en9 ec9) := fun W hW => by
       rw [hW.cell (p := ⟨x, 2, none⟩) hll14 (fun h => (hE14 x h).1 rfl), cell_at hC14.cell, HEN9.out]
       rfl
      have e2f : ∀ W, Kp (fun k => (Value.slice ea9 en9 ec9).ownBlock = some k) w14 W → W.frozen? ⟨x, 2, none⟩ = false := fun W hW => by
       rw [hW.frozen (p := ⟨x, 2, none⟩) hll14 (fun h => (hE14 x h).1 rfl)]
       exact free_at hC14.cell 2
      have HWX14 := Lib.hid hwx14
      have HE14 := Lib.hid hE14
      clear hwx14 hE14 hC14 hk1114
      go_upto_region 21 with fail
      refine wp_region_last (Kp (fun k => (Value.slice ea9 en9 ec9).ownBlock = some k) w14) [0,0,0,0,0,2,0,2,2,2,0,0,2] [0,1,2,3,4,6,5,7,8,9,10,11] 12 (by kernel_rfl) (by kernel_rfl) (fun _ n h => h.drewN n) (Kp.refl _ _) ?_
      repeat (first
       | (apply wpOrd_skip rfl (by decide) rfl; (focus (go_simp; rfl)))
       | (apply wpOrd_pure rfl rfl rfl; (focus (intro _ _; go_simp; (try go_ints); rfl)); (focus (go_simp; rfl)))
       | (apply wpOrd_read rfl rfl rfl; (focus (intro _; go_simp; (try go_ints); rfl)); (focus (go_simp; rfl))))
      refine wpOrd_eff rfl rfl (fun n5 => ?_)
      go_wp2_with fail
      obtain ⟨w15, hw15⟩ : ∃ W, W = (w14.drewN n5).alloc (.cells #[] 5) := ⟨_, rfl⟩
      have k15 : Kp No w14 w15 := by rw [hw15]; exact ((Kp.refl _ _).drewN n5).alloc _
      have o15 : Own w15 5 1 (.slice (some ⟨w14.heap.size, 0, none⟩) 0 0) 0 [] := by rw [hw15]; exact Own.made (w14.drewN n5) 5 1 #[] 0 0 (Nat.le_refl _) (by simp [maxLen]) (by simp) rfl
      rw [← hw15]
      clear hw15
      refine ⟨Kp.of_no k15, ?_⟩
      refine wpOrd_eff rfl rfl (fun n7 => ?_)
      obtain ⟨ca, cc, w17, hrc, hoc, hkc, hfc⟩ := cpy_bytes' (w15.drewN n7) w14.heap.size (o15.drewN n7) p pa pc (HP.out _ (HWX14.out.trans_no (k15.drewN n7))) (by have := HPL2.out; omega)
      rw [← HPLE.out] at hrc
      have k17 : Kp No w14 w17 := (k15.drewN n7).trans hkc fun i hi (e : i = w14.heap.size) => by omega
      have hfc2 : ∀ g, (Value.slice ca p.length cc).ownBlock = some g → w14.heap.size ≤ g := fun g hg => by
       rcases hfc g hg with h1 | h1
       ·omega
       ·have := k15.size
        have h2 : w15.heap.size ≤ g := h1
        omega
      have HRC := Lib.hid hrc
      have HOC := Lib.hid hoc
      have HFC := Lib.hid hfc2
      have HK17 := Lib.hid k17
      clear hrc hoc hkc hfc hfc2 k15 o15 k17
      refine wpList_append_run rfl rfl rfl rfl HRC.out (wpList_nil ⟨rfl, Kp.of_no HK17.out, ?_⟩)
      refine wpOrd_eff rfl rfl (fun n8 => ?_)
      go_wp2_with fail
      obtain ⟨w18, hw18⟩ : ∃ W, W = (w17.drewN n8).alloc (.cells #[.slice ca pl cc] 23) := ⟨_, rfl⟩
      have h18g : w18.heap[w17.heap.size]? = some (.cells #[.slice ca pl cc] 23 (0, 0)) := by rw [hw18]; exact heap_alloc_new (w17.drewN n8) _
      have k18 : Kp No w17 w18 := by rw [hw18]; exact ((Kp.refl _ _).drewN n8).alloc _
      rw [← hw18]
      clear hw18
      have k1418 : Kp No w14 w18 := HK17.out.trans_same k18
      refine ⟨Kp.of_no k1418, ?_⟩
      refine wpOrd_eff rfl rfl (fun n9 => ?_)
      have hlr : XLRun w11 (w18.drewN n9) x r P (.slice a' (sn9 + 1) c') (.slice ea9 en9 ec9) (st1.segs.map (·.1) ++ [k1]) E9 (st1.synced + 1) st1.dead G1 := by rw [HEN9.out]; exact HL14.out.no (k1418.drewN n9)
      have hoe : Own (w18.drewN n9) 23 1 (.slice ea9 en9 ec9) en9 (E9.flatMap rowC) := by have := hlr.c.ents; rw [← HEN9.out] at this; exact this
      obtain ⟨a9, c9, w19, hrn, ho', hkp', hbl'⟩ := own_two (T := 22) (E := 23) (sz := 1) (bytes := 24) Tryz.underlying22 infoRowB hoe (news := rowC ⟨ca, cc, p⟩) (rowC_one _) rfl (g := w17.heap.size) (cs := #[.slice ca pl cc]) h18g (by rw [HPLE.out]; rfl) (by have := HEN9B.out; omega) (by have := HEN9B.out; omega)
      have kS : Kp (fun k => (Value.slice ea9 en9 ec9).ownBlock = some k) w14 w19 := (Kp.of_no (k1418.drewN n9)).trans_same hkp'
      have HRN9 := Lib.hid hrn
      have HOP := Lib.hid ho'
      have HKV := Lib.hid hkp'
      have HBL := Lib.hid hbl'
      have HLR := Lib.hid hlr
      have HK18 := Lib.hid (k18.drewN n9)
      clear hrn ho' hkp' hbl' hlr hoe h18g k18 k1418
      refine wpList_append_run rfl rfl rfl rfl HRN9.out (wpList_nil ⟨rfl, kS, ?_⟩)
      repeat (first
       | (apply wpOrd_skip rfl (by decide) rfl; (focus (go_simp; rfl)))
       | (apply wpOrd_pure rfl rfl rfl; (focus (intro _ _; go_simp; (try go_ints); rfl)); (focus (go_simp; rfl)))
       | (apply wpOrd_read rfl rfl rfl; (focus (intro _; go_simp; (try go_ints); rfl)); (focus (go_simp; rfl))))
      refine last_now (fun n11 => ?_)
      refine wpOrd_eff rfl rfl (fun n12 => ?_)
      obtain ⟨w20, hw20⟩ : ∃ W, W = (w19.drewN n11).drewN n12 := ⟨_, rfl⟩
      have k20 : Kp (fun k => (Value.slice ea9 en9 ec9).ownBlock = some k) (w18.drewN n9) w20 := by rw [hw20]; exact (HKV.out.drewN n11).drewN n12
      have kS20 : Kp (fun k => (Value.slice ea9 en9 ec9).ownBlock = some k) w14 w20 := by rw [hw20]; exact (kS.drewN n11).drewN n12
      have ho20 : Own w20 23 1 (.slice a9 (en9 + 1) c9) (en9 + 1) (E9.flatMap rowC ++ rowC ⟨ca, cc, p⟩) := by rw [hw20]; exact HOP.out
      rw [← hw20]
      have hc20 := e2 w20 kS20
      have hf20 := e2f w20 kS20
      have hl20 := kS20.lt hll14
      have hpc : p.length ≤ cc := by
       obtain ⟨_, _, cap, hv, h1', _⟩ := HOC.out
       injection hv with _ _ e
       all_goals omega
      have hocp : EntOk (w18.drewN n9) ⟨ca, cc, p⟩ := ⟨HOC.out.keep HK18.out fun _ _ x => x, hpc, by show p.length ≤ 1000000000; have := HPL2.out; omega⟩
      have hnew := HLR.out.ent (r := ⟨ca, cc, p⟩) (W' := w20) (ev' := .slice a9 (en9 + 1) c9) hocp
       (fun g hg => .inr (by
        have h2 := HFC.out g hg
        have h3 := HL14.out.kp.size
        omega)) k20
       (by rw [List.length_append, List.length_singleton, ← HEN9.out, List.flatMap_append, List.flatMap_cons, List.flatMap_nil, List.append_nil]; exact ho20) HBL.out
      have HNEW2 := Lib.hid hnew
      clear hnew hw20 k20 kS20 ho20 hocp hpc
      go_wp2_with fail
      intro nr
      obtain ⟨w22, hw22⟩ : ∃ W, W = (w20.setCell ⟨x, 2, none⟩ (.slice a9 (en9 + 1) c9)).drewN nr := ⟨_, rfl⟩
      have HL22 := Lib.hid (HNEW2.out.no (show Kp No _ w22 from by rw [hw22]; exact (Kp.refl No _).drewN nr))
      rw [← hw22]
      clear hw22 hc20 hf20 hl20 kS e2 e2f
      have hap := app_go (p := p) HD.out HPL2.out HPR.out
      rw [HEK.out, ← HQ.out, if_pos HQE.out.symm] at hap
      have hadd : addS st1 p = _ := add_fresh (show freshS st1 = true by unfold freshS; rw [HST.out.2.1]; exact HFR.out)
      have hseg : (addS st1 p).segs.map (·.1) = (st1.segs.map (·.1) ++ [k1]) := by rw [hadd]; simp [HST.out.1, HEK.out]
      have hL22 := HL22.out
      rw [← hseg] at hL22
      obtain ⟨G3, hL3, hG3, hK3⟩ := hL22.stop rfl
      have hst : (⟨(E9 ++ [(⟨ca, cc, p⟩ : Row)]).map Row.data, (addS st1 p).segs, st1.synced, st1.dead⟩ : LSt) = addS st1 p := by
       rw [List.map_append, ← HE9.out]
       rw [hadd]
       rfl
      rw [hst] at hL3
      have hX22 := HX11.out.turnL hL3 hG3 hK3
      have HFIN := Lib.hid (show AxpP w r x P F G (appS P s st p) (.returned (.tuple #[.int .i64 (k1 : Int), .int .i64 0])) w22 from by
       unfold AxpP
       rw [hap]
       refine ⟨rfl, F10, G3, hX22, HS11.out.1, HS11.out.2.1.trans hG3 HS11.out.2.2.size, HS11.out.2.2.trans (T := G1) hK3 fun i hi hg => ?_⟩
       rcases HS11.out.2.1 i hg with h1 | h1
       ·exact .inr h1
       ·omega)
      clear hap hadd hseg hL22 hL3 hG3 hK3 hst hX22
      go_wp2_with fail
      go_ret2
      exact HFIN.out
     ·have e5 : ((kn : Int) == (0 : Int)) = false := by rw [beq_eq_false_iff_ne]; omega
      have e6 : ((kn : Int) != (0 : Int)) = true := by rw [bne, e5]; rfl
      have hap := app_no (p := p) HD.out HPL2.out (show (preS P s st).1 ≠ 0 by rw [HPRE2.out, HKN.out]; omega)
      rw [HPRE2.out, HKN.out] at hap
      have h6 : ((kn : Int) != 6) = true := by
       have := HN6.out
       rw [HKN.out] at this
       simp only [bne_iff_ne, ne_eq]
       exact this
      have h7 : decide ((kn : Int) ≠ 0) = true := decide_eq_true (by omega)
      rw [h6] at hap
      rw [h7] at hs42
      have HFIN := Lib.hid (show AxpP w r x P F G (appS P s st p) (.returned (.tuple #[.int .i64 0, .int .i64 (kn : Int)])) w4 from by unfold AxpP; rw [hap]; exact ⟨rfl, hs42⟩)
      clear hap hs42
      go_wp2_with fail
      go_ret2
      exact HFIN.out
    ·have e4 : decide ((1024 : Int) ≤ (zb : Int)) = false := by rw [decide_eq_false_iff_not]; omega
     have HFR := Lib.hid (show freshS st = false by rw [fresh_last HSG.out, ← HZB.out]; exact decide_eq_false hfr)
     clear hfr
     have hw1 := HW1.out
     go_enter Tryz.func15, Tryz.ntmps15
     go_upto_region 7 with fail
     rw [hw1]
     clear hw1
     go_wp2_with fail
     with_reducible refine hsz.mono ?_
     rintro e w3 ⟨rfl, hk3⟩
     clear hsz
     have f3 : ∀ W, Kp No w3 W → W.cell? ⟨x, 3, none⟩ = some (.slice (some ⟨sg, soff, none⟩) sn sc) := fun W hW => HC3.out W (hk3.trans_same hW)
     have fz : ∀ W, Kp No w3 W → W.cell? ⟨sg, soff + m2, none⟩ = some (.int .i64 (zn : Int)) := fun W hW => HSC0.out W (hk3.trans_same hW)
     have hl3 := hk3.lt hll
     have hsg3 := hk3.lt hsgl
     go_upto_region 14 with fail
     refine wp_region_held' (Kp No _) [0,0,0,0,0,0,0,0,1,0,0,0,0] [0,1,2,3,4,5,6,7,8,9,10,11,12] (by kernel_rfl) (by kernel_rfl) (fun _ n h => h.drewN n) (Kp.refl _ _) ?_
     repeat (first
      | (apply wpOrd_skip rfl (by decide) rfl; (focus (go_simp; rfl)))
      | (apply wpOrd_pure rfl rfl rfl; (focus (intro _ _; go_simp; (try go_ints); rfl)); (focus (go_simp; rfl)))
      | (apply wpOrd_read rfl rfl rfl; (focus (intro _; go_simp; (try go_ints); rfl)); (focus (go_simp; rfl))))
     refine wpOrd_nil (fun nq => ?_)
     go_upto_region 15 with fail
     obtain ⟨w4, hw4⟩ : ∃ W, W = w3.drewN nq := ⟨_, rfl⟩
     have hk4 : Kp No w w4 := by rw [hw4]; exact hk3.drewN nq
     rw [← hw4]
     clear hw4 f3 fz hl3 hsg3 hk3
     obtain ⟨s1, hs1⟩ : ∃ s1, s1 = s := ⟨_, rfl⟩
     obtain ⟨st1, hst1⟩ : ∃ st1, st1 = st := ⟨_, rfl⟩
     have HS1 := Lib.hid (show SaidX w r x P F G s1 st1 w4 from by rw [hs1, hst1]; exact SaidX.here H.out hk4)
     have HPR := Lib.hid (show preS P s st = (0, s1, st1) from by rw [hs1, hst1]; exact pre_old HFR.out)
     have HST := Lib.hid (show st1.ents = st.ents ∧ st1.segs = st.segs ∧ st1.dead = false from by rw [hst1]; exact ⟨rfl, rfl, HD.out⟩)
     have HTO := Lib.hid (show bnm P zn = toN P st by unfold toN; rw [if_neg (by rw [HFR.out]; decide), lastNo_last HSG.out, HZN.out])
     have HNB := Lib.hid HZL.out
     clear hs1 hst1 c2w c3w c5w hk4
     have hkx := HS1.out.kp
     have HPX := Lib.hid (HP.out w4 hkx)
     have hk1b : k1 ≤ 1000000000000 := by rw [← HEK.out]; have := HFEW.out.1; omega
     have hnums := rNum_any k1 hk1b w4
     have HNU := Lib.hid hnums
     have HK1B := Lib.hid hk1b
     clear hkx hnums hk1b
     go_wp2_with fail
     have hc := HNU.out
     with_reducible refine hc.mono ?_
     rintro e w5 ⟨na, nc, rfl, ho5, hf5, hk5⟩
     clear hc HNU
     obtain ⟨a6, c6, w6, hrun, ho6, hf6, hk6⟩ := own_app w4 w5 (.slice na (numL k1).length nc) (numL k1) p ho5 hf5 hk5 pa pc (HPX.out.kp hk5) (by
      have := (entL_len k1 HK1B.out p).2
      have := HPL2.out
      omega)
     obtain ⟨M, hM⟩ : ∃ M, M = numL k1 ++ p := ⟨_, rfl⟩
     rw [← hM] at hrun ho6
     have hen := rEncode_new w6 a6 c6 M ho6.rd' (by
      rw [hM, List.length_append]
      have := (entL_len k1 HK1B.out p).2
      have := HPL2.out
      omega)
     rw [← HPLE.out] at hrun
     have HX6 := Lib.hid hrun
     have HEC := Lib.hid hen
     have HK6 := Lib.hid hk6
     have HM := Lib.hid (show frameL M = entL k1 p by rw [hM]; rfl)
     clear hM ho5 hf5 hk5 hrun ho6 hf6 hk6 hen
     go_wp2_with (at_builtin; refine wpList_append_run rfl rfl rfl rfl HX6.out ?_)
     have hc := HEC.out
     with_reducible refine hc.mono ?_
     rintro e w8 ⟨fa, fc, rfl, hr8, hk8, hf8⟩
     clear hc HEC
     obtain ⟨F1, G1, hX1, hF1, hG1, hK1⟩ := HS1.out
     have hk8x : Kp No w4 w8 := HK6.out.trans_same hk8
     have hX8 := hX1.no hk8x
     obtain ⟨svx, evx, Ex, hCx, hEx, hLFx, _⟩ := hX8.log
     have hcF : ∀ W, Kp F1 w8 W → RLogC W x r P svx evx (st1.segs.map (·.1)) Ex (st1.synced + 1) st1.dead := fun W hW => hCx.keep hW (fun k hk hf => hX8.sep k hf (hLFx k hk))
     have g0 : ∀ W, Kp F1 w8 W → W.cell? ⟨x, 0, none⟩ = some (.pointer (some ⟨r, 0, none⟩)) := fun W hW => (hcF W hW).cells.1 W (Kp.refl _ _)
     have g1 : ∀ W, Kp F1 w8 W → W.cell? ⟨x, 1, none⟩ = some (.string P) := fun W hW => (hcF W hW).cells.2.1 W (Kp.refl _ _)
     have hll8 := get_lt hCx.cell
     have hfaF : 0 < (u8s (frameL M)).length → ∀ k o, fa = some ⟨k, o, none⟩ → ¬ F1 k := fun _ k o ha hf => by
      have h1 := hf8 k o ha
      have h2 := hX1.disk.lt k hf
      have h3 := HK6.out.size
      omega
     obtain ⟨fl, hfl⟩ : ∃ fl, fl = (frameL M).length := ⟨_, rfl⟩
     rw [← hfl]
     have HFLE := Lib.hid (show fl = (entL k1 p).length by rw [hfl, HM.out])
     have hwr := fun W (hW : Kp No w8 W) => rWrite_any W r s1 F1 (hX8.disk.keep_no hW) (bnm P zn) fa fc (frameL M) (hr8.kp hW) (by
      have := entL_len k1 HK1B.out p
      have h2 := HPL2.out
      rw [HM.out]
      omega) hfaF
     rw [← hfl] at hwr
     have HWR := Lib.hid hwr
     have HNM := Lib.hid (fun W => rName_bnm P (by omega) zn HNB.out W)
     have HX1 := Lib.hid (And.intro hX8 (And.intro hF1 (And.intro hG1 hK1)))
     have HK8X := Lib.hid hk8x
     clear hr8 hk8 hf8 hX1 hF1 hG1 hK1 hk8x hX8 hCx hEx hLFx hcF hfaF hfl hwr
     go_upto_region 16 with fail
     refine wp_region_held' (Kp F1 w8) [0,0,0,0,0,0,0,0,0,2,0,2,0] [0,1,2,3,4,5,6,7,8,10,9,11,12] (by kernel_rfl) (by kernel_rfl) (fun _ n h => h.drewN n) (Kp.refl _ _) ?_
     repeat (first
      | (apply wpOrd_skip rfl (by decide) rfl; (focus (go_simp; rfl)))
      | (apply wpOrd_pure rfl rfl rfl; (focus (intro _ _; go_simp; (try go_ints); rfl)); (focus (go_simp; rfl)))
      | (apply wpOrd_read rfl rfl rfl; (focus (intro _; go_simp; (try go_ints); rfl)); (focus (go_simp; rfl))))
     refine wpOrd_eff rfl rfl (fun n2 => ?_)
     have hc := HNM.out (w8.drewN n2)
     go_wp2_with fail
     with_reducible refine hc.mono ?_
     rintro e w9 ⟨rfl, hk9⟩
     clear hc
     go_wp2_with fail
     have hk9' : Kp No w8 w9 := hk9.of_drewN
     refine ⟨Kp.of_no hk9', ?_⟩
     refine wpOrd_eff rfl rfl (fun n3 => ?_)
     have hc := HWR.out (w9.drewN n3) (hk9'.drewN n3)
     obtain ⟨q, hqe⟩ : ∃ q, q = wrS s1 (bnm P zn) (frameL M) := ⟨_, rfl⟩
     have hqc := wr_code s1 (bnm P zn) (frameL M)
     rw [← hqe] at hc hqc
     have HQ := Lib.hid (show q = wrS s1 (toN P st) (entL k1 p) by rw [hqe, HTO.out, HM.out])
     have HK9 := Lib.hid hk9'
     clear hqe hk9 hk9' HWR HNM
     go_wp2_with fail
     with_reducible refine hc.mono ?_
     rintro e w10 ⟨rfl, F10, hD10, hF10, hK10⟩
     clear hc
     have hk910 : Kp F1 w9 w10 := hK10.of_drewN
     have hX10 : XAt w10 r x P q.2 st1 F10 G1 := (HX1.out.1.no HK9.out).turnD hD10 hF10 hk910
     obtain ⟨qc, hqe⟩ : ∃ qc, qc = q.1 := ⟨_, rfl⟩
     rw [← hqe] at hqc ⊢
     have HQE := Lib.hid hqe
     have HX10 := Lib.hid hX10
     have hk810 : Kp F1 w8 w10 := (Kp.of_no HK9.out).trans_same hk910
     have HS10 := Lib.hid (show Foot F F10 w ∧ Foot G G1 w ∧ Kp (Both F G) w w10 from by
      refine ⟨HX1.out.2.1.trans (fun k hk => (hF10 k hk).imp id fun h => Nat.le_trans (Nat.le_trans HK8X.out.size HK9.out.size) h) HX1.out.2.2.2.size, HX1.out.2.2.1, ?_⟩
      refine (HX1.out.2.2.2.trans_no HK8X.out).trans hk810 fun i hi hf => ?_
      rcases HX1.out.2.1 i hf with h1 | h1
      ·exact .inl h1
      ·omega)
     have HK810 := Lib.hid hk810
     clear hD10 hF10 hK10 hk910 hX10 hqe hk810
     go_wp2_with fail
     refine ⟨HK810.out, ?_⟩
     repeat (first
      | (apply wpOrd_skip rfl (by decide) rfl; (focus (go_simp; rfl)))
      | (apply wpOrd_pure rfl rfl rfl; (focus (intro _ _; go_simp; (try go_ints); rfl)); (focus (go_simp; rfl)))
      | (apply wpOrd_read rfl rfl rfl; (focus (intro _; go_simp; (try go_ints); rfl)); (focus (go_simp; rfl))))
     refine wpOrd_nil (fun nq => ?_)
     clear g0 g1 hll8
     obtain ⟨w11, hw11⟩ : ∃ W, W = w10.drewN nq := ⟨_, rfl⟩
     have hk11 : Kp No w10 w11 := by rw [hw11]; exact (Kp.refl No w10).drewN nq
     rw [← hw11]
     have HX11 := Lib.hid (HX10.out.no hk11)
     have HS11 := Lib.hid (show Foot F F10 w ∧ Foot G G1 w ∧ Kp (Both F G) w w11 from ⟨HS10.out.1, HS10.out.2.1, HS10.out.2.2.trans_no hk11⟩)
     clear hw11 hk11
     by_cases hqz : qc = 0
     rotate_left
     ·have e3 : (qc == (0 : Int)) = false := by rw [beq_eq_false_iff_ne]; exact hqz
      have e4 : (qc != (0 : Int)) = true := by rw [bne, e3]; rfl
      have hfa := fail_any w11 r x P q.2 st1 F10 G1 HX11.out HST.out.2.2 qc
      have hap := app_go (p := p) HD.out HPL2.out HPR.out
      rw [HEK.out, ← HQ.out, if_neg (by rw [← HQE.out]; exact hqz), ← HQE.out] at hap
      have HAP := Lib.hid hap
      clear hap
      go_wp2_with fail
      with_reducible refine hfa.mono ?_
      rintro e w12 ⟨rfl, hsx⟩
      have HFIN := Lib.hid (show SaidX w r x P F G q.2 { st1 with dead := qc != 6 } w12 from SaidX.trans ⟨F10, G1, HX11.out, HS11.out.1, HS11.out.2.1, HS11.out.2.2, hsx⟩)
      clear hfa hsx
      go_wp2_with fail
      go_ret2
      rw [HAP.out]
      exact ⟨rfl, HFIN.out⟩
     obtain ⟨sv9, ev9, E9, hrun9, hE9, _⟩ := XLRun.start HX11.out.log
     obtain ⟨sa9, sc9, rfl, _, _⟩ := hrun9.c.segs.rd
     obtain ⟨ea9, ec9, rfl, _, _⟩ := hrun9.c.ents.rd
     obtain ⟨en9, hen9⟩ : ∃ en9, en9 = E9.length := ⟨_, rfl⟩
     have hen9b : en9 ≤ 1000000 := by
      have h2 := congrArg List.length hE9
      rw [List.length_map, HST.out.1] at h2
      have h3 := HFEW.out.1
      omega
     have HRUN9 := Lib.hid hrun9
     have HE9 := Lib.hid hE9
     have HEN9 := Lib.hid hen9
     have HEN9B := Lib.hid hen9b
     clear hrun9 hE9 hen9 hen9b
     have hqc0 : qc = 0 := hqz
     rw [hqc0] at HQE
     clear hqc
     subst hqc0
     obtain ⟨w14, hw14⟩ : ∃ W, W = w11 := ⟨_, rfl⟩
     have HL14 : Hid (XLRun w11 w14 x r P (.slice sa9 (st1.segs.map (·.1)).length sc9) (.slice ea9 E9.length ec9) (st1.segs.map (·.1)) E9 (st1.synced + 1) st1.dead G1) := by
      rw [hw14]
      exact HRUN9
     rw [← hw14]
     clear hw14
     have hk1114 : Kp G1 w11 w14 := HL14.out.kp
     have hC14 := HL14.out.c
     have hll14 := get_lt hC14.cell
     have hwx14 : Kp (Both F G) w w14 := HS11.out.2.2.trans (T := G1) hk1114 fun i hi hg => by
      rcases HS11.out.2.1 i hg with h1 | h1
      ·exact .inr h1
      ·omega
     have hE14 : ∀ k, (Value.slice ea9 en9 ec9).ownBlock = some k → k ≠ x ∧ k < w14.heap.size := fun k hk => by
      rw [HEN9.out] at hk
      exact ⟨(hC14.ent_ne hk).1, hC14.ents.lt k hk⟩
     have e2 : ∀ W, Kp (fun k => (Value.slice ea9 en9 ec9).ownBlock = some k) w14 W → W.cell? ⟨x, 2, none⟩ = some (.slice ea9 en9 ec9) := fun W hW => by
      rw [hW.cell (p := ⟨x, 2, none⟩) hll14 (fun h => (hE14 x h).1 rfl), cell_at hC14.cell, HEN9.out]
      rfl
     have e2f : ∀ W, Kp (fun k => (Value.slice ea9 en9 ec9).ownBlock = some k) w14 W → W.frozen? ⟨x, 2, none⟩ = false := fun W hW => by
      rw [hW.frozen (p := ⟨x, 2, none⟩) hll14 (fun h => (hE14 x h).1 rfl)]
      exact free_at hC14.cell 2
     have HWX14 := Lib.hid hwx14
     have HE14 := Lib.hid hE14
     clear hwx14 hE14 hC14 hk1114
     go_upto_region 21 with fail
     refine wp_region_last (Kp (fun k => (Value.slice ea9 en9 ec9).ownBlock = some k) w14) [0,0,0,0,0,2,0,2,2,2,0,0,2] [0,1,2,3,4,6,5,7,8,9,10,11] 12 (by kernel_rfl) (by kernel_rfl) (fun _ n h => h.drewN n) (Kp.refl _ _) ?_
     repeat (first
      | (apply wpOrd_skip rfl (by decide) rfl; (focus (go_simp; rfl)))
      | (apply wpOrd_pure rfl rfl rfl; (focus (intro _ _; go_simp; (try go_ints); rfl)); (focus (go_simp; rfl)))
      | (apply wpOrd_read rfl rfl rfl; (focus (intro _; go_simp; (try go_ints); rfl)); (focus (go_simp; rfl))))
     refine wpOrd_eff rfl rfl (fun n5 => ?_)
     go_wp2_with fail
     obtain ⟨w15, hw15⟩ : ∃ W, W = (w14.drewN n5).alloc (.cells #[] 5) := ⟨_, rfl⟩
     have k15 : Kp No w14 w15 := by rw [hw15]; exact ((Kp.refl _ _).drewN n5).alloc _
     have o15 : Own w15 5 1 (.slice (some ⟨w14.heap.size, 0, none⟩) 0 0) 0 [] := by rw [hw15]; exact Own.made (w14.drewN n5) 5 1 #[] 0 0 (Nat.le_refl _) (by simp [maxLen]) (by simp) rfl
     rw [← hw15]
     clear hw15
     refine ⟨Kp.of_no k15, ?_⟩
     refine wpOrd_eff rfl rfl (fun n7 => ?_)
     obtain ⟨ca, cc, w17, hrc, hoc, hkc, hfc⟩ := cpy_bytes' (w15.drewN n7) w14.heap.size (o15.drewN n7) p pa pc (HP.out _ (HWX14.out.trans_no (k15.drewN n7))) (by have := HPL2.out; omega)
     rw [← HPLE.out] at hrc
     have k17 : Kp No w14 w17 := (k15.drewN n7).trans hkc fun i hi (e : i = w14.heap.size) => by omega
     have hfc2 : ∀ g, (Value.slice ca p.length cc).ownBlock = some g → w14.heap.size ≤ g := fun g hg => by
      rcases hfc g hg with h1 | h1
      ·omega
      ·have := k15.size
       have h2 : w15.heap.size ≤ g := h1
       omega
     have HRC := Lib.hid hrc
     have HOC := Lib.hid hoc
     have HFC := Lib.hid hfc2
     have HK17 := Lib.hid k17
     clear hrc hoc hkc hfc hfc2 k15 o15 k17
     refine wpList_append_run rfl rfl rfl rfl HRC.out (wpList_nil ⟨rfl, Kp.of_no HK17.out, ?_⟩)
     refine wpOrd_eff rfl rfl (fun n8 => ?_)
     go_wp2_with fail
     obtain ⟨w18, hw18⟩ : ∃ W, W = (w17.drewN n8).alloc (.cells #[.slice ca pl cc] 23) := ⟨_, rfl⟩
     have h18g : w18.heap[w17.heap.size]? = some (.cells #[.slice ca pl cc] 23 (0, 0)) := by rw [hw18]; exact heap_alloc_new (w17.drewN n8) _
     have k18 : Kp No w17 w18 := by rw [hw18]; exact ((Kp.refl _ _).drewN n8).alloc _
     rw [← hw18]
     clear hw18
     have k1418 : Kp No w14 w18 := HK17.out.trans_same k18
     refine ⟨Kp.of_no k1418, ?_⟩
     refine wpOrd_eff rfl rfl (fun n9 => ?_)
     have hlr : XLRun w11 (w18.drewN n9) x r P (.slice sa9 (st1.segs.map (·.1)).length sc9) (.slice ea9 en9 ec9) (st1.segs.map (·.1)) E9 (st1.synced + 1) st1.dead G1 := by rw [HEN9.out]; exact HL14.out.no (k1418.drewN n9)
     have hoe : Own (w18.drewN n9) 23 1 (.slice ea9 en9 ec9) en9 (E9.flatMap rowC) := by have := hlr.c.ents; rw [← HEN9.out] at this; exact this
     obtain ⟨a9, c9, w19, hrn, ho', hkp', hbl'⟩ := own_two (T := 22) (E := 23) (sz := 1) (bytes := 24) Tryz.underlying22 infoRowB hoe (news := rowC ⟨ca, cc, p⟩) (rowC_one _) rfl (g := w17.heap.size) (cs := #[.slice ca pl cc]) h18g (by rw [HPLE.out]; rfl) (by have := HEN9B.out; omega) (by have := HEN9B.out; omega)
     have kS : Kp (fun k => (Value.slice ea9 en9 ec9).ownBlock = some k) w14 w19 := (Kp.of_no (k1418.drewN n9)).trans_same hkp'
     have HRN9 := Lib.hid hrn
     have HOP := Lib.hid ho'
     have HKV := Lib.hid hkp'
     have HBL := Lib.hid hbl'
     have HLR := Lib.hid hlr
     have HK18 := Lib.hid (k18.drewN n9)
     clear hrn ho' hkp' hbl' hlr hoe h18g k18 k1418
     refine wpList_append_run rfl rfl rfl rfl HRN9.out (wpList_nil ⟨rfl, kS, ?_⟩)
     repeat (first
      | (apply wpOrd_skip rfl (by decide) rfl; (focus (go_simp; rfl)))
      | (apply wpOrd_pure rfl rfl rfl; (focus (intro _ _; go_simp; (try go_ints); rfl)); (focus (go_simp; rfl)))
      | (apply wpOrd_read rfl rfl rfl; (focus (intro _; go_simp; (try go_ints); rfl)); (focus (go_simp; rfl))))
     refine last_now (fun n11 => ?_)
     refine wpOrd_eff rfl rfl (fun n12 => ?_)
     obtain ⟨w20, hw20⟩ : ∃ W, W = (w19.drewN n11).drewN n12 := ⟨_, rfl⟩
     have k20 : Kp (fun k => (Value.slice ea9 en9 ec9).ownBlock = some k) (w18.drewN n9) w20 := by rw [hw20]; exact (HKV.out.drewN n11).drewN n12
     have kS20 : Kp (fun k => (Value.slice ea9 en9 ec9).ownBlock = some k) w14 w20 := by rw [hw20]; exact (kS.drewN n11).drewN n12
     have ho20 : Own w20 23 1 (.slice a9 (en9 + 1) c9) (en9 + 1) (E9.flatMap rowC ++ rowC ⟨ca, cc, p⟩) := by rw [hw20]; exact HOP.out
     rw [← hw20]
     have hc20 := e2 w20 kS20
     have hf20 := e2f w20 kS20
     have hl20 := kS20.lt hll14
     have hpc : p.length ≤ cc := by
      obtain ⟨_, _, cap, hv, h1', _⟩ := HOC.out
      injection hv with _ _ e
      all_goals omega
     have hocp : EntOk (w18.drewN n9) ⟨ca, cc, p⟩ := ⟨HOC.out.keep HK18.out fun _ _ x => x, hpc, by show p.length ≤ 1000000000; have := HPL2.out; omega⟩
     have hnew := HLR.out.ent (r := ⟨ca, cc, p⟩) (W' := w20) (ev' := .slice a9 (en9 + 1) c9) hocp
      (fun g hg => .inr (by
       have h2 := HFC.out g hg
       have h3 := HL14.out.kp.size
       omega)) k20
      (by rw [List.length_append, List.length_singleton, ← HEN9.out, List.flatMap_append, List.flatMap_cons, List.flatMap_nil, List.append_nil]; exact ho20) HBL.out
     have HNEW2 := Lib.hid hnew
     clear hnew hw20 k20 kS20 ho20 hocp hpc
     go_wp2_with fail
     intro nr
     obtain ⟨w22, hw22⟩ : ∃ W, W = (w20.setCell ⟨x, 2, none⟩ (.slice a9 (en9 + 1) c9)).drewN nr := ⟨_, rfl⟩
     have HL22 := Lib.hid (HNEW2.out.no (show Kp No _ w22 from by rw [hw22]; exact (Kp.refl No _).drewN nr))
     rw [← hw22]
     clear hw22 hc20 hf20 hl20 kS e2 e2f
     have hap := app_go (p := p) HD.out HPL2.out HPR.out
     rw [HEK.out, ← HQ.out, if_pos HQE.out.symm] at hap
     have hadd : addS st1 p = _ := add_old (show freshS st1 = false by unfold freshS; rw [HST.out.2.1]; exact HFR.out) (HST.out.2.1.trans HSG.out)
     have hseg : (addS st1 p).segs.map (·.1) = (st1.segs.map (·.1)) := by rw [hadd]; simp [HST.out.2.1, HSG.out]
     have hL22 := HL22.out
     rw [← hseg] at hL22
     obtain ⟨G3, hL3, hG3, hK3⟩ := hL22.stop rfl
     have hst : (⟨(E9 ++ [(⟨ca, cc, p⟩ : Row)]).map Row.data, (addS st1 p).segs, st1.synced, st1.dead⟩ : LSt) = addS st1 p := by
      rw [List.map_append, ← HE9.out]
      rw [hadd]
      rfl
     rw [hst] at hL3
     have hX22 := HX11.out.turnL hL3 hG3 hK3
     have HFIN := Lib.hid (show AxpP w r x P F G (appS P s st p) (.returned (.tuple #[.int .i64 (k1 : Int), .int .i64 0])) w22 from by
      unfold AxpP
      rw [hap]
      refine ⟨rfl, F10, G3, hX22, HS11.out.1, HS11.out.2.1.trans hG3 HS11.out.2.2.size, HS11.out.2.2.trans (T := G1) hK3 fun i hi hg => ?_⟩
      rcases HS11.out.2.1 i hg with h1 | h1
      ·exact .inr h1
      ·omega)
     clear hap hadd hseg hL22 hL3 hG3 hK3 hst hX22
     go_wp2_with fail
     go_ret2
     exact HFIN.out
end Go.Proofs.YtdibkdgafidjgaaGreatDoor

