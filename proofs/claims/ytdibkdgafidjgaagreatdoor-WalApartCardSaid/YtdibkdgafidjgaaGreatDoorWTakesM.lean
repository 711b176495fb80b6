/-
  wal's takes: a segment taken in.
-/
import Derived.Test.YtdibkdgafidjgaaGreatDoorWa8
import Derived.Test.YtdibkdgafidjgaaGreatDoorWb6
import Derived.Test.YtdibkdgafidjgaaGreatDoorWa7
import Derived.Test.YtdibkdgafidjgaaGreatDoorWa9
import Derived.Deep.CutBlock
namespace Go.Proofs.YtdibkdgafidjgaaGreatDoor
open Go.RowKit Go.Mer
theorem ReP.kp {w w' : World} {b : Nat} {l : List UInt8} {bad : Bool} (h : ReP w b l bad w') : Kp No w w' := by
 obtain ⟨_, _, _, _, _, _, _, hk⟩ := h
 exact hk
def TkR (w wr : World) (l d : Nat) (P : ByteArray) (st : LSt) (G : Nat → Prop) (b : List UInt8) (ba : Option Addr) (bc bn good : Nat) : Prop :=
 ∃ sv ev E X, LRun w wr l d P sv ev st.segs E st.synced st.dead G ∧ E.map Row.data = st.ents ++ X ∧ TkI (st.ents.length + 1) b X good ∧ Own wr 5 1 (.slice ba bn bc) bn (u8s b) ∧ ∀ g, (Value.slice ba bn bc).ownBlock = some g → w.heap.size ≤ g
def TkP (w : World) (l d : Nat) (P : ByteArray) (G : Nat → Prop) (r : LSt × Bool) (e : Ending) (w' : World) : Prop :=
 e = .returned (.bool r.2) ∧ ∃ G', LogAt w' l d P r.1 G' ∧ Foot G G' w ∧ Kp G w w'
set_option maxRecDepth 100000 in
set_option maxHeartbeats 4000000 in
theorem takes_any (w : World) (l d : Nat) (P : ByteArray) (s : DSt) (st : LSt) (F G : Nat → Prop) (hD : DiskAt w d s F) (hL : LogAt w l d P st G) (hpow : Pow w) (hP : P.size ≤ 50) (hfew : st.ents.length + 1 < 1000000) (hsegs : st.segs.length ≤ 1000000) (x : ByteArray) :
  Calls Tryz.prog 56 #[.pointer (some ⟨l, 0, none⟩), .string x] w (TkP w l d P G (takeS s.files P st x)) := by
 obtain ⟨sv, ev, E, hrun, hE, hG⟩ := LRun.start hL
 obtain ⟨sa, sc, rfl, hsc, hsr⟩ := hrun.c.segs.rd
 obtain ⟨ea, ec, rfl, hec, her⟩ := hrun.c.ents.rd
 have hcell := hrun.c.cell
 have c0 := cell_at hcell 0
 have hll := get_lt hcell
 simp at c0
 have c1 : ∀ W, Kp No w W → W.cell? ⟨l, 1, none⟩ = some (.string P) := fun W hW => by
  rw [cell_at (hW.get hcell fun x => x)]
  rfl
 obtain ⟨n, hn⟩ : ∃ n, n = E.length := ⟨_, rfl⟩
 have hEl : st.ents.length = n := by rw [hE, List.length_map, hn]
 have c3 : ∀ W, Kp No w W → W.cell? ⟨l, 3, none⟩ = some (.slice ea n ec) := fun W hW => by
  rw [cell_at (hW.get hcell fun x => x), hn]
  rfl
 obtain ⟨k1, hk1⟩ : ∃ k1, k1 = n + 1 := ⟨_, rfl⟩
 have hw1 : wrap64 ((n : Int) + 1) = (k1 : Int) := by rw [IntWalk.wrap64_in _ (by omega), hk1]; push_cast; rfl
 obtain ⟨B, hB⟩ : ∃ B, B = bnm P k1 := ⟨_, rfl⟩
 have hnm : ∀ W, Pow W → Calls Tryz.prog 40 #[.string P, .int .i64 (k1 : Int)] W fun e w' => e = .returned (.string B) ∧ Kp No W w' := by
  rw [hB]
  exact fun W hW => wName_bnm P (Nat.le_trans hP (by decide)) k1 (by rw [hk1, ← hEl]; exact hfew) W hW
 have HNM := Lib.hid hnm
 have HSG := Lib.hid hsegs
 have HPW := Lib.hid hpow
 have HB := Lib.hid hB
 have HL := Lib.hid hL
 have HD := Lib.hid hD
 have HRUN := Lib.hid hrun
 have HE := Lib.hid hE
 have HN := Lib.hid hn
 have HEL := Lib.hid hEl
 have HK1 := Lib.hid hk1
 by_cases hx : x = B
 ·have HX := Lib.hid hx
  have HXB := Lib.hid (show x = bnm P (st.ents.length + 1) by rw [hEl, ← hk1, ← hB]; exact hx)
  have hne : (x.toList == B.toList) = true := by rw [hx]; exact beq_self_eq_true _
  clear hB hn hEl hk1 hD hL hrun hE hcell hpow hx hsr her hG hnm hsegs
  go_enter Tryz.func56, Tryz.ntmps56
  go_upto_region 1 with fail
  refine wp_region_held' (Kp No _) [0,0,0,0,0,0,0,0,0,1,0,2,0] [0,1,2,3,4,5,6,7,8,9,10,11,12] (by kernel_rfl) (by kernel_rfl) (fun _ n h => h.drewN n) (Kp.refl _ _) ?_
  repeat (first
   | (apply wpOrd_skip rfl (by decide) rfl; (focus (go_simp; rfl)))
   | (apply wpOrd_pure rfl rfl rfl; (focus (intro _ _; go_simp; (try go_ints); rfl)); (focus (go_simp; rfl)))
   | (apply wpOrd_read rfl rfl rfl; (focus (intro _; go_simp; (try go_ints); rfl)); (focus (go_simp; rfl))))
  refine wpOrd_eff rfl rfl (fun n1 => ?_)
  have hc := HNM.out _ (HPW.out.keep ((Kp.refl No w).drewN n1))
  go_wp2_with fail
  with_reducible refine hc.mono ?_
  rintro e w1 ⟨rfl, hk1⟩
  clear hc
  go_wp2_with fail
  have hk1' : Kp No w w1 := ((Kp.refl No w).drewN n1).trans_same hk1
  refine ⟨hk1', ?_⟩
  repeat (first
   | (apply wpOrd_skip rfl (by decide) rfl; (focus (go_simp; rfl)))
   | (apply wpOrd_pure rfl rfl rfl; (focus (intro _ _; go_simp; (try go_ints); rfl)); (focus (go_simp; rfl)))
   | (apply wpOrd_read rfl rfl rfl; (focus (intro _; go_simp; (try go_ints); rfl)); (focus (go_simp; rfl))))
  refine wpOrd_nil (fun nq => ?_)
  have hk2 := hk1'.drewN nq
  obtain ⟨w2, hw2⟩ : ∃ W, W = w1.drewN nq := ⟨_, rfl⟩
  rw [← hw2] at hk2 ⊢
  have HW2 := Lib.hid hk2
  have c0b := (hk2.cell (p := ⟨l, 0, none⟩) hll (fun x => x)).trans c0
  have hllb := hk2.lt hll
  clear hw2 hk2 hk1' hk1 c0 c1 c3
  obtain ⟨dat, hdat⟩ : ∃ dat, dat = (rdS s.files x).1 := ⟨_, rfl⟩
  have hdl := rd_len HD.out x
  rw [← hdat] at hdl
  have HDAT := Lib.hid hdat
  have hrd := Read_any w2 d s F (HD.out.keep_no HW2.out) x
  have HRD := Lib.hid hrd
  clear hdat hrd
  go_wp2_with fail
  have hc := HRD.out
  with_reducible refine hc.mono ?_
  rintro e w3 ⟨v, rfl, hov, hk3, hfv, _⟩
  clear hc
  rw [← HDAT.out] at hov
  obtain ⟨bn, hbn⟩ : ∃ bn, bn = dat.length := ⟨_, rfl⟩
  obtain ⟨ba, bc, rfl, hbc, _⟩ := hov.rd
  rw [← hbn] at hov hbc hdl hfv ⊢
  have hk03 : Kp No w w3 := HW2.out.trans_same hk3
  have hl3 : LRun w w3 l d P (.slice sa st.segs.length sc) (.slice ea E.length ec) st.segs E st.synced st.dead G := HRUN.out.no hk03
  have hTR : TkR w w3 l d P st G dat ba bc bn 0 := ⟨_, _, E, [], hl3, by rw [List.append_nil]; exact HE.out.symm, tk_start _ _, hov, fun g hg => Nat.le_trans HW2.out.size (hfv g hg)⟩
  have HTR := Lib.hid hTR
  have HBN := Lib.hid hbn
  have HFV := Lib.hid hfv
  clear hTR hl3 hov hbn hfv hk3 hk03
  go_wp2_with fail
  rename World => w4
  go_loopw [7] (fun s7 wr => ∃ good : Nat, good ≤ bn ∧ s7 = .int .i64 (good : Int) ∧ Hid (TkR w wr l d P st G dat ba bc bn good)) (fun s7 _ => bn - (intOf s7).toNat)
  case atStart => exact ⟨0, by omega, rfl, HTR⟩
  case round =>
   obtain ⟨good, hgood, rfl, HR⟩ := hrel
   obtain ⟨sv, ev, E1, X, hl1, hE1, hTk, hob, hfb⟩ := HR.out
   clear HR
   have hkw := hl1.kp
   obtain ⟨ea1, ec1, rfl, hec1, _⟩ := hl1.c.ents.rd
   obtain ⟨n1, hn1⟩ : ∃ n1, n1 = E1.length := ⟨_, rfl⟩
   have hXn : n1 = st.ents.length + X.length := by rw [hn1, ← List.length_map (f := Row.data), hE1, List.length_append]
   have hrow : ∀ W, Kp No wr W → W.cell? ⟨l, 3, none⟩ = some (.slice ea1 n1 ec1) := fun W hW => by
    rw [cell_at (hl1.c.keep_no hW).cell, hn1]
    rfl
   have hl1l := get_lt hl1.c.cell
   have hn1b : n1 ≤ 200000000 := by have := hTk.2.1; omega
   have HL1 := Lib.hid hl1
   have HE1 := Lib.hid hE1
   have HTK := Lib.hid hTk
   have HOB := Lib.hid hob
   have HFB := Lib.hid hfb
   have HXN := Lib.hid hXn
   have HN1 := Lib.hid hn1
   by_cases hlt : good < bn
   ·have hd := Decode_any wr (ba.map (·.add good)) (bc - good) (dat.drop good) (by
     have := (hob.rd').drop good
     simp only [u8s, ← List.map_drop] at this
     exact this) (by rw [List.length_drop, ← HBN.out]; omega) (by rw [List.length_drop, ← HBN.out]; omega)
    rw [List.length_drop, ← HBN.out] at hd
    obtain ⟨g, off, rfl, _, _, _⟩ := hob.rd'.byte (i := good) (by rw [← HBN.out]; exact hlt)
    simp only [Option.map_some, add_lit'] at hd
    have hbt : ¬ bc = good := by omega
    have HDE := Lib.hid hd
    clear hl1 hE1 hTk hob hfb hXn hn1 hd hkw
    go_wp2_with fail
    have hc := HDE.out
    with_reducible refine hc.mono ?_
    rintro e w1 hde
    clear hc HDE
    rcases hde with ⟨hno, kk, hkk, rfl, hk1⟩ | ⟨p, nn, pa, pc, hso, rfl, hop, hfp, hk1⟩
    ·have e1 : (kk == (0 : Int)) = false := by rw [beq_eq_false_iff_ne]; exact hkk
     have e2 : (kk != (0 : Int)) = true := by rw [bne, e1]; rfl
     have HW1 := Lib.hid hk1
     have HEN := Lib.hid (tk_end HTK.out (entsF_none _ hno))
     clear hno hk1
     go_upto_region 13 with fail
     have HKT := HW1
     obtain ⟨wt, hwt⟩ : ∃ W, W = w1 := ⟨_, rfl⟩
     rw [← hwt] at HKT ⊢
     clear hwt
     have hbne : ¬ good = bn := by omega
     have hbq : ((good : Int) == (bn : Int)) = false := by rw [beq_eq_false_iff_ne]; omega
     by_cases h0 : 0 < good
     ·have g1 : decide ((0 : Int) < (good : Int)) = true := by rw [decide_eq_true_iff]; omega
      have hl9 := HL1.out.no HKT.out
      obtain ⟨sa2, sc2, hsv2, hsc2, _⟩ := hl9.c.segs.rd
      subst hsv2
      obtain ⟨sn, hsn⟩ : ∃ sn, sn = st.segs.length := ⟨_, rfl⟩
      have hso := hl9.c.segs
      have hsnb : sn ≤ 1000000 := by rw [hsn]; exact HSG.out
      rw [← hsn] at hso
      obtain ⟨a', c', W', hrn, ho', hkp', hbl'⟩ := own_one (T := 84) (E := 90) (sz := 2) (bytes := 24) Tryz.underlying84 infoSeg hso (news := segC P (k1, good)) (segC_one P (k1, good)) rfl (cs := #[.string x, .int .i64 (good : Int)]) (by rw [HX.out, HB.out]; rfl) (by omega) (by omega)
      have hc9 := hl9.c.cell
      have hcW := hkp'.get hc9 fun e => (hl9.c.seg_ne (by rw [hsn] at e; exact e)).1 rfl
      have hl2W : W'.cell? ⟨l, 2, none⟩ = some (.slice sa2 sn sc2) := by rw [cell_at hcW, hsn]; rfl
      have hf2W := free_at hcW 2
      have hllW := get_lt hcW
      have hl2 : wt.cell? ⟨l, 2, none⟩ = some (.slice sa2 sn sc2) := by rw [cell_at hc9, hsn]; rfl
      have hll2 := get_lt hc9
      have hnew := hl9.seg (S' := st.segs ++ [(k1, good)]) (W' := W') (sv' := .slice a' (sn + 1) c') (by rw [← hsn]; exact hkp') (by rw [List.length_append, List.length_singleton, ← hsn, List.flatMap_append, List.flatMap_cons, List.flatMap_nil, List.append_nil]; exact ho') (by rw [← hsn]; exact hbl')
      have hst := hnew.stop
      have hfin : takeS s.files P st x = (⟨E1.map Row.data, st.segs ++ [(k1, good)], st.synced, st.dead⟩, false) := by
       unfold takeS
       rw [if_pos HXB.out, ← HDAT.out, HEN.out]
       simp only
       rw [if_pos (by rw [← HBN.out]; first | exact .inl h0 | exact .inr HB0.out), HE1.out, HEL.out, ← HK1.out]
       exact congrArg _ (decide_eq_false (fun h => hbne (h.trans HBN.out.symm)))
      have HST := Lib.hid (show ∃ G', LogAt (W'.setCell ⟨l, 2, none⟩ (.slice a' (sn + 1) c')) l d P (takeS s.files P st x).1 G' ∧ Foot G G' w ∧ Kp G w (W'.setCell ⟨l, 2, none⟩ (.slice a' (sn + 1) c')) from by rw [hfin]; exact hst)
      have HFIN := Lib.hid hfin
      have HRN := Lib.hid hrn
      clear hfin hst hnew hrn ho' hkp' hbl' hc9 hcW hso hl9 hsn
      go_wp2_with (at_builtin; refine wpList_append_run rfl rfl rfl rfl HRN.out ?_)
      go_ret
      exact ⟨by rw [HFIN.out]; rfl, HST.out⟩
     ·have g1 : decide ((0 : Int) < (good : Int)) = false := by rw [decide_eq_false_iff_not]; omega
      have hb0 : ¬ bn = 0 := by omega
      have g2 : ((bn : Int) == (0 : Int)) = false := by rw [beq_eq_false_iff_ne]; omega
      have hfin : takeS s.files P st x = (⟨E1.map Row.data, st.segs, st.synced, st.dead⟩, false) := by
       unfold takeS
       rw [if_pos HXB.out, ← HDAT.out, HEN.out]
       simp only
       rw [if_neg (by rw [← HBN.out]; omega), HE1.out]
       exact congrArg _ (decide_eq_false (fun h => hbne (h.trans HBN.out.symm)))
      have hst := (HL1.out.no HKT.out).stop
      have HST := Lib.hid (show ∃ G', LogAt wt l d P (takeS s.files P st x).1 G' ∧ Foot G G' w ∧ Kp G w wt from by rw [hfin]; exact hst)
      have HFIN := Lib.hid hfin
      clear hfin hst
      go_wp2_with fail
      go_ret
      exact ⟨by rw [HFIN.out]; rfl, HST.out⟩
    ·obtain ⟨hnn, hnl, hpl2, _⟩ := deF_some hso
     rw [List.length_drop, ← HBN.out] at hnl
     have hpl9 : p.length ≤ 1000000000000 := by omega
     have hnw := NewReader_any w1 pa pc p hop.rd' (by omega)
     have HSO := Lib.hid hso
     have HKP1 := Lib.hid hk1
     have HNN := Lib.hid hnn
     have HPL9 := Lib.hid hpl9
     have HNL := Lib.hid (show good + nn ≤ bn by omega)
     clear hop hso hfp hk1 hnn hnl hpl2 hpl9
     go_wp2_with fail
     with_reducible refine hnw.mono ?_
     rintro e w2 ⟨rb, rfl, hrb⟩
     clear hnw
     have hnum := Num_any w1 w2 rb p hrb HPL9.out
     clear hrb
     go_wp2_with fail
     with_reducible refine hnum.mono ?_
     rintro e w3 hnu
     clear hnum
     rcases hnu with ⟨m, q, hnd, rfl, hre⟩ | ⟨hnd, rfl, hre⟩
     ·have hgd := Good_any w1 w3 rb q false hre
      have HRE := Lib.hid hre
      have HND := Lib.hid hnd
      clear hre hnd
      go_wp2_with fail
      with_reducible refine hgd.mono ?_
      rintro e w4 ⟨rfl, rfl⟩
      clear hgd
      by_cases hmk : m = n1 + 1
      ·have e3 : ((m : Int) == (n1 : Int) + 1) = true := by rw [beq_iff_eq, hmk]; push_cast; rfl
       have e4 : ((m : Int) != (n1 : Int) + 1) = false := by rw [bne, e3]; rfl
       have HMK := Lib.hid hmk
       obtain ⟨ql, hql⟩ : ∃ ql, ql = q.length := ⟨_, rfl⟩
       have hqlb : ql ≤ 1000000000 := by
        have h1 := numD_len p 0 0 HND.out
        have h2 := (deF_some HSO.out).2.2.1
        omega
       obtain ⟨g2, hg2⟩ : ∃ g2, g2 = good + nn := ⟨_, rfl⟩
       have hg2b : g2 ≤ bn := by rw [hg2]; exact HNL.out
       have hg2l : good < g2 := by have := HNN.out; omega
       have hrow3 := hrow w3 (HKP1.out.trans_same HRE.out.kp)
       have hll1 := HKP1.out.lt hl1l
       have hll3 := HRE.out.kp.lt hll1
       have hev := HL1.out.c.ents
       have hevl : ∀ k, (Value.slice ea1 n1 ec1).ownBlock = some k → k ≠ l ∧ k < wr.heap.size := fun k hk => by
        rw [HN1.out] at hk
        exact ⟨(HL1.out.c.ent_ne hk).1, hev.lt k hk⟩
       have hrowS : ∀ W, Kp (fun k => (Value.slice ea1 n1 ec1).ownBlock = some k) w1 W → W.cell? ⟨l, 3, none⟩ = some (.slice ea1 n1 ec1) := fun W hW => by
        rw [hW.cell (p := ⟨l, 3, none⟩) hll1 (fun h => (hevl l h).1 rfl)]
        exact hrow w1 HKP1.out
       have hfrS : ∀ W, Kp (fun k => (Value.slice ea1 n1 ec1).ownBlock = some k) w1 W → W.frozen? ⟨l, 3, none⟩ = false := fun W hW => by
        rw [hW.frozen (p := ⟨l, 3, none⟩) hll1 (fun h => (hevl l h).1 rfl)]
        exact free_at (HL1.out.c.keep_no HKP1.out).cell 3
       have HEVL := Lib.hid hevl
       have HG2 := Lib.hid hg2
       have HQL := Lib.hid hql
       have HHW2 := Lib.hid (show wrap64 ((good : Int) + (nn : Int)) = (g2 : Int) by rw [IntWalk.wrap64_in _ (by have := HNL.out; omega), hg2]; push_cast; rfl)
       clear hev hevl hg2 hql hmk
       go_upto_region 11 with fail
       clear hrow3
       refine wp_region_last (Kp (fun k => (Value.slice ea1 n1 ec1).ownBlock = some k) w1) [0,0,0,0,0,0,0,2,2,2,2,0,0,2] [0,1,2,3,4,5,6,7,8,9,10,11,12] 13 (by kernel_rfl) (by kernel_rfl) (fun _ n h => h.drewN n) (Kp.of_no HRE.out.kp) ?_
       repeat (first
        | (apply wpOrd_skip rfl (by decide) rfl; (focus (go_simp; rfl)))
        | (apply wpOrd_pure rfl rfl rfl; (focus (intro _ _; go_simp; (try go_ints); rfl)); (focus (go_simp; rfl)))
        | (apply wpOrd_read rfl rfl rfl; (focus (intro _; go_simp; (try go_ints); rfl)); (focus (go_simp; rfl))))
       refine wpOrd_eff rfl rfl (fun n7 => ?_)
       have hlf := Left_any w1 (w3.drewN n7) rb q false (rep_keep HRE.out ((Kp.refl No w3).drewN n7))
       rw [← HQL.out] at hlf
       go_wp2_with fail
       with_reducible refine hlf.mono ?_
       rintro e w7 ⟨rfl, rfl⟩
       clear hlf
       go_wp2_with fail
       refine ⟨(Kp.of_no HRE.out.kp).drewN n7, ?_⟩
       refine wpOrd_eff rfl rfl (fun n8 => ?_)
       have hraw := Raw_any w1 (w3.drewN (n7 + n8)) rb ql q (rep_keep HRE.out ((Kp.refl No w3).drewN (n7 + n8))) (by rw [HQL.out]; exact Nat.le_refl _) (by rw [← HQL.out]; omega)
       go_wp2_with fail
       with_reducible refine hraw.mono ?_
       rintro e w8 ⟨⟨a8, c8, rfl, ho8, hf8, hk8⟩, _⟩
       clear hraw
       have htk : q.take ql = q := by rw [HQL.out]; exact List.take_length
       rw [htk] at ho8 hf8
       rw [htk]
       have HO8 := Lib.hid ho8
       have HF8 := Lib.hid hf8
       have HKK8 := Lib.hid hk8
       clear ho8 hf8 hk8 htk
       go_wp2_with fail
       refine ⟨Kp.of_no HKK8.out, ?_⟩
       refine wpOrd_eff rfl rfl (fun n9 => ?_)
       go_wp2_with fail
       obtain ⟨W9, hW9⟩ : ∃ W, W = (w8.drewN n9).alloc (.cells #[.slice a8 q.length c8] 23) := ⟨_, rfl⟩
       have h9g : W9.heap[w8.heap.size]? = some (.cells #[.slice a8 q.length c8] 23 (0, 0)) := by rw [hW9]; exact heap_alloc_new (w8.drewN n9) _
       have k9 : Kp No w8 W9 := by rw [hW9]; exact ((Kp.refl _ _).drewN n9).alloc _
       rw [← hW9]
       clear hW9
       have hq8 : q.length ≤ c8 := by
        obtain ⟨_, _, cap, hv, h1', _⟩ := HO8.out
        injection hv with _ _ e
        omega
       have k1V : Kp No w1 W9 := HKK8.out.trans_same k9
       refine ⟨Kp.of_no k1V, ?_⟩
       refine wpOrd_eff rfl rfl (fun n10 => ?_)
       have kV : Kp No wr (W9.drewN n10) := (HKP1.out.trans_same k1V).drewN n10
       have hl1n : LRun w (W9.drewN n10) l d P sv (.slice ea1 n1 ec1) st.segs E1 st.synced st.dead G := by rw [HN1.out]; exact HL1.out.no kV
       have hoE : Own (W9.drewN n10) 23 1 (.slice ea1 n1 ec1) n1 (E1.flatMap rowC) := by rw [HN1.out]; exact (HL1.out.no kV).c.ents
       obtain ⟨a', c', W10, hrn, ho', hkp', hbl'⟩ := own_two (T := 22) (E := 23) (sz := 1) (bytes := 24) Tryz.underlying22 infoRowB hoE (news := rowC ⟨a8, c8, q⟩) (rowC_one _) rfl (g := w8.heap.size) (cs := #[.slice a8 q.length c8]) h9g rfl (by omega) (by omega)
       have kS : Kp (fun k => (Value.slice ea1 n1 ec1).ownBlock = some k) w1 W10 := (Kp.of_no (k1V.drewN n10)).trans_same hkp'
       have HRN := Lib.hid hrn
       have HOP := Lib.hid ho'
       have HKV := Lib.hid hkp'
       have HBL := Lib.hid hbl'
       have HLN := Lib.hid hl1n
       have HK9 := Lib.hid k9
       have HKW := Lib.hid kV
       clear hrn ho' hkp' hbl' hl1n k9 h9g hoE k1V kV
       refine wpList_append_run rfl rfl rfl rfl HRN.out (wpList_nil ⟨rfl, kS, ?_⟩)
       repeat (first
        | (apply wpOrd_skip rfl (by decide) rfl; (focus (go_simp; rfl)))
        | (apply wpOrd_pure rfl rfl rfl; (focus (intro _ _; go_simp; (try go_ints); rfl)); (focus (go_simp; rfl)))
        | (apply wpOrd_read rfl rfl rfl; (focus (intro _; go_simp; (try go_ints); rfl)); (focus (go_simp; rfl))))
       refine last_now (fun n11 => ?_)
       refine wpOrd_eff rfl rfl (fun n12 => ?_)
       obtain ⟨W13, hW13⟩ : ∃ W, W = (W10.drewN n11).drewN n12 := ⟨_, rfl⟩
       have k13 : Kp (fun k => (Value.slice ea1 n1 ec1).ownBlock = some k) (W9.drewN n10) W13 := by rw [hW13]; exact (HKV.out.drewN n11).drewN n12
       have kS13 : Kp (fun k => (Value.slice ea1 n1 ec1).ownBlock = some k) w1 W13 := by rw [hW13]; exact (kS.drewN n11).drewN n12
       have ho13 : Own W13 23 1 (.slice a' (n1 + 1) c') (n1 + 1) (E1.flatMap rowC ++ rowC ⟨a8, c8, q⟩) := by rw [hW13]; exact HOP.out
       rw [← hW13]
       have hc13 := hrowS W13 kS13
       have hf13 := hfrS W13 kS13
       have hl13 := kS13.lt hll1
       have hnew := HLN.out.ent (r := ⟨a8, c8, q⟩) (W' := W13) (ev' := .slice a' (n1 + 1) c') ⟨HO8.out.keep (HK9.out.drewN n10) (fun _ _ x => x), hq8, by show q.length ≤ _; rw [← HQL.out]; exact hqlb⟩
        (fun g hg => .inr (Nat.le_trans (Nat.le_trans HL1.out.kp.size HKP1.out.size) (HF8.out g hg))) k13
        (by rw [List.length_append, List.length_singleton, ← HN1.out, List.flatMap_append, List.flatMap_cons, List.flatMap_nil, List.append_nil]; exact ho13) HBL.out
       have hkb : Kp (fun k => k = l ∨ (Value.slice ea1 n1 ec1).ownBlock = some k) wr (W13.setCell ⟨l, 3, none⟩ (.slice a' (n1 + 1) c')) :=
        (((Kp.of_no HKW.out).trans (T := fun k => (Value.slice ea1 n1 ec1).ownBlock = some k) k13 (fun _ _ x => .inr x)).setCell (p := ⟨l, 3, none⟩) (.inl (.inl rfl)) _)
       have htk : TkR w (W13.setCell ⟨l, 3, none⟩ (.slice a' (n1 + 1) c')) l d P st G dat (some ⟨g, off, none⟩) bc bn g2 := by
        refine ⟨_, _, _, X ++ [q], hnew, ?_, ?_, ?_, HFB.out⟩
        ·rw [List.map_append, HE1.out, List.append_assoc]; rfl
        ·rw [HG2.out]
         exact tk_more HTK.out HSO.out (by rw [HND.out, HMK.out, HXN.out]; congr 2; omega)
        ·refine HOB.out.keep hkb fun k hk hS => ?_
         obtain ⟨cur, hcu⟩ := HOB.out.type k hk
         rcases hS with rfl | hS
         ·exact ne_of_type hcu HL1.out.c.cell (by decide) rfl
         ·rw [HN1.out] at hS
          obtain ⟨cur', hc'⟩ := HL1.out.c.ents.type k hS
          exact ne_of_type hcu hc' (by decide) rfl
       have HTKN := Lib.hid htk
       clear hnew hkb htk hW13 k13 kS13 ho13
       go_wp2_with fail
       intro nr
       obtain ⟨W14, hW14⟩ : ∃ W, W = (W13.setCell ⟨l, 3, none⟩ (.slice a' (n1 + 1) c')).drewN nr := ⟨_, rfl⟩
       have HNEW := Lib.hid (show TkR w W14 l d P st G dat (some ⟨g, off, none⟩) bc bn g2 from by
        rw [hW14]
        obtain ⟨q1, q2, q3, q4, q5, q6, q7, q8, q9⟩ := HTKN.out
        exact ⟨q1, q2, q3, q4, q5.no ((Kp.refl No _).drewN nr), q6, q7, q8.drewN nr, q9⟩)
       rw [← hW14]
       clear hW14 hc13 hf13 hl13 kS
       go_wp2_with fail
       go_roundw
       case rel => exact ⟨g2, hg2b, by rw [HHW2.out], HNEW⟩
       case measure =>
        rw [HHW2.out]
        simp [intOf]
        omega
      ·have e3 : ((m : Int) == (n1 : Int) + 1) = false := by rw [beq_eq_false_iff_ne]; omega
       have e4 : ((m : Int) != (n1 : Int) + 1) = true := by rw [bne, e3]; rfl
       have HEN := Lib.hid (tk_end HTK.out (entsF_bad HSO.out (fun q' hq' => by
        rw [HND.out] at hq'
        injection hq' with hq'
        injection hq' with hq' _
        have := HXN.out
        omega)))
       have HKT := Lib.hid (HKP1.out.trans_same HRE.out.kp)
       have hrow3 := hrow w3 HKT.out
       have hll3 := HKT.out.lt hl1l
       go_upto_region 13 with fail
       obtain ⟨wt, hwt⟩ : ∃ W, W = w3 := ⟨_, rfl⟩
       rw [← hwt] at HKT ⊢
       clear hwt hrow3 hll3
       have hbne : ¬ good = bn := by omega
       have hbq : ((good : Int) == (bn : Int)) = false := by rw [beq_eq_false_iff_ne]; omega
       by_cases h0 : 0 < good
       ·have g1 : decide ((0 : Int) < (good : Int)) = true := by rw [decide_eq_true_iff]; omega
        have hl9 := HL1.out.no HKT.out
        obtain ⟨sa2, sc2, hsv2, hsc2, _⟩ := hl9.c.segs.rd
        subst hsv2
        obtain ⟨sn, hsn⟩ : ∃ sn, sn = st.segs.length := ⟨_, rfl⟩
        have hso := hl9.c.segs
        have hsnb : sn ≤ 1000000 := by rw [hsn]; exact HSG.out
        rw [← hsn] at hso
        obtain ⟨a', c', W', hrn, ho', hkp', hbl'⟩ := own_one (T := 84) (E := 90) (sz := 2) (bytes := 24) Tryz.underlying84 infoSeg hso (news := segC P (k1, good)) (segC_one P (k1, good)) rfl (cs := #[.string x, .int .i64 (good : Int)]) (by rw [HX.out, HB.out]; rfl) (by omega) (by omega)
        have hc9 := hl9.c.cell
        have hcW := hkp'.get hc9 fun e => (hl9.c.seg_ne (by rw [hsn] at e; exact e)).1 rfl
        have hl2W : W'.cell? ⟨l, 2, none⟩ = some (.slice sa2 sn sc2) := by rw [cell_at hcW, hsn]; rfl
        have hf2W := free_at hcW 2
        have hllW := get_lt hcW
        have hl2 : wt.cell? ⟨l, 2, none⟩ = some (.slice sa2 sn sc2) := by rw [cell_at hc9, hsn]; rfl
        have hll2 := get_lt hc9
        have hnew := hl9.seg (S' := st.segs ++ [(k1, good)]) (W' := W') (sv' := .slice a' (sn + 1) c') (by rw [← hsn]; exact hkp') (by rw [List.length_append, List.length_singleton, ← hsn, List.flatMap_append, List.flatMap_cons, List.flatMap_nil, List.append_nil]; exact ho') (by rw [← hsn]; exact hbl')
        have hst := hnew.stop
        have hfin : takeS s.files P st x = (⟨E1.map Row.data, st.segs ++ [(k1, good)], st.synced, st.dead⟩, false) := by
         unfold takeS
         rw [if_pos HXB.out, ← HDAT.out, HEN.out]
         simp only
         rw [if_pos (by rw [← HBN.out]; first | exact .inl h0 | exact .inr HB0.out), HE1.out, HEL.out, ← HK1.out]
         exact congrArg _ (decide_eq_false (fun h => hbne (h.trans HBN.out.symm)))
        have HST := Lib.hid (show ∃ G', LogAt (W'.setCell ⟨l, 2, none⟩ (.slice a' (sn + 1) c')) l d P (takeS s.files P st x).1 G' ∧ Foot G G' w ∧ Kp G w (W'.setCell ⟨l, 2, none⟩ (.slice a' (sn + 1) c')) from by rw [hfin]; exact hst)
        have HFIN := Lib.hid hfin
        have HRN := Lib.hid hrn
        clear hfin hst hnew hrn ho' hkp' hbl' hc9 hcW hso hl9 hsn
        go_wp2_with (at_builtin; refine wpList_append_run rfl rfl rfl rfl HRN.out ?_)
        go_ret
        exact ⟨by rw [HFIN.out]; rfl, HST.out⟩
       ·have g1 : decide ((0 : Int) < (good : Int)) = false := by rw [decide_eq_false_iff_not]; omega
        have hb0 : ¬ bn = 0 := by omega
        have g2 : ((bn : Int) == (0 : Int)) = false := by rw [beq_eq_false_iff_ne]; omega
        have hfin : takeS s.files P st x = (⟨E1.map Row.data, st.segs, st.synced, st.dead⟩, false) := by
         unfold takeS
         rw [if_pos HXB.out, ← HDAT.out, HEN.out]
         simp only
         rw [if_neg (by rw [← HBN.out]; omega), HE1.out]
         exact congrArg _ (decide_eq_false (fun h => hbne (h.trans HBN.out.symm)))
        have hst := (HL1.out.no HKT.out).stop
        have HST := Lib.hid (show ∃ G', LogAt wt l d P (takeS s.files P st x).1 G' ∧ Foot G G' w ∧ Kp G w wt from by rw [hfin]; exact hst)
        have HFIN := Lib.hid hfin
        clear hfin hst
        go_wp2_with fail
        go_ret
        exact ⟨by rw [HFIN.out]; rfl, HST.out⟩
     ·have hgd := Good_any w1 w3 rb [] true hre
      have HKT := Lib.hid (HKP1.out.trans_same hre.kp)
      have HEN := Lib.hid (tk_end HTK.out (entsF_bad HSO.out (fun q' hq' => by rw [hnd] at hq'; cases hq')))
      clear hnd hre
      go_upto_region 10 with fail
      go_wp2_with fail
      with_reducible refine hgd.mono ?_
      rintro e w4 ⟨rfl, rfl⟩
      clear hgd
      go_upto_region 13 with fail
      obtain ⟨wt, hwt⟩ : ∃ W, W = w3 := ⟨_, rfl⟩
      rw [← hwt] at HKT ⊢
      clear hwt
      have hbne : ¬ good = bn := by omega
      have hbq : ((good : Int) == (bn : Int)) = false := by rw [beq_eq_false_iff_ne]; omega
      by_cases h0 : 0 < good
      ·have g1 : decide ((0 : Int) < (good : Int)) = true := by rw [decide_eq_true_iff]; omega
       have hl9 := HL1.out.no HKT.out
       obtain ⟨sa2, sc2, hsv2, hsc2, _⟩ := hl9.c.segs.rd
       subst hsv2
       obtain ⟨sn, hsn⟩ : ∃ sn, sn = st.segs.length := ⟨_, rfl⟩
       have hso := hl9.c.segs
       have hsnb : sn ≤ 1000000 := by rw [hsn]; exact HSG.out
       rw [← hsn] at hso
       obtain ⟨a', c', W', hrn, ho', hkp', hbl'⟩ := own_one (T := 84) (E := 90) (sz := 2) (bytes := 24) Tryz.underlying84 infoSeg hso (news := segC P (k1, good)) (segC_one P (k1, good)) rfl (cs := #[.string x, .int .i64 (good : Int)]) (by rw [HX.out, HB.out]; rfl) (by omega) (by omega)
       have hc9 := hl9.c.cell
       have hcW := hkp'.get hc9 fun e => (hl9.c.seg_ne (by rw [hsn] at e; exact e)).1 rfl
       have hl2W : W'.cell? ⟨l, 2, none⟩ = some (.slice sa2 sn sc2) := by rw [cell_at hcW, hsn]; rfl
       have hf2W := free_at hcW 2
       have hllW := get_lt hcW
       have hl2 : wt.cell? ⟨l, 2, none⟩ = some (.slice sa2 sn sc2) := by rw [cell_at hc9, hsn]; rfl
       have hll2 := get_lt hc9
       have hnew := hl9.seg (S' := st.segs ++ [(k1, good)]) (W' := W') (sv' := .slice a' (sn + 1) c') (by rw [← hsn]; exact hkp') (by rw [List.length_append, List.length_singleton, ← hsn, List.flatMap_append, List.flatMap_cons, List.flatMap_nil, List.append_nil]; exact ho') (by rw [← hsn]; exact hbl')
       have hst := hnew.stop
       have hfin : takeS s.files P st x = (⟨E1.map Row.data, st.segs ++ [(k1, good)], st.synced, st.dead⟩, false) := by
        unfold takeS
        rw [if_pos HXB.out, ← HDAT.out, HEN.out]
        simp only
        rw [if_pos (by rw [← HBN.out]; first | exact .inl h0 | exact .inr HB0.out), HE1.out, HEL.out, ← HK1.out]
        exact congrArg _ (decide_eq_false (fun h => hbne (h.trans HBN.out.symm)))
       have HST := Lib.hid (show ∃ G', LogAt (W'.setCell ⟨l, 2, none⟩ (.slice a' (sn + 1) c')) l d P (takeS s.files P st x).1 G' ∧ Foot G G' w ∧ Kp G w (W'.setCell ⟨l, 2, none⟩ (.slice a' (sn + 1) c')) from by rw [hfin]; exact hst)
       have HFIN := Lib.hid hfin
       have HRN := Lib.hid hrn
       clear hfin hst hnew hrn ho' hkp' hbl' hc9 hcW hso hl9 hsn
       go_wp2_with (at_builtin; refine wpList_append_run rfl rfl rfl rfl HRN.out ?_)
       go_ret
       exact ⟨by rw [HFIN.out]; rfl, HST.out⟩
      ·have g1 : decide ((0 : Int) < (good : Int)) = false := by rw [decide_eq_false_iff_not]; omega
       have hb0 : ¬ bn = 0 := by omega
       have g2 : ((bn : Int) == (0 : Int)) = false := by rw [beq_eq_false_iff_ne]; omega
       have hfin : takeS s.files P st x = (⟨E1.map Row.data, st.segs, st.synced, st.dead⟩, false) := by
        unfold takeS
        rw [if_pos HXB.out, ← HDAT.out, HEN.out]
        simp only
        rw [if_neg (by rw [← HBN.out]; omega), HE1.out]
        exact congrArg _ (decide_eq_false (fun h => hbne (h.trans HBN.out.symm)))
       have hst := (HL1.out.no HKT.out).stop
       have HST := Lib.hid (show ∃ G', LogAt wt l d P (takeS s.files P st x).1 G' ∧ Foot G G' w ∧ Kp G w wt from by rw [hfin]; exact hst)
       have HFIN := Lib.hid hfin
       clear hfin hst
       go_wp2_with fail
       go_ret
       exact ⟨by rw [HFIN.out]; rfl, HST.out⟩
   ·have hgb : good = bn := by omega
    have HEN := Lib.hid (tk_end hTk (entsF_none _ (by rw [List.drop_of_length_le (by rw [← HBN.out, hgb]; exact Nat.le_refl _)]; exact deF_nil)))
    clear hl1 hE1 hTk hob hfb hXn hn1 hkw
    have HKT := Lib.hid (Kp.refl No wr)
    go_upto_region 13 with fail
    obtain ⟨wt, hwt⟩ : ∃ W, W = wr := ⟨_, rfl⟩
    rw [← hwt]
    have HKT : Hid (Kp No wr wt) := by rw [hwt]; exact HKT
    clear hwt hlt hgood
    have hbq : ((good : Int) == (bn : Int)) = true := by rw [beq_iff_eq, hgb]
    by_cases h0 : 0 < good
    ·have g1 : decide ((0 : Int) < (good : Int)) = true := by rw [decide_eq_true_iff]; omega
     have HGB := Lib.hid hgb
     clear hgb
     have hl9 := HL1.out.no HKT.out
     obtain ⟨sa2, sc2, hsv2, hsc2, _⟩ := hl9.c.segs.rd
     subst hsv2
     obtain ⟨sn, hsn⟩ : ∃ sn, sn = st.segs.length := ⟨_, rfl⟩
     have hso := hl9.c.segs
     have hsnb : sn ≤ 1000000 := by rw [hsn]; exact HSG.out
     rw [← hsn] at hso
     obtain ⟨a', c', W', hrn, ho', hkp', hbl'⟩ := own_one (T := 84) (E := 90) (sz := 2) (bytes := 24) Tryz.underlying84 infoSeg hso (news := segC P (k1, good)) (segC_one P (k1, good)) rfl (cs := #[.string x, .int .i64 (good : Int)]) (by rw [HX.out, HB.out]; rfl) (by omega) (by omega)
     have hc9 := hl9.c.cell
     have hcW := hkp'.get hc9 fun e => (hl9.c.seg_ne (by rw [hsn] at e; exact e)).1 rfl
     have hl2W : W'.cell? ⟨l, 2, none⟩ = some (.slice sa2 sn sc2) := by rw [cell_at hcW, hsn]; rfl
     have hf2W := free_at hcW 2
     have hllW := get_lt hcW
     have hl2 : wt.cell? ⟨l, 2, none⟩ = some (.slice sa2 sn sc2) := by rw [cell_at hc9, hsn]; rfl
     have hll2 := get_lt hc9
     have hnew := hl9.seg (S' := st.segs ++ [(k1, good)]) (W' := W') (sv' := .slice a' (sn + 1) c') (by rw [← hsn]; exact hkp') (by rw [List.length_append, List.length_singleton, ← hsn, List.flatMap_append, List.flatMap_cons, List.flatMap_nil, List.append_nil]; exact ho') (by rw [← hsn]; exact hbl')
     have hst := hnew.stop
     have hfin : takeS s.files P st x = (⟨E1.map Row.data, st.segs ++ [(k1, good)], st.synced, st.dead⟩, true) := by
      unfold takeS
      rw [if_pos HXB.out, ← HDAT.out, HEN.out]
      simp only
      rw [if_pos (by rw [← HBN.out]; first | exact .inl h0 | exact .inr HB0.out), HE1.out, HEL.out, ← HK1.out]
      exact congrArg _ (decide_eq_true (HGB.out.trans HBN.out))
     have HST := Lib.hid (show ∃ G', LogAt (W'.setCell ⟨l, 2, none⟩ (.slice a' (sn + 1) c')) l d P (takeS s.files P st x).1 G' ∧ Foot G G' w ∧ Kp G w (W'.setCell ⟨l, 2, none⟩ (.slice a' (sn + 1) c')) from by rw [hfin]; exact hst)
     have HFIN := Lib.hid hfin
     have HRN := Lib.hid hrn
     clear hfin hst hnew hrn ho' hkp' hbl' hc9 hcW hso hl9 hsn
     go_wp2_with (at_builtin; refine wpList_append_run rfl rfl rfl rfl HRN.out ?_)
     go_ret
     exact ⟨by rw [HFIN.out]; rfl, HST.out⟩
    ·have g1 : decide ((0 : Int) < (good : Int)) = false := by rw [decide_eq_false_iff_not]; omega
     have g2 : ((bn : Int) == (0 : Int)) = true := by rw [beq_iff_eq]; omega
     have hb0 : bn = 0 := by omega
     have HB0 := Lib.hid hb0
     have HGB := Lib.hid hgb
     clear hgb hb0
     have hl9 := HL1.out.no HKT.out
     obtain ⟨sa2, sc2, hsv2, hsc2, _⟩ := hl9.c.segs.rd
     subst hsv2
     obtain ⟨sn, hsn⟩ : ∃ sn, sn = st.segs.length := ⟨_, rfl⟩
     have hso := hl9.c.segs
     have hsnb : sn ≤ 1000000 := by rw [hsn]; exact HSG.out
     rw [← hsn] at hso
     obtain ⟨a', c', W', hrn, ho', hkp', hbl'⟩ := own_one (T := 84) (E := 90) (sz := 2) (bytes := 24) Tryz.underlying84 infoSeg hso (news := segC P (k1, good)) (segC_one P (k1, good)) rfl (cs := #[.string x, .int .i64 (good : Int)]) (by rw [HX.out, HB.out]; rfl) (by omega) (by omega)
     have hc9 := hl9.c.cell
     have hcW := hkp'.get hc9 fun e => (hl9.c.seg_ne (by rw [hsn] at e; exact e)).1 rfl
     have hl2W : W'.cell? ⟨l, 2, none⟩ = some (.slice sa2 sn sc2) := by rw [cell_at hcW, hsn]; rfl
     have hf2W := free_at hcW 2
     have hllW := get_lt hcW
     have hl2 : wt.cell? ⟨l, 2, none⟩ = some (.slice sa2 sn sc2) := by rw [cell_at hc9, hsn]; rfl
     have hll2 := get_lt hc9
     have hnew := hl9.seg (S' := st.segs ++ [(k1, good)]) (W' := W') (sv' := .slice a' (sn + 1) c') (by rw [← hsn]; exact hkp') (by rw [List.length_append, List.length_singleton, ← hsn, List.flatMap_append, List.flatMap_cons, List.flatMap_nil, List.append_nil]; exact ho') (by rw [← hsn]; exact hbl')
     have hst := hnew.stop
     have hfin : takeS s.files P st x = (⟨E1.map Row.data, st.segs ++ [(k1, good)], st.synced, st.dead⟩, true) := by
      unfold takeS
      rw [if_pos HXB.out, ← HDAT.out, HEN.out]
      simp only
      rw [if_pos (by rw [← HBN.out]; first | exact .inl h0 | exact .inr HB0.out), HE1.out, HEL.out, ← HK1.out]
      exact congrArg _ (decide_eq_true (HGB.out.trans HBN.out))
     have HST := Lib.hid (show ∃ G', LogAt (W'.setCell ⟨l, 2, none⟩ (.slice a' (sn + 1) c')) l d P (takeS s.files P st x).1 G' ∧ Foot G G' w ∧ Kp G w (W'.setCell ⟨l, 2, none⟩ (.slice a' (sn + 1) c')) from by rw [hfin]; exact hst)
     have HFIN := Lib.hid hfin
     have HRN := Lib.hid hrn
     clear hfin hst hnew hrn ho' hkp' hbl' hc9 hcW hso hl9 hsn
     go_wp2_with (at_builtin; refine wpList_append_run rfl rfl rfl rfl HRN.out ?_)
     go_ret
     exact ⟨by rw [HFIN.out]; rfl, HST.out⟩
 ·have HX := Lib.hid hx
  have hne : (x.toList == B.toList) = false := by rw [← beq_toListBytes]; exact beq_false_of_ne hx
  clear hB hn hEl hk1 hD hL hrun hE hcell hpow hx hsr her hG hnm hsegs
  go_enter Tryz.func56, Tryz.ntmps56
  go_upto_region 1 with fail
  refine wp_region_held' (Kp No _) [0,0,0,0,0,0,0,0,0,1,0,2,0] [0,1,2,3,4,5,6,7,8,9,10,11,12] (by kernel_rfl) (by kernel_rfl) (fun _ n h => h.drewN n) (Kp.refl _ _) ?_
  repeat (first
   | (apply wpOrd_skip rfl (by decide) rfl; (focus (go_simp; rfl)))
   | (apply wpOrd_pure rfl rfl rfl; (focus (intro _ _; go_simp; (try go_ints); rfl)); (focus (go_simp; rfl)))
   | (apply wpOrd_read rfl rfl rfl; (focus (intro _; go_simp; (try go_ints); rfl)); (focus (go_simp; rfl))))
  refine wpOrd_eff rfl rfl (fun n1 => ?_)
  have hc := HNM.out _ (HPW.out.keep ((Kp.refl No w).drewN n1))
  go_wp2_with fail
  with_reducible refine hc.mono ?_
  rintro e w1 ⟨rfl, hk1⟩
  clear hc
  go_wp2_with fail
  have hk1' : Kp No w w1 := ((Kp.refl No w).drewN n1).trans_same hk1
  refine ⟨hk1', ?_⟩
  repeat (first
   | (apply wpOrd_skip rfl (by decide) rfl; (focus (go_simp; rfl)))
   | (apply wpOrd_pure rfl rfl rfl; (focus (intro _ _; go_simp; (try go_ints); rfl)); (focus (go_simp; rfl)))
   | (apply wpOrd_read rfl rfl rfl; (focus (intro _; go_simp; (try go_ints); rfl)); (focus (go_simp; rfl))))
  refine wpOrd_nil (fun nq => ?_)
  have hk2 := hk1'.drewN nq
  obtain ⟨w2, hw2⟩ : ∃ W, W = w1.drewN nq := ⟨_, rfl⟩
  rw [← hw2] at hk2 ⊢
  have HW2 := Lib.hid hk2
  have c0b := (hk2.cell (p := ⟨l, 0, none⟩) hll (fun x => x)).trans c0
  have hllb := hk2.lt hll
  clear hw2 hk2 hk1' hk1 c0 c1 c3
  go_wp2_with fail
  go_ret
  have e : takeS s.files P st x = (st, false) := by
   unfold takeS
   rw [if_neg]
   rw [HEL.out, ← HK1.out, ← HB.out]
   exact HX.out
  rw [e]
  exact ⟨rfl, G, HL.out.keep_no HW2.out, Foot.refl _ _, Kp.of_no HW2.out⟩
end Go.Proofs.YtdibkdgafidjgaaGreatDoor

