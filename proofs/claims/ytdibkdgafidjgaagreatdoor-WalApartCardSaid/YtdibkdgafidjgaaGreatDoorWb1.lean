/-
  Texts laid together: RSync, RRead, Fin.
-/
import Derived.Test.YtdibkdgafidjgaaGreatDoorWa9
import Derived.Deep.CutRange
namespace Go.Proofs.YtdibkdgafidjgaaGreatDoor
open Go.RowKit Go.Mer
set_option maxRecDepth 100000 in
set_option maxHeartbeats 1000000 in
theorem rSync_any (w : World) (r : Nat) (s : DSt) (G : Nat → Prop) (h : RAt w r s G) (name : ByteArray) :
  Calls Tryz.prog 52 #[.pointer (some ⟨r, 0, none⟩), .string name] w (SaidR w r G (syS s name)) := by
 obtain ⟨rv, L, hR, hp, hGl⟩ := RRun.start h
 obtain ⟨W1, hW1⟩ : ∃ W, W = w.alloc (.cells #[.string name] 9) := ⟨_, rfl⟩
 have k1 : Kp No w W1 := by rw [hW1]; exact (Kp.refl _ _).alloc _
 have hR1 := hR.no k1
 have hm := rmay_any W1 r s.room (leftOf s.fuse) rv L hR1.c (some ⟨w.heap.size, 0, none⟩) 1 [name] (by rw [hW1]; exact name_rd w name) (by simp)
 rw [show (if leftOf s.fuse = 0 then (9 : Int) else if ([name] : List ByteArray).all nameOk = true then 0 else 1) = mayQ s.fuse [name] from rfl] at hm
 have hq := mayQ_cases s.fuse [name]
 obtain ⟨q, hq0⟩ : ∃ q, q = mayQ s.fuse [name] := ⟨_, rfl⟩
 rw [← hq0] at hm hq
 have HM := Lib.hid hm
 have HQ := Lib.hid hq
 have HP := Lib.hid hp
 have HR1 := Lib.hid hR1
 have HW1 := Lib.hid hW1
 skip
 clear hm hq hp hR1 hW1 k1 hR hGl h hq0
 go_enter Tryz.func52, Tryz.ntmps52
 go_wp2_with fail
 rw [← HW1.out]
 refine HM.out.mono ?_
 rintro e w2 ⟨rfl, hk2⟩
 have HR2 := Lib.hid (HR1.out.no hk2)
 clear hk2 HM
 rcases HQ.out with ⟨h0, rfl⟩ | ⟨h0, hns, rfl⟩ | ⟨h0, hns, rfl⟩
 ·
  have H0 := Lib.hid h0
  clear h0
  go_wp2_with fail
  go_ret
  rw [syS, five9 H0.out]
  exact HR2.out.stop HP.out
 ·
  have H0 := Lib.hid h0
  have HNS := Lib.hid hns
  clear h0 hns
  go_wp2_with fail
  go_ret
  rw [syS, five1 H0.out HNS.out]
  exact HR2.out.stop HP.out
 have H0 := Lib.hid h0
 have HNS := Lib.hid hns
 clear h0 hns HQ HR1 HW1
 have hs := rspot_any w2 r s.room (leftOf s.fuse) rv L HR2.out.c name
 have HSP := Lib.hid hs
 clear hs
 go_wp2_with fail
 refine HSP.out.mono ?_
 rintro e w3 ⟨i, b, rfl, hsp, hk3⟩
 have HR3 := Lib.hid (HR2.out.no hk3)
 clear hk3 HSP HR2
 cases hsp with
 | no L1 L2 hL h1 h2 =>
  have HE := Lib.hid (show syCode s name = 7 by
   unfold syCode
   rw [if_pos]
   rw [← gget_perm HP.out HR3.out.c.sorted.keys, hL]
   exact get_no h1 h2)
  clear hL h1 h2
  go_wp2_with fail
  go_ret
  rw [syS, fiveE H0.out HNS.out (by rw [HE.out]; decide), HE.out]
  exact HR3.out.stop HP.out
 | is L1 f L2 hL hk =>
  subst hL
  obtain ⟨g, off, rcap, n, hn, hlt, hcap, hgr, rfl, hcells⟩ := HR3.out.c.at_
  have hga : gget s.files name = some ⟨f.data, f.lasts⟩ := by rw [← gget_perm HP.out HR3.out.c.sorted.keys, ← hk]; exact get_is HR3.out.c.sorted rfl
  have HE := Lib.hid (show syCode s name = 0 by unfold syCode; rw [if_neg (by rw [hga]; simp)])
  have HPn : Hid ((absR (L1 ++ ⟨f.name, f.a, f.cap, f.data, f.data.length⟩ :: L2)).Perm (syFiles s.files name)) := Lib.hid (by
   unfold syFiles
   rw [hga, ← hk]
   exact perm_turn HR3.out.c.sorted HP.out rfl)
  have HCE := Lib.hid hcells
  have HN := Lib.hid hn
  obtain ⟨i, hi⟩ : ∃ i, i = L1.length := ⟨_, rfl⟩
  rw [← hi] at hlt ⊢
  have HI := Lib.hid hi
  obtain ⟨c1, d0, d1, d2, fr, fg, rl, gl⟩ := hcells w3 (Kp.refl _ _)
  rw [← hi] at d0 d1 d2
  obtain ⟨m, hm⟩ : ∃ m, m = f.data.length := ⟨_, rfl⟩
  rw [← hm] at d1
  have hmm : m ≤ 1073741824 := by
   have h1 := HR3.out.c.fits
   have h2 := HR3.out.c.roomy
   rw [totF_mid] at h1
   omega
  have HMm := Lib.hid hm
  have HF := Lib.hid (HR3.out.c.files f (by simp))
  have hfit : totF (absR (L1 ++ ⟨f.name, f.a, f.cap, f.data, f.data.length⟩ :: L2)) ≤ s.room := by have := HR3.out.c.fits; rw [totF_mid] at this ⊢; exact this
  have HFIT := Lib.hid hfit
  clear hga hn hi hcells hm hfit hk
  go_wp2_with fail
  refine wp_region_ord [0,0,0,1,0,0,0,0,1,0,0,0,1,1,0,0,2] [0,1,2,4,5,6,7,9,3,8,10,11,12,13,14,15,16] (by kernel_rfl) (by kernel_rfl) ?_
  repeat (first
   | (apply wpOrd_skip rfl (by decide) rfl; (focus (go_simp; rfl)))
   | (apply wpOrd_pure rfl rfl rfl; (focus (intro _ _; go_simp; (try go_ints); rfl)); (focus (go_simp; rfl)))
   | (apply wpOrd_read rfl rfl rfl; (focus (intro _; go_simp; (try go_ints); rfl)); (focus (go_simp; rfl))))
  refine wpOrd_eff rfl rfl (fun n1 => ?_)
  have d2' : (w3.drewN n1).cell? ⟨g, off + i * 3 + 2, none⟩ = some (.int .i64 (f.lasts : Int)) := d2
  have fg' : (w3.drewN n1).frozen? ⟨g, off + i * 3 + 2, none⟩ = false := fg _
  go_wp2_with fail
  intro nq
  obtain ⟨W4, hW4⟩ : ∃ W, W = (w3.drewN n1).setCell ⟨g, off + i * 3 + 2, none⟩ (.int .i64 (m : Int)) := ⟨_, rfl⟩
  have hRn := HR3.out.setAt HN.out ((Kp.refl No w3).drewN n1) 2 (.int .i64 (m : Int)) (by omega) ⟨f.name, f.a, f.cap, f.data, f.data.length⟩ (by rw [HMm.out]; rfl) rfl ⟨HF.out.1.drewN n1, Nat.le_refl _⟩ (fun _ h => .inl h) HFIT.out
  rw [← HI.out, ← hW4] at hRn
  have HRn := Lib.hid (hRn.no ((Kp.refl No W4).drewN nq))
  rw [← hW4]
  obtain ⟨V, hV⟩ : ∃ W, W = W4.drewN nq := ⟨_, rfl⟩
  rw [← hV] at HRn ⊢
  clear hW4 hRn c1 d0 d1 d2 d2' fr fg fg' rl gl hV
  have hd := rdid_any V r s.room (leftOf s.fuse) _ _ HRn.out.c
  rw [← left_next H0.out] at hd
  have HD := Lib.hid hd
  clear hd
  go_wp2_with fail
  refine HD.out.mono ?_
  rintro e wd ⟨rfl, hcd, hkd⟩
  have HRd := Lib.hid (HRn.out.setLeft hcd hkd)
  clear hcd hkd HD
  go_wp2_with fail
  go_ret
  rw [syS, five0 H0.out HNS.out HE.out]
  exact RRun.stop (s := { s with fuse := s.fuse.map (· - 1), files := _ }) HRd.out HPn.out
end Go.Proofs.YtdibkdgafidjgaaGreatDoor
namespace Go.Proofs.YtdibkdgafidjgaaGreatDoor
open Go.RowKit Go.Mer
def RReadPost (w : World) (s : DSt) (name : ByteArray) (e : Ending) (w' : World) : Prop :=
 ∃ v, e = .returned (.tuple #[v, .int .i64 (rdS s.files name).2]) ∧ Own w' 5 1 v (rdS s.files name).1.length (u8s (rdS s.files name).1) ∧ Kp No w w' ∧ (∀ g, v.ownBlock = some g → w.heap.size ≤ g)
set_option maxRecDepth 100000 in
set_option maxHeartbeats 1000000 in
theorem rRead_any (w : World) (r : Nat) (s : DSt) (G : Nat → Prop) (h : RAt w r s G) (name : ByteArray) :
  Calls Tryz.prog 61 #[.pointer (some ⟨r, 0, none⟩), .string name] w (RReadPost w s name) := by
 obtain ⟨rv, L, hR, hp, hGl⟩ := RRun.start h
 have HR := Lib.hid hR
 have HP := Lib.hid hp
 have hs := rspot_any w r s.room (leftOf s.fuse) rv L hR.c name
 have HSP := Lib.hid hs
 clear hs hR hp hGl h
 go_enter Tryz.func61, Tryz.ntmps61
 go_wp2_with fail
 refine HSP.out.mono ?_
 rintro e w3 ⟨i, b, rfl, hsp, hk3⟩
 have HR3 := Lib.hid (HR.out.c.keep_no hk3)
 have HK3 := Lib.hid hk3
 clear hk3 HSP
 cases hsp with
 | no L1 L2 hL h1 h2 =>
  have HE := Lib.hid (show rdS s.files name = ([], 7) by
   unfold rdS
   rw [← gget_perm HP.out HR3.out.sorted.keys, hL, get_no h1 h2])
  clear hL h1 h2
  go_wp2_with fail
  go_ret2
  unfold RReadPost
  rw [HE.out]
  exact ⟨.slice none 0 0, rfl, Own.nil _ _ _, HK3.out, fun g hg => by cases hg⟩
 | is L1 f L2 hL hk =>
  subst hL
  have HE := Lib.hid (show rdS s.files name = (f.data, 0) by
   unfold rdS
   rw [← gget_perm HP.out HR3.out.sorted.keys, ← hk, get_is HR3.out.sorted rfl])
  obtain ⟨g, off, rcap, n, hn, hlt, hcap, hgr, rfl, hcells⟩ := HR3.out.at_
  obtain ⟨i, hi⟩ : ∃ i, i = L1.length := ⟨_, rfl⟩
  rw [← hi] at hlt ⊢
  obtain ⟨c1, d0, d1, d2, fr, fg, rl, gl⟩ := hcells w3 (Kp.refl _ _)
  rw [← hi] at d0 d1 d2
  have HF := Lib.hid (HR3.out.files f (by simp))
  have hmm : f.data.length ≤ 1073741824 := by
   have h1 := HR3.out.fits
   have h2 := HR3.out.roomy
   rw [totF_mid] at h1
   omega
  obtain ⟨a7, c7, W7, hrun, ho7, hk7, hb7⟩ := cpy_bytes w3 f.data f.a f.cap HF.out.1.rd' (by omega)
  have HX7 := Lib.hid hrun
  have HO7 := Lib.hid ho7
  have HK7 := Lib.hid hk7
  have HB7 := Lib.hid hb7
  clear hn hi hcells hk hrun ho7 hk7 hb7
  go_wp2_with (at_builtin; refine wpList_append_run rfl rfl rfl rfl HX7.out ?_)
  go_ret2
  unfold RReadPost
  rw [HE.out]
  exact ⟨_, rfl, HO7.out, HK3.out.trans_same HK7.out, fun g hg => Nat.le_trans HK3.out.size (HB7.out g hg)⟩
theorem infoStr : (Tryz.prog.info? 9).map (fun i => ((i.zero.map fun z => z.cells.size), i.size, i.bytes)) = some (some 1, 1, 16) := by kernel_rfl
def nameCell (f : RFile) : List Value := [.string f.name]
theorem nameCell_one (f : RFile) : ∀ u ∈ nameCell f, u.oneCell' = true := by
 intro u hu
 simp only [nameCell, List.mem_cons, List.not_mem_nil, or_false] at hu
 subst hu
 rfl
theorem nameCells (L : List RFile) : L.flatMap nameCell = (L.map (·.name)).map Value.string := by
 induction L with
 | nil => rfl
 | cons f L ih => rw [List.flatMap_cons, ih]; rfl
def RNamesPost (w : World) (s : DSt) (e : Ending) (w' : World) : Prop :=
 ∃ (N : List ByteArray) (a : Option Addr) (c : Nat), e = .returned (.slice a N.length c) ∧ N.Pairwise NLt ∧ N.Perm (s.files.map (·.1)) ∧ Rd w' w'.heap.size a (N.map Value.string) ∧ Kp No w w'
set_option maxRecDepth 100000 in
set_option maxHeartbeats 1000000 in
theorem rNames_any (w : World) (r : Nat) (s : DSt) (G : Nat → Prop) (h : RAt w r s G) :
  Calls Tryz.prog 59 #[.pointer (some ⟨r, 0, none⟩)] w (RNamesPost w s) := by
 obtain ⟨rv, L, hR, hp, hGl⟩ := RRun.start h
 obtain ⟨ra, rcap, hrv, hrc, hrd⟩ := hR.c.row.rd
 have HC1 := Lib.hid (show ∀ W, Kp No w W → W.cell? ⟨r, 1, none⟩ = some (.slice ra L.length rcap) ∧ r < W.heap.size from fun W hW => ⟨by rw [cell_at (hW.get hR.c.cell fun x => x), hrv]; rfl, get_lt (hW.get hR.c.cell fun x => x)⟩)
 have HRD := Lib.hid hrd
 have HP := Lib.hid hp
 have HS := Lib.hid hR.c.sorted
 have hfew := hR.c.few
 clear hR hp hGl h hrd hrv
 go_enter Tryz.func59, Tryz.ntmps59
 go_wp2_with fail
 rename World => w0
 go_loopw [3, 4] (fun s i wr => ∃ (j : Nat) (a : Option Addr) (c : Nat), j ≤ L.length ∧ i = .int .i64 (j : Int) ∧ s = .slice a j c ∧ Hid (RowRel 9 1 nameCell w0 wr (.slice a j c) j (L.take j))) (fun _ i _ => L.length - (intOf i).toNat)
 case atStart => exact ⟨0, none, 0, Nat.zero_le _, rfl, rfl, Lib.hid (by simpa using RowRel.nil 9 1 nameCell w0)⟩
 case round =>
  obtain ⟨j, ao, co, hj, rfl, rfl, HR⟩ := hrel
  have HKP := Lib.hid HR.out.2.2.2
  obtain ⟨c1, hrl⟩ := HC1.out _ HKP.out
  by_cases hlt : j < L.length
  ·obtain ⟨g, off, rfl, l0⟩ := rd_chunk (f := RFile.cells) (c := 3) RFile.cells_len (by decide) HRD.out hlt
   have d0 := l0 _ HKP.out 0 _ rfl
   rw [Nat.add_zero] at d0
   have hgl : g < wr.heap.size := World.block_lt_of_cell? wr _ d0
   have HT := Lib.hid (List.take_succ_eq_append_getElem hlt)
   obtain ⟨f, hf⟩ : ∃ f, f = L[j] := ⟨_, rfl⟩
   rw [← hf] at d0 HT
   obtain ⟨W5, hW5⟩ : ∃ W, W = wr.alloc (.cells #[.string f.name] 9) := ⟨_, rfl⟩
   have k5 : Kp No wr W5 := by rw [hW5]; exact (Kp.refl _ _).alloc _
   have b5 : W5.heap[wr.heap.size]? = some (.cells #[.string f.name] 9 (0, 0)) := by rw [hW5]; exact heap_alloc_new wr _
   obtain ⟨a6, c6, W6, hrun, hm, _⟩ := (HR.out.keep k5).app Tryz.underlying70 infoStr nameCell_one [f] (one_src (f := nameCell) (x := f) (fun _ => rfl) b5 rfl) rfl (by unfold maxLen; omega) (by omega)
   rw [← HT.out] at hm
   rw [hW5] at hrun
   have HX6 := Lib.hid hrun
   have HM6 := Lib.hid hm
   clear l0 hf k5 b5 hrun hm hW5
   go_wp2_with (at_builtin; refine wpList_append_run rfl rfl rfl rfl HX6.out ?_)
   go_roundw
   case rel => exact ⟨j + 1, a6, c6, by omega, by go_num, rfl, HM6⟩
   case measure => simp [intOf]; omega
  ·obtain rfl : j = L.length := by omega
   have hm := HR.out
   rw [List.take_length] at hm
   have HM := Lib.hid hm
   clear hm hlt
   go_wp2_with fail
   go_ret
   refine ⟨L.map (·.name), ao, co, by simp, List.pairwise_map.2 (show L.Pairwise fun a b => NLt a.name b.name from HS.out), ?_, ?_, HM.out.2.2.2⟩
   ·have := HP.out.map (·.1)
    rwa [keys_absR] at this
   ·have := HM.out.2.1.rd'
    rwa [nameCells] at this
end Go.Proofs.YtdibkdgafidjgaaGreatDoor
namespace Go.Mer
open Go
section
variable {P : Program} {ops : Array Oper} {Q : Exit → Act → World → Prop} {S : World → Prop} {ks : List Nat} {z : Nat}
def anyF (P : Program) (ops : Array Oper) (z : Nat) (Q : Exit → Act → World → Prop) : Nat → Array Bool → Act → World → Prop
 | 0, _, _, _ => False
 | fuel + 1, listed, a, w =>
  Region.ready .any ops listed ≠ [] ∧
  ∀ i ∈ Region.ready .any ops listed, ∀ o, ops[i]? = some o →
   if i = z then ∀ n, wpOp P ops Q i (wpAny P .any ops Q fuel (listed.setIfInBounds i true)) a (w.drewN n)
   else ∃ v, YieldsIn P ops (Dr w) o v a ∧ anyF P ops z Q fuel (listed.setIfInBounds i true) (a.put o.dst v) w
theorem wpAny_of_anyF : ∀ (fuel : Nat) (listed : Array Bool) (a : Act) (w : World) (n : Nat), anyF P ops z Q fuel listed a w → wpAny P .any ops Q fuel listed a (w.drewN n)
 | 0, _, _, _, _, h => h.elim
 | fuel + 1, listed, a, w, n, h => by
  refine ⟨fun h0 => absurd h0 h.1, fun i hi => ?_⟩
  obtain ⟨_, o, ho, _⟩ := mem_ready.1 hi
  have h2 := h.2 i hi o ho
  split at h2
  ·exact h2 n
  ·obtain ⟨v, hy, hk⟩ := h2
   exact wpOp_of_qOp (C := Dr w) (K := fun a => anyF P ops z Q fuel (listed.setIfInBounds i true) a w) ⟨n, rfl⟩ (fun a' w' ⟨m, hw'⟩ hh => by subst hw'; exact wpAny_of_anyF fuel _ a' w m hh) (hy.qOp ho hk)
theorem anyF_held {w : World} {i : Nat} {oi : Oper} {v : Value} {dep : Array Bool} (hz : dep.getD z false = true) (hi : ops[i]? = some oi) (hiz : i ≠ z) (hsel : ∀ (j : Nat) (o : Oper) cs b, ops[j]? = some o → o.op ≠ .select cs b) :
  ∀ (fuel : Nat) (listed : Array Bool) (a : Act),
   (∀ j oj, ops[j]? = some oj → j ≠ i → listed.getD j true = false → (∀ e ∈ oj.after, Region.binds .any e = true → e.on ≠ i) → oi.apart ops oj = true) →
   (∀ j, dep.getD j false = true → j ≠ i ∧ listed.getD j true = false ∧ ∃ o, ops[j]? = some o ∧ ∃ e ∈ o.after, Region.binds .any e = true ∧ (e.on = i ∨ dep.getD e.on false = true)) →
   i ∈ Region.ready .any ops listed → YieldsIn P ops (Dr w) oi v a →
   anyF P ops z Q fuel (listed.setIfInBounds i true) (a.put oi.dst v) w → anyF P ops z Q (fuel + 1) listed a w := by
 intro fuel
 induction fuel with
 | zero => exact fun _ _ _ _ _ _ H => H.elim
 | succ fuel ih =>
  intro listed a hfree hdep hr hy H
  refine ⟨fun h => (by rw [h] at hr; cases hr), fun j hj o ho => ?_⟩
  by_cases hji : j = i
  ·subst hji
   rw [hi] at ho; injection ho with ho; subst ho
   rw [if_neg hiz]
   exact ⟨v, hy, H⟩
  ·have h1 := H.2 j (ready_mono hj hji) o ho
   obtain ⟨hjun, oj, hoj, hall⟩ := mem_ready.1 hj
   rw [ho] at hoj; injection hoj with hoj; subst hoj
   have unl : ∀ k, listed.getD k true = false → listed.getD k false = true → False := fun k h0 h1 => by
    rcases Nat.lt_or_ge k listed.size with h' | h'
    ·simp [h'] at h0 h1; rw [h0] at h1; cases h1
    ·simp [Array.getElem?_eq_none h'] at h1
   have hnot : ∀ e ∈ o.after, Region.binds .any e = true → e.on ≠ i := fun e he hb heq => unl i (mem_ready.1 hr).1 (heq ▸ hall e he hb)
   have hnd : dep.getD j false = false := by
    cases hd : dep.getD j false with
    | false => rfl
    | true =>
     obtain ⟨_, _, o', ho', e, he, hb, h⟩ := hdep j hd
     rw [ho] at ho'; injection ho' with ho'; subst ho'
     rcases h with h | h
     ·exact absurd h (hnot e he hb)
     ·exact (unl e.on (hdep e.on h).2.1 (hall e he hb)).elim
   have hjz : j ≠ z := fun e => by
    subst e
    rw [hz] at hnd
    cases hnd
   have hdep' : ∀ k, dep.getD k false = true → k ≠ i ∧ (listed.setIfInBounds j true).getD k true = false ∧ ∃ o, ops[k]? = some o ∧ ∃ e ∈ o.after, Region.binds .any e = true ∧ (e.on = i ∨ dep.getD e.on false = true) := fun k hk => by
    obtain ⟨k1, k2, k3⟩ := hdep k hk
    refine ⟨k1, ?_, k3⟩
    rw [getD_set_ne true (fun e => by subst e; rw [hnd] at hk; cases hk)]
    exact k2
   have hap := hfree j o ho hji hjun hnot
   have hfree' : ∀ k ok, ops[k]? = some ok → k ≠ i → (listed.setIfInBounds j true).getD k true = false →
     (∀ e ∈ ok.after, Region.binds .any e = true → e.on ≠ i) → oi.apart ops ok = true := fun k ok hk hki hun hno => by
    refine hfree k ok hk hki ?_ hno
    by_cases hjk : j = k
    ·subst hjk; exact hjun
    ·rw [getD_set_ne true hjk] at hun; exact hun
   have hcm : (listed.setIfInBounds i true).setIfInBounds j true = (listed.setIfInBounds j true).setIfInBounds i true := Array.setIfInBounds_comm _ _ (fun e => hji e.symm)
   rw [if_neg hjz] at h1 ⊢
   obtain ⟨u, hu, hK⟩ := h1
   obtain ⟨a1, a2, a3⟩ := Oper.apart_spec hap
   refine ⟨u, hu.of_same (execOp_put o (fun cs b => hsel j o cs b ho) a oi.dst v a1).symm (wanted_put o a oi.dst v a1).symm, ?_⟩
   refine ih (listed.setIfInBounds j true) _ hfree' hdep' (ready_mono hr (Ne.symm hji))
    (hy.of_same (execOp_put oi (fun cs b => hsel i oi cs b hi) a o.dst u a3) (wanted_put oi a o.dst u a3)) ?_
   rw [← hcm, ← Act.put_comm a v u a2]
   exact hK
def upto (Q : Exit → Act → World → Prop) (K : Act → World → Prop) : Exit → Act → World → Prop
 | .normal, a, w => K a w
 | e, a, w => Q e a w
def wpSeq (P : Program) (ops : Array Oper) (Q : Exit → Act → World → Prop) : List Nat → Act → World → Prop
 | [], a, w => Q .normal a w
 | i :: r, a, w => ∃ o, ops[i]? = some o ∧ wpList P ops (upto Q (wpSeq P ops Q r)) [o] a w
theorem wpSeq_step {i : Nat} {o : Oper} {r : List Nat} {a : Act} {w : World} (ho : ops[i]? = some o) (h : wpList P ops (upto Q (wpSeq P ops Q r)) [o] a w) : wpSeq P ops Q (i :: r) a w := ⟨o, ho, h⟩
theorem upto_out {K : Act → World → Prop} (h : LetsOut (upto Q K)) : LetsOut Q := h
theorem wp_upto {o : Oper} {a : Act} {w : World} {K : Act → World → Prop} (h : o.wp P a w K (upto Q K)) : o.wp P a w K Q := by
 unfold Oper.wp at *
 generalize (execOp a.eval o).run P w = r at *
 cases r with
 | ok n w' =>
  cases n <;> simp only [Oper.upon] at h ⊢
  case value => exact h
  case skip => exact h
  case defer => exact h
  case row => exact h
  case enter f args =>
   refine Calls.mono h fun e w'' he => ?_
   cases e with
   | returned v => exact he
   | panicked c => exact he
   | outgrown => exact he
 | halt x w' => cases x <;> simp only [Oper.upon] at h ⊢ <;> exact h
theorem wpOp_of_list {i : Nat} {o : Oper} {a : Act} {w : World} {K : Act → World → Prop} (ho : ops[i]? = some o) (h : wpList P ops (upto Q K) [o] a w) : wpOp P ops Q i K a w := by
 unfold wpOp
 simp only [ho]
 unfold wpList at h
 split
 ·rename_i hw
  rw [if_pos hw] at h
  refine h.imp (fun h => wp_upto ?_) (fun h => ⟨h.1, upto_out h.2⟩)
  exact h
 ·rename_i hw
  rw [if_neg hw] at h
  exact h
def tailOk (ops : Array Oper) : List Nat → Array Bool → Bool
 | [], listed => (Region.ready .any ops listed).isEmpty
 | t :: r, listed => Region.ready .any ops listed == [t] && tailOk ops r (listed.setIfInBounds t true)
theorem wpAny_of_seq : ∀ (r : List Nat) (listed : Array Bool) (a : Act) (w : World), tailOk ops r listed = true → wpSeq P ops Q r a w → wpAny P .any ops Q r.length listed a w
 | [], listed, a, w, hB, h => by
  simp only [tailOk, List.isEmpty_iff] at hB
  exact ⟨hB, h⟩
 | t :: r, listed, a, w, hB, h => by
  simp only [tailOk, Bool.and_eq_true, beq_iff_eq] at hB
  obtain ⟨o, ho, h⟩ := h
  refine ⟨fun h0 => (by rw [h0] at hB; cases hB.1), fun i hi => ?_⟩
  rw [hB.1, List.mem_singleton] at hi
  subst hi
  exact wpOp_mono (fun a w hh => wpAny_of_seq r _ a w hB.2 hh) (wpOp_of_list ho h)
def ordFin (ops : Array Oper) (ks : List Nat) (z : Nat) (tail : List Nat) : List Nat → Array Bool → Bool
 | [], listed => tailOk ops (z :: tail) listed
 | i :: rest, listed =>
  (Region.ready .any ops listed).contains i && Region.free .any ops listed i && i != z && decide (ks.getD i 2 < 2) &&
  (Region.ready .any ops listed == [i] || depsHold ops listed (depsOn ops i) i z) &&
  ordFin ops ks z tail rest (listed.setIfInBounds i true)
def finOk (ops : Array Oper) (ks : List Nat) (z : Nat) (tail pre : List Nat) : Bool := Region.noSelect ops && pre.length + 1 + tail.length == ops.size && ordFin ops ks z tail pre (Array.replicate ops.size false)
abbrev finQ (P : Program) (ops : Array Oper) (Q : Exit → Act → World → Prop) (z : Nat) (tail : List Nat) : Exit → Act → World → Prop := onward fun a w => wpSeq P ops Q (z :: tail) a w
theorem anyF_of_pre (hSd : ∀ w n, S w → S (w.drewN n)) (hs : Region.noSelect ops = true) (tail : List Nat) : ∀ (pre : List Nat) (listed : Array Bool) (a : Act) (w : World), S w →
  ordFin ops ks z tail pre listed = true → wpOrd P ops ks S (finQ P ops Q z tail) pre a w → anyF P ops z Q (pre.length + 1 + tail.length) listed a w
 | [], listed, a, w, _, hB, h => by
  simp only [ordFin, tailOk, Bool.and_eq_true, beq_iff_eq] at hB
  have e : ([] : List Nat).length + 1 + tail.length = tail.length + 1 := by simp; omega
  rw [e]
  refine ⟨fun h0 => (by rw [h0] at hB; cases hB.1), fun j hj oj hoj => ?_⟩
  rw [hB.1, List.mem_singleton] at hj
  subst hj
  rw [if_pos rfl]
  intro n
  obtain ⟨o, ho, h⟩ := h n
  exact wpOp_mono (fun a w hh => wpAny_of_seq tail _ a w hB.2 hh) (wpOp_of_list ho h)
 | i :: rest, listed, a, w, hS, hB, h => by
  obtain ⟨o, ho, h⟩ := h
  simp only [ordFin, Bool.and_eq_true, bne_iff_ne, decide_eq_true_iff] at hB
  obtain ⟨⟨⟨⟨⟨hr, hf⟩, hiz⟩, hk2⟩, hk⟩, hB'⟩ := hB
  have hready : i ∈ Region.ready .any ops listed := by simpa using hr
  have hy : ∃ v, YieldsIn P ops (Dr w) o v a ∧ wpOrd P ops ks S (finQ P ops Q z tail) rest (a.put o.dst v) w := by
   have hko : ks.getD i 2 = 0 ∨ ks.getD i 2 = 1 := by omega
   rcases hko with hko | hko
   ·rw [hko] at h
    obtain ⟨v, hy, hK⟩ := h
    exact ⟨v, yieldsIn_of_if (fun n => hSd w n hS) hy, hK⟩
   ·rw [hko] at h
    exact h
  obtain ⟨v, hy, hK⟩ := hy
  have e : (i :: rest).length + 1 + tail.length = (rest.length + 1 + tail.length) + 1 := by simp; omega
  rw [e]
  have IH := anyF_of_pre hSd hs tail rest _ _ _ hS hB' hK
  simp only [Bool.or_eq_true, beq_iff_eq] at hk
  rcases hk with hk | hk
  ·refine ⟨fun h0 => (by rw [h0] at hk; cases hk), fun j hj oj hoj => ?_⟩
   rw [hk, List.mem_singleton] at hj
   subst hj
   rw [ho] at hoj; injection hoj with hoj; subst hoj
   rw [if_neg hiz]
   exact ⟨v, hy, IH⟩
  ·exact anyF_held (depsHold_spec hk).1 ho hiz (Region.noSelect_spec hs) _ listed a (Region.free_spec ho hf) (depsHold_spec hk).2 hready hy IH
theorem wp_region_fin {id : Nat} {a : Act} {w : World} {l : List Oper} (S : World → Prop) (ks pre : List Nat) (z : Nat) (tail : List Nat) (hm : P.follows .mixedOrders = true) (hB : finOk l.toArray ks z tail pre = true)
  (hSd : ∀ w n, S w → S (w.drewN n)) (hS : S w) (h : wpOrd P l.toArray ks S (finQ P l.toArray Q z tail) pre a w) : (Code.region id l.toArray true).wp P Q a w := by
 simp only [finOk, Bool.and_eq_true, beq_iff_eq] at hB
 refine wp_region_any hm ?_
 have := wpAny_of_anyF _ (Array.replicate l.toArray.size false) a w 1 (anyF_of_pre hSd hB.1.1 tail pre _ a _ hS hB.2 h)
 rw [hB.1.2] at this
 exact this
theorem upto_done {a : Act} {w : World} (h : Q .normal a w) : upto Q (wpSeq P ops Q []) .normal a w := h
theorem fin_now {tail : List Nat} {a : Act} {w : World} (h : ∀ n, wpSeq P ops Q (z :: tail) a (w.drewN n)) : wpOrd P ops ks S (finQ P ops Q z tail) [] a w := h
end
end Go.Mer

