/-
  Texts laid together: RWalk, RSync, RRead, XSync.
-/
import Derived.Test.YtgnkmjeoaoongaaGreatDoorSb4
import Derived.Test.YtgnkmjeoaoongaaGreatDoorSa5
import Derived.Test.YtgnkmjeoaoongaaGreatDoorSb2
import Derived.Deep.CutRange
import Derived.Test.YtgnkmjeoaoongaaGreatDoorSb3
namespace Go.Proofs.YtgnkmjeoaoongaaGreatDoor
open Go.RowKit Go.Mer
structure RRun (w W : World) (r room : Nat) (left : Int) (rv : Value) (L : List RFile) (G : Nat → Prop) : Prop where
 c : RC W r room left rv L
 foot : ∀ k, RFP r rv L k → G k ∨ w.heap.size ≤ k
 kp : Kp G w W
section
variable {w W W' : World} {r room : Nat} {left left' : Int} {rv rv' : Value} {L L' L1 L2 : List RFile} {G : Nat → Prop} {f f' : RFile}
theorem RRun.step {S : Nat → Prop} (h : RRun w W r room left rv L G) (hk : Kp S W W') (hS : ∀ k, S k → RFP r rv L k ∨ W.heap.size ≤ k) (hc : RC W' r room left' rv' L') (hf : ∀ k, RFP r rv' L' k → RFP r rv L k ∨ W.heap.size ≤ k) : RRun w W' r room left' rv' L' G := by
 have hsz := h.kp.size
 refine ⟨hc, fun k hk' => ?_, h.kp.trans hk fun i hi hs => ?_⟩
 ·rcases hf k hk' with h1 | h1
  ·exact h.foot k h1
  ·exact .inr (Nat.le_trans hsz h1)
 ·rcases hS i hs with h1 | h1
  ·rcases h.foot i h1 with h2 | h2
   ·exact h2
   ·omega
  ·omega
theorem RRun.step2 {S : Nat → Prop} (h : RRun w W r room left rv L G) (hk : Kp S W W') (hS : ∀ k, S k → RFP r rv L k ∨ W.heap.size ≤ k) (hc : RC W' r room left' rv' L') (hf : ∀ k, RFP r rv' L' k → G k ∨ w.heap.size ≤ k) : RRun w W' r room left' rv' L' G := by
 have hsz := h.kp.size
 refine ⟨hc, hf, h.kp.trans hk fun i hi hs => ?_⟩
 rcases hS i hs with h1 | h1
 ·rcases h.foot i h1 with h2 | h2
  ·exact h2
  ·omega
 ·omega
theorem RRun.no (h : RRun w W r room left rv L G) (hk : Kp No W W') : RRun w W' r room left rv L G := h.step hk (fun _ x => x.elim) (h.c.keep_no hk) (fun _ x => .inl x)
theorem RRun.start {s : DSt} (h : RAt w r s G) : ∃ rv L, RRun w w r s.room (leftOf s.fuse) rv L G ∧ (absR L).Perm s.files ∧ ∀ k, G k → k < w.heap.size := by
 obtain ⟨rv, L, h1, h2, h3, h4⟩ := h
 exact ⟨rv, L, ⟨h1, fun k hk => .inl (h3 k hk), Kp.refl _ _⟩, h2, h4⟩
theorem RRun.stop {q : Int} {s : DSt} (h : RRun w W r s.room (leftOf s.fuse) rv L G) (hp : (absR L).Perm s.files) : SaidR w r G (q, s) (.returned (.int .i64 q)) W :=
 ⟨rfl, RFP r rv L, ⟨rv, L, h.c, hp, fun _ x => x, h.c.lt⟩, h.foot, h.kp⟩
theorem RRun.turn (h : RRun w W r room left rv (L1 ++ f :: L2) G) (hn : f'.name = f.name) (hk : Kp (fun k => rv.ownBlock = some k) W W') (hrow : Own W' 170 3 rv (L1 ++ f' :: L2).length ((L1 ++ f' :: L2).flatMap RFile.cells)) (hok : RFileOk W' f')
  (hfo : ∀ g, f'.val.ownBlock = some g → f.val.ownBlock = some g ∨ W.heap.size ≤ g) (hfit : totF (absR (L1 ++ f' :: L2)) ≤ room) : RRun w W' r room left rv (L1 ++ f' :: L2) G := by
 have hc := h.c
 have hlen : (L1 ++ f' :: L2).length = (L1 ++ f :: L2).length := by simp
 have hother : ∀ g, g ∈ L1 ∨ g ∈ L2 → RFileOk W' g := fun g hg => by
  have hg' : g ∈ L1 ++ f :: L2 := by rcases hg with hg | hg <;> simp [hg]
  exact (hc.files g hg').keep hk fun k hk1 hk2 => (hc.data_ne hg' hk1).2 hk2
 refine h.step hk (fun k hk' => .inl (.inr (.inl hk'))) ⟨hk.get hc.cell fun hr => hc.row_ne hr rfl, hrow, fun g hg => ?_, sorted_turn hc.sorted hn, hfit, hc.roomy, by rw [hlen]; exact hc.few, hc.left0, hc.leftM⟩ fun k hk' => ?_
 ·rcases List.mem_append.1 hg with hg | hg
  ·exact hother g (.inl hg)
  ·rcases List.mem_cons.1 hg with rfl | hg
   ·exact hok
   ·exact hother g (.inr hg)
 ·rcases hk' with hk' | hk' | ⟨g, hg, hk'⟩
  ·exact .inl (.inl hk')
  ·exact .inl (.inr (.inl hk'))
  ·rcases List.mem_append.1 hg with hg | hg
   ·exact .inl (.inr (.inr ⟨g, by simp [hg], hk'⟩))
   ·rcases List.mem_cons.1 hg with rfl | hg
    ·rcases hfo k hk' with h1 | h1
     ·exact .inl (.inr (.inr ⟨f, by simp, h1⟩))
     ·exact .inr h1
    ·exact .inl (.inr (.inr ⟨g, by simp [hg], hk'⟩))
theorem RRun.row (h : RRun w W r room left rv L G) (hk : Kp (One r) W W') (hcell : W'.heap[r]? = some (.cells #[.int .i64 (room : Int), rv', .int .i64 left] 167 (0, 0))) (hrow : Own W' 170 3 rv' L'.length (L'.flatMap RFile.cells))
  (hfresh : ∀ g, rv'.ownBlock = some g → RFP r rv L g ∨ W.heap.size ≤ g) (hfiles : ∀ f ∈ L', f ∈ L ∨ (RFileOk W' f ∧ ∀ g, f.val.ownBlock = some g → G g ∨ w.heap.size ≤ g)) (hs : SortedR L') (hfit : totF (absR L') ≤ room) (hfew : L'.length ≤ 4096) :
  RRun w W' r room left rv' L' G := by
 have hc := h.c
 refine h.step2 hk (fun k (e : k = r) => .inl (.inl e)) ⟨hcell, hrow, fun g hg => ?_, hs, hfit, hc.roomy, hfew, hc.left0, hc.leftM⟩ fun k hk' => ?_
 ·rcases hfiles g hg with h1 | ⟨h1, _⟩
  ·exact (hc.files g h1).keep hk fun k hk1 (e : k = r) => (hc.data_ne h1 hk1).1 e
  ·exact h1
 ·rcases hk' with hk' | hk' | ⟨g, hg, hk'⟩
  ·exact h.foot k (.inl hk')
  ·rcases hfresh k hk' with h1 | h1
   ·exact h.foot k h1
   ·exact .inr (Nat.le_trans h.kp.size h1)
  ·rcases hfiles g hg with h1 | ⟨_, h1⟩
   ·exact h.foot k (.inr (.inr ⟨g, h1, hk'⟩))
   ·exact h1 k hk'
theorem absR_append (L1 L2 : List RFile) : absR (L1 ++ L2) = absR L1 ++ absR L2 := by simp [absR]
theorem absR_cons (f : RFile) (L : List RFile) : absR (f :: L) = (f.name, ⟨f.data, f.lasts⟩) :: absR L := rfl
theorem totF_mid (L1 : List RFile) (f : RFile) (L2 : List RFile) : totF (absR (L1 ++ f :: L2)) = totF (absR (L1 ++ L2)) + f.data.length := by
 rw [absR_append, absR_cons, totF_append, totF_cons, absR_append, totF_append]
 simp only
 omega
end
section
variable {w V W : World} {r room n rcap g off : Nat} {left : Int} {rv : Value} {L1 L2 : List RFile} {G : Nat → Prop} {f f' : RFile}
structure RCells (W : World) (r g off n rcap : Nat) (i : Nat) (f : RFile) : Prop where
 c1 : W.cell? ⟨r, 1, none⟩ = some (.slice (some ⟨g, off, none⟩) n rcap)
 d0 : W.cell? ⟨g, off + i * 3, none⟩ = some (.string f.name)
 d1 : W.cell? ⟨g, off + i * 3 + 1, none⟩ = some (.slice f.a f.data.length f.cap)
 d2 : W.cell? ⟨g, off + i * 3 + 2, none⟩ = some (.int .i64 (f.lasts : Int))
 fr : ∀ o, W.frozen? ⟨r, o, none⟩ = false
 fg : ∀ o, W.frozen? ⟨g, o, none⟩ = false
 rl : r < W.heap.size
 gl : g < W.heap.size
theorem RC.at_ (h : RC V r room left rv (L1 ++ f :: L2)) : ∃ g off rcap n, n = (L1 ++ f :: L2).length ∧ L1.length < n ∧ n ≤ rcap ∧ g ≠ r ∧ rv = .slice (some ⟨g, off, none⟩) n rcap ∧ ∀ W, Kp No V W → RCells W r g off n rcap L1.length f := by
 obtain ⟨ra, rcap, rfl, hrc, hrd⟩ := h.row.rd
 obtain ⟨g, off, rfl, hgl, _⟩ := h.row.place (by simp; omega)
 have hlt : L1.length < (L1 ++ f :: L2).length := by simp
 have hget : (L1 ++ f :: L2)[L1.length] = f := by simp
 obtain ⟨g', off', hg', hc⟩ := rd_chunk (f := RFile.cells) (c := 3) RFile.cells_len (by decide) hrd hlt
 injection hg' with hg'
 injection hg' with e1 e2
 subst e1; subst e2
 rw [hget] at hc
 refine ⟨g, off, rcap, _, rfl, hlt, hrc, h.row_ne rfl, rfl, fun W hW => ?_⟩
 have hC := h.keep_no hW
 obtain ⟨_, _, hgg, hgl2, hfz⟩ := hC.row.place (by simp; omega)
 injection hgg with hgg
 injection hgg with e1 _
 subst e1
 refine ⟨by rw [cell_at hC.cell]; rfl, ?_, hc W hW 1 _ rfl, hc W hW 2 _ rfl, fun o => free_at hC.cell o, hfz, get_lt hC.cell, hgl2⟩
 have := hc W hW 0 _ rfl
 rwa [Nat.add_zero] at this
end
theorem RRun.laid {w V w9 : World} {r room N c9 : Nat} {left : Int} {rv : Value} {a9 : Option Addr} {L Q : List RFile} {G : Nat → Prop} (h : RRun w V r room left rv L G) (hm : RowRel 170 3 RFile.cells V w9 (.slice a9 N c9) N Q)
  (hfiles : ∀ f ∈ Q, f ∈ L ∨ (RFileOk w9 f ∧ ∀ g, f.val.ownBlock = some g → G g ∨ w.heap.size ≤ g)) (hs : SortedR Q) (hfit : totF (absR Q) ≤ room) (hfew : Q.length ≤ 4096) :
  RRun w (w9.setCell ⟨r, 1, none⟩ (.slice a9 N c9)) r room left (.slice a9 N c9) Q G ∧ w9.cell? ⟨r, 1, none⟩ = some rv ∧ w9.frozen? ⟨r, 1, none⟩ = false ∧ r < w9.heap.size := by
 have hk9 := hm.2.2.2
 have hc9 := (h.c.keep_no hk9).cell
 have hs9 : Kp (One r) w9 (w9.setCell ⟨r, 1, none⟩ (.slice a9 N c9)) := (Kp.refl (One r) _).setCell (p := ⟨r, 1, none⟩) (.inl rfl) _
 have hrl : r < V.heap.size := get_lt h.c.cell
 refine ⟨h.row ((Kp.of_no hk9).trans_same hs9) ?_ ?_ (fun g hg => .inr (hm.2.2.1 g hg)) (fun f hf => ?_) hs hfit hfew, ?_, free_at hc9 _, get_lt hc9⟩
 ·have := set_at hc9 1 (.slice a9 N c9)
  simpa using this
 ·have h1 := hm.2.1.keep hs9 fun g hg (e : g = r) => by have := hm.2.2.1 g hg; omega
  have e := hm.1
  rw [e] at h1 ⊢
  exact h1
 ·rcases hfiles f hf with h1 | ⟨h1, h2⟩
  ·exact .inl h1
  ·refine .inr ⟨h1.keep hs9 fun g hg (e : g = r) => ?_, h2⟩
   obtain ⟨cur, hcur⟩ := h1.1.type g hg
   exact ne_of_type hcur hc9 (by decide) e
 ·rw [cell_at hc9]
  rfl
end Go.Proofs.YtgnkmjeoaoongaaGreatDoor
namespace Go.Proofs.YtgnkmjeoaoongaaGreatDoor
open Go.RowKit Go.Mer
end Go.Proofs.YtgnkmjeoaoongaaGreatDoor
namespace Go.Proofs.YtgnkmjeoaoongaaGreatDoor
open Go.RowKit Go.Mer
def RReadPost (w : World) (s : DSt) (name : ByteArray) (e : Ending) (w' : World) : Prop :=
 ∃ v, e = .returned (.tuple #[v, .int .i64 (rdS s.files name).2]) ∧ Own w' 5 1 v (rdS s.files name).1.length (u8s (rdS s.files name).1) ∧ Kp No w w' ∧ (∀ g, v.ownBlock = some g → w.heap.size ≤ g)
set_option maxRecDepth 100000 in
set_option maxHeartbeats 1000000 in
theorem rRead_any (w : World) (r : Nat) (s : DSt) (G : Nat → Prop) (h : RAt w r s G) (name : ByteArray) :
  Calls Tryz.prog 167 #[.pointer (some ⟨r, 0, none⟩), .string name] w (RReadPost w s name) := by
 obtain ⟨rv, L, hR, hp, hGl⟩ := RRun.start h
 have HR := Lib.hid hR
 have HP := Lib.hid hp
 have hs := rspot_any w r s.room (leftOf s.fuse) rv L hR.c name
 have HSP := Lib.hid hs
 clear hs hR hp hGl h
 go_enter Tryz.func167, Tryz.ntmps167
 go_wp2_with fail
 refine HSP.out.mono ?_
 rintro e w3 ⟨i, b, rfl, hsp, hk3⟩
 have HR3 := Lib.hid (HR.out.c.keep_no hk3)
 have HK3 := Lib.hid hk3
 clear hk3 HSP
 cases hsp with
 | no L1 L2 hL h1 h2 =>
  have HE := Lib.hid (show rdS s.files name = ([], 7) by
   unfold rdS
   rw [← gget_perm HP.out HR3.out.sorted.keys, hL, get_no h1 h2])
  clear hL h1 h2
  go_wp2_with fail
  go_ret2
  unfold RReadPost
  rw [HE.out]
  exact ⟨.slice none 0 0, rfl, Own.nil _ _ _, HK3.out, fun g hg => by cases hg⟩
 | is L1 f L2 hL hk =>
  subst hL
  have HE := Lib.hid (show rdS s.files name = (f.data, 0) by
   unfold rdS
   rw [← gget_perm HP.out HR3.out.sorted.keys, ← hk, get_is HR3.out.sorted rfl])
  obtain ⟨g, off, rcap, n, hn, hlt, hcap, hgr, rfl, hcells⟩ := HR3.out.at_
  obtain ⟨i, hi⟩ : ∃ i, i = L1.length := ⟨_, rfl⟩
  rw [← hi] at hlt ⊢
  obtain ⟨c1, d0, d1, d2, fr, fg, rl, gl⟩ := hcells w3 (Kp.refl _ _)
  rw [← hi] at d0 d1 d2
  have HF := Lib.hid (HR3.out.files f (by simp))
  have hmm : f.data.length ≤ 1073741824 := by
   have h1 := HR3.out.fits
   have h2 := HR3.out.roomy
   rw [totF_mid] at h1
   omega
  obtain ⟨a7, c7, W7, hrun, ho7, hk7, hb7⟩ := cpy_bytes w3 f.data f.a f.cap HF.out.1.rd' (by omega)
  have HX7 := Lib.hid hrun
  have HO7 := Lib.hid ho7
  have HK7 := Lib.hid hk7
  have HB7 := Lib.hid hb7
  clear hn hi hcells hk hrun ho7 hk7 hb7
  go_wp2_with (at_builtin; refine wpList_append_run rfl rfl rfl rfl HX7.out ?_)
  go_ret2
  unfold RReadPost
  rw [HE.out]
  exact ⟨_, rfl, HO7.out, HK3.out.trans_same HK7.out, fun g hg => Nat.le_trans HK3.out.size (HB7.out g hg)⟩
theorem infoStr : (Tryz.prog.info? 9).map (fun i => ((i.zero.map fun z => z.cells.size), i.size, i.bytes)) = some (some 1, 1, 16) := by kernel_rfl
def nameCell (f : RFile) : List Value := [.string f.name]
theorem nameCell_one (f : RFile) : ∀ u ∈ nameCell f, u.oneCell' = true := by
 intro u hu
 simp only [nameCell, List.mem_cons, List.not_mem_nil, or_false] at hu
 subst hu
 rfl
theorem nameCells (L : List RFile) : L.flatMap nameCell = (L.map (·.name)).map Value.string := by
 induction L with
 | nil => rfl
 | cons f L ih => rw [List.flatMap_cons, ih]; rfl
def RNamesPost (w : World) (s : DSt) (e : Ending) (w' : World) : Prop :=
 ∃ (N : List ByteArray) (a : Option Addr) (c : Nat), e = .returned (.slice a N.length c) ∧ N.Pairwise NLt ∧ N.Perm (s.files.map (·.1)) ∧ Rd w' w'.heap.size a (N.map Value.string) ∧ Kp No w w'
set_option maxRecDepth 100000 in
set_option maxHeartbeats 1000000 in
theorem rNames_any (w : World) (r : Nat) (s : DSt) (G : Nat → Prop) (h : RAt w r s G) :
  Calls Tryz.prog 171 #[.pointer (some ⟨r, 0, none⟩)] w (RNamesPost w s) := by
 obtain ⟨rv, L, hR, hp, hGl⟩ := RRun.start h
 obtain ⟨ra, rcap, hrv, hrc, hrd⟩ := hR.c.row.rd
 have HC1 := Lib.hid (show ∀ W, Kp No w W → W.cell? ⟨r, 1, none⟩ = some (.slice ra L.length rcap) ∧ r < W.heap.size from fun W hW => ⟨by rw [cell_at (hW.get hR.c.cell fun x => x), hrv]; rfl, get_lt (hW.get hR.c.cell fun x => x)⟩)
 have HRD := Lib.hid hrd
 have HP := Lib.hid hp
 have HS := Lib.hid hR.c.sorted
 have hfew := hR.c.few
 clear hR hp hGl h hrd hrv
 go_enter Tryz.func171, Tryz.ntmps171
 go_wp2_with fail
 rename World => w0
 go_loopw [3, 4] (fun s i wr => ∃ (j : Nat) (a : Option Addr) (c : Nat), j ≤ L.length ∧ i = .int .i64 (j : Int) ∧ s = .slice a j c ∧ Hid (RowRel 9 1 nameCell w0 wr (.slice a j c) j (L.take j))) (fun _ i _ => L.length - (intOf i).toNat)
 case atStart => exact ⟨0, none, 0, Nat.zero_le _, rfl, rfl, Lib.hid (by simpa using RowRel.nil 9 1 nameCell w0)⟩
 case round =>
  obtain ⟨j, ao, co, hj, rfl, rfl, HR⟩ := hrel
  have HKP := Lib.hid HR.out.2.2.2
  obtain ⟨c1, hrl⟩ := HC1.out _ HKP.out
  by_cases hlt : j < L.length
  ·obtain ⟨g, off, rfl, l0⟩ := rd_chunk (f := RFile.cells) (c := 3) RFile.cells_len (by decide) HRD.out hlt
   have d0 := l0 _ HKP.out 0 _ rfl
   rw [Nat.add_zero] at d0
   have hgl : g < wr.heap.size := World.block_lt_of_cell? wr _ d0
   have HT := Lib.hid (List.take_succ_eq_append_getElem hlt)
   obtain ⟨f, hf⟩ : ∃ f, f = L[j] := ⟨_, rfl⟩
   rw [← hf] at d0 HT
   obtain ⟨W5, hW5⟩ : ∃ W, W = wr.alloc (.cells #[.string f.name] 9) := ⟨_, rfl⟩
   have k5 : Kp No wr W5 := by rw [hW5]; exact (Kp.refl _ _).alloc _
   have b5 : W5.heap[wr.heap.size]? = some (.cells #[.string f.name] 9 (0, 0)) := by rw [hW5]; exact heap_alloc_new wr _
   obtain ⟨a6, c6, W6, hrun, hm, _⟩ := (HR.out.keep k5).app Tryz.underlying49 infoStr nameCell_one [f] (one_src (f := nameCell) (x := f) (fun _ => rfl) b5 rfl) rfl (by unfold maxLen; omega) (by omega)
   rw [← HT.out] at hm
   rw [hW5] at hrun
   have HX6 := Lib.hid hrun
   have HM6 := Lib.hid hm
   clear l0 hf k5 b5 hrun hm hW5
   go_wp2_with (at_builtin; refine wpList_append_run rfl rfl rfl rfl HX6.out ?_)
   go_roundw
   case rel => exact ⟨j + 1, a6, c6, by omega, by go_num, rfl, HM6⟩
   case measure => simp [intOf]; omega
  ·obtain rfl : j = L.length := by omega
   have hm := HR.out
   rw [List.take_length] at hm
   have HM := Lib.hid hm
   clear hm hlt
   go_wp2_with fail
   go_ret
   refine ⟨L.map (·.name), ao, co, by simp, List.pairwise_map.2 (show L.Pairwise fun a b => NLt a.name b.name from HS.out), ?_, ?_, HM.out.2.2.2⟩
   ·have := HP.out.map (·.1)
    rwa [keys_absR] at this
   ·have := HM.out.2.1.rd'
    rwa [nameCells] at this
end Go.Proofs.YtgnkmjeoaoongaaGreatDoor
namespace Go.Proofs.YtgnkmjeoaoongaaGreatDoor
open Go.RowKit Go.Mer
structure XAt (w : World) (d l : Nat) (P : ByteArray) (s : DSt) (st : LSt) (F G : Nat → Prop) : Prop where
 disk : RAt w d s F
 log : RLogAt w l d P st G
 sep : ∀ k, F k → ¬ G k
def SaidX (w : World) (d l : Nat) (P : ByteArray) (F G : Nat → Prop) (s' : DSt) (st' : LSt) (w' : World) : Prop :=
 ∃ F' G', XAt w' d l P s' st' F' G' ∧ Foot F F' w ∧ Foot G G' w ∧ Kp (Both F G) w w'
theorem RAt.lt {w : World} {d : Nat} {s : DSt} {F : Nat → Prop} (h : RAt w d s F) : ∀ k, F k → k < w.heap.size := by
 obtain ⟨_, _, _, _, _, h⟩ := h
 exact h
theorem RLogAt.lt {w : World} {l d : Nat} {P : ByteArray} {st : LSt} {G : Nat → Prop} (h : RLogAt w l d P st G) : ∀ k, G k → k < w.heap.size := by
 obtain ⟨_, _, _, _, _, _, hG⟩ := h
 exact hG
theorem XAt.turnD {w w' : World} {d l : Nat} {P : ByteArray} {s s' : DSt} {st : LSt} {F G F' : Nat → Prop} (h : XAt w d l P s st F G) (hD : RAt w' d s' F') (hF : Foot F F' w) (hk : Kp F w w') : XAt w' d l P s' st F' G :=
 ⟨hD, h.log.keep hk fun k hg hf => h.sep k hf hg, fun k hf hg => by
  rcases hF k hf with h1 | h1
  ·exact h.sep k h1 hg
  ·have := h.log.lt k hg; omega⟩
theorem XAt.turnL {w w' : World} {d l : Nat} {P : ByteArray} {s : DSt} {st st' : LSt} {F G G' : Nat → Prop} (h : XAt w d l P s st F G) (hL : RLogAt w' l d P st' G') (hG : Foot G G' w) (hk : Kp G w w') : XAt w' d l P s st' F G' :=
 ⟨h.disk.keep hk fun k hf hg => h.sep k hf hg, hL, fun k hf hg => by
  rcases hG k hg with h1 | h1
  ·exact h.sep k hf h1
  ·have := h.disk.lt k hf; omega⟩
theorem XAt.no {w w' : World} {d l : Nat} {P : ByteArray} {s : DSt} {st : LSt} {F G : Nat → Prop} (h : XAt w d l P s st F G) (hk : Kp No w w') : XAt w' d l P s st F G := ⟨h.disk.keep_no hk, h.log.keep_no hk, h.sep⟩
theorem SaidX.here {w w' : World} {d l : Nat} {P : ByteArray} {s : DSt} {st : LSt} {F G : Nat → Prop} (h : XAt w d l P s st F G) (hk : Kp No w w') : SaidX w d l P F G s st w' := ⟨F, G, h.no hk, Foot.refl _ _, Foot.refl _ _, Kp.of_no hk⟩
theorem SaidX.trans {w a b : World} {d l : Nat} {P : ByteArray} {s1 s2 : DSt} {st1 st2 : LSt} {F G : Nat → Prop} (h : ∃ F' G', XAt a d l P s1 st1 F' G' ∧ Foot F F' w ∧ Foot G G' w ∧ Kp (Both F G) w a ∧ SaidX a d l P F' G' s2 st2 b) : SaidX w d l P F G s2 st2 b := by
 obtain ⟨F', G', h1, h2, h3, h4, F2, G2, k1, k2, k3, k4⟩ := h
 refine ⟨F2, G2, k1, h2.trans k2 h4.size, h3.trans k3 h4.size, h4.trans k4 fun i hi hb => ?_⟩
 rcases hb with hb | hb
 ·rcases h2 i hb with x | x
  ·exact .inl x
  ·omega
 ·rcases h3 i hb with x | x
  ·exact .inr x
  ·omega
theorem RLogC.cells {w : World} {l d : Nat} {P : ByteArray} {sv ev : Value} {S : List Nat} {E : List Row} {synced : Nat} {dead : Bool} (h : RLogC w l d P sv ev S E synced dead) :
  (∀ W, Kp No w W → W.cell? ⟨l, 0, none⟩ = some (.pointer (some ⟨d, 0, none⟩))) ∧ (∀ W, Kp No w W → W.cell? ⟨l, 1, none⟩ = some (.string P)) ∧ (∀ W, Kp No w W → W.cell? ⟨l, 2, none⟩ = some ev) ∧ (∀ W, Kp No w W → W.cell? ⟨l, 3, none⟩ = some sv) ∧
   (∀ W, Kp No w W → W.cell? ⟨l, 4, none⟩ = some (.int .i64 (synced : Int))) ∧ (∀ W, Kp No w W → W.cell? ⟨l, 5, none⟩ = some (.bool dead)) ∧ ∀ W, Kp No w W → ∀ i, W.frozen? ⟨l, i, none⟩ = false :=
 ⟨fun W hW => by rw [cell_at (h.keep_no hW).cell]; rfl, fun W hW => by rw [cell_at (h.keep_no hW).cell]; rfl, fun W hW => by rw [cell_at (h.keep_no hW).cell]; rfl, fun W hW => by rw [cell_at (h.keep_no hW).cell]; rfl,
  fun W hW => by rw [cell_at (h.keep_no hW).cell]; rfl, fun W hW => by rw [cell_at (h.keep_no hW).cell]; rfl, fun W hW i => free_at (h.keep_no hW).cell i⟩
theorem RLogC.lastNo {w : World} {l d : Nat} {P : ByteArray} {sv ev : Value} {S1 : List Nat} {z : Nat} {E : List Row} {synced : Nat} {dead : Bool} (h : RLogC w l d P sv ev (S1 ++ [z]) E synced dead) :
  ∃ g off n cap, sv = .slice (some ⟨g, off, none⟩) n cap ∧ n = S1.length + 1 ∧ (n : Int) ≤ 9223372036854775807 ∧ g < w.heap.size ∧ ∀ W, Kp No w W → W.cell? ⟨g, off + S1.length, none⟩ = some (.int .i64 (z : Int)) := by
 obtain ⟨sa, sc, rfl, hsc, hsr⟩ := h.segs.rd
 obtain ⟨g, off, rfl, hg, hfz⟩ := h.segs.place (by simp)
 obtain ⟨g', off', hg', hc⟩ := rd_chunk numC_len (by decide) hsr (k := S1.length) (by simp)
 injection hg' with hg'
 injection hg' with e1 e2
 subst e1; subst e2
 have hget : (S1 ++ [z])[S1.length]'(by simp) = z := by simp
 rw [hget] at hc
 have hmx : (((S1 ++ [z]).length : Nat) : Int) ≤ 9223372036854775807 := by
  obtain ⟨_, a', cap', hv', q1, q2, _⟩ := h.segs
  simp only [maxLen] at q2
  omega
 refine ⟨g, off, _, sc, rfl, by simp, hmx, hg, fun W hW => ?_⟩
 have := hc W hW 0 _ rfl
 rwa [Nat.mul_one, Nat.add_zero] at this
theorem RLogAt.dead {w : World} {r x : Nat} {P : ByteArray} {st : LSt} {G : Nat → Prop} (h : RLogAt w x r P st G) (b : Bool) :
  (∃ z, w.cell? ⟨x, 5, none⟩ = some z) ∧ w.frozen? ⟨x, 5, none⟩ = false ∧ x < w.heap.size ∧ ∃ G', RLogAt (w.setCell ⟨x, 5, none⟩ (.bool b)) x r P { st with dead := b } G' ∧ Foot G G' w ∧ Kp G w (w.setCell ⟨x, 5, none⟩ (.bool b)) := by
 obtain ⟨sv, ev, E, hrun, hE, _⟩ := XLRun.start h
 obtain ⟨_, _, _, _, _, c5, fr⟩ := hrun.c.cells
 have hcl := set_at hrun.c.cell 5 (.bool b)
 have hR2 := hrun.flag (synced' := st.synced + 1) (dead' := b) (W' := w.setCell ⟨x, 5, none⟩ (.bool b)) ((Kp.refl (One x) _).setCell (p := ⟨x, 5, none⟩) (.inl rfl) _) (by simpa using hcl)
 obtain ⟨G2, hL2, hG2, hK2⟩ := hR2.stop rfl
 rw [← hE] at hL2
 exact ⟨⟨_, c5 w (Kp.refl _ _)⟩, fr w (Kp.refl _ _) 5, get_lt hrun.c.cell, G2, hL2, hG2, hK2⟩
theorem XAt.dead {w : World} {r x : Nat} {P : ByteArray} {s : DSt} {st : LSt} {F G : Nat → Prop} (h : XAt w r x P s st F G) (b : Bool) :
  (∃ z, w.cell? ⟨x, 5, none⟩ = some z) ∧ w.frozen? ⟨x, 5, none⟩ = false ∧ x < w.heap.size ∧ SaidX w r x P F G s { st with dead := b } (w.setCell ⟨x, 5, none⟩ (.bool b)) := by
 obtain ⟨h1, h2, h3, G2, hL2, hG2, hK2⟩ := h.log.dead b
 exact ⟨h1, h2, h3, F, G2, h.turnL hL2 hG2 hK2, Foot.refl _ _, hG2, hK2.mono fun _ _ x => .inr x⟩
def Tracked (P : ByteArray) (s : DSt) (st : LSt) : Prop := ∀ S1 z, st.segs = S1 ++ [z] → (rdS s.files (bnm P z.1)).1.length = z.2
end Go.Proofs.YtgnkmjeoaoongaaGreatDoor

