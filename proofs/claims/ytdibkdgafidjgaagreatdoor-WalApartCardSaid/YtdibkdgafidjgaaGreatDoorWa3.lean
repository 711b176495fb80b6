/-
  Texts laid together: DiskApi, DiskCrash, DiskCut.
-/
import Derived.Test.YtdibkdgafidjgaaGreatDoorWa2
namespace Go.Proofs.YtdibkdgafidjgaaGreatDoor
open Go.RowKit Go.Mer
def five (s : DSt) (ns : List ByteArray) (code : Int) (fs : Files) : Int × DSt :=
 if s.fuse = some 0 then (9, s) else if ns.all nameOk = true then (if code = 0 then (0, { s with fuse := s.fuse.map (· - 1), files := fs }) else (code, s)) else (1, s)
def Said5 (w : World) (d : Nat) (F : Nat → Prop) (r : Int × DSt) (e : Ending) (w' : World) : Prop :=
 e = .returned (.int .i64 r.1) ∧ ∃ F', DiskAt w' d r.2 F' ∧ Foot F F' w ∧ Kp F w w'
theorem fuse_zero {fused : Bool} {left : Int} (h0 : 0 ≤ left) : fuseOf fused left = some 0 ↔ fused = true ∧ left = 0 := by
 unfold fuseOf
 cases fused
 ·simp
 ·simp; omega
theorem gate_five (w : World) (d m : Nat) (fused : Bool) (left : Int) (L : FilesR) (s : DSt) (F : Nat → Prop) (hD : DiskC w d m s.room fused left L) (hf : s.fuse = fuseOf fused left) (hs : s.files = absL L)
  (hF : ∀ k, FP d m L k → F k) (hFs : ∀ k, F k → k < w.heap.size)
  (k : FuncId) (hcf : ∀ args w, (callFunc k args).run Tryz.prog w = .ok (.enter k args) w) (na : Option Addr) (nc : Nat) (ns : List ByteArray) (N : Int) (pv : Value)
  (hns : Rd w w.heap.size na (ns.map Value.string)) (hnl : ns.length ≤ 1000) (code : Int) (fs : Files)
  (hk : ns.all nameOk = true → ∀ w1, Kp No w w1 → Calls Tryz.prog k #[.pointer (some ⟨d, 0, none⟩), .agg #[.slice na ns.length nc, .int .i64 N, pv]] w1 fun e w2 =>
   e = .returned (.int .i64 code) ∧ ∃ L', DiskC w2 d m s.room fused left L' ∧ absL L' = (if code = 0 then fs else absL L) ∧ Foot (FP d m L) (FP d m L') w1 ∧ Kp (FP d m L) w1 w2) :
  Calls Tryz.prog 72 #[.pointer (some ⟨d, 0, none⟩), .func (.func k) #[.pointer (some ⟨d, 0, none⟩)] #[], .agg #[.slice na ns.length nc, .int .i64 N, pv]] w (Said5 w d F (five s ns code fs)) := by
 have hsame : ∀ w', Kp No w w' → ∃ F', DiskAt w' d s F' ∧ Foot F F' w ∧ Kp F w w' := fun w' h =>
  ⟨F, ⟨m, fused, left, L, hD.keep_no h, hf, hs, hF, fun k hk => h.lt (hFs k hk)⟩, Foot.refl _ _, Kp.of_no h⟩
 by_cases h0 : s.fuse = some 0
 ·have h1 := h0
  rw [hf] at h1
  obtain ⟨rfl, rfl⟩ := (fuse_zero hD.left0).1 h1
  refine (gate_dead d s.room (.map (some m)) _ _ w ⟨_, _, _, rfl⟩ hD.cell).mono fun e w' ⟨he, hw⟩ => ?_
  have e5 : five s ns code fs = (9, s) := by simp [five, h0]
  rw [e5]
  exact ⟨he, hsame w' hw⟩
 ·have hpos : fused = false ∨ 0 < left := by
   cases fused
   ·exact .inl rfl
   ·right
    have := hD.left0
    have h1 : ¬ (left = 0) := fun e => h0 (by rw [hf]; exact (fuse_zero hD.left0).2 ⟨rfl, e⟩)
    omega
  by_cases hn : ns.all nameOk = true
  ·refine (gate_does d k s.room left (.map (some m)) fused hpos hD.leftM na nc ns N pv w hD.cell hns hnl (by simpa using hn)
    (fun r w2 => r = code ∧ ∃ L', DiskC w2 d m s.room fused left L' ∧ absL L' = (if code = 0 then fs else absL L) ∧ Foot (FP d m L) (FP d m L') w ∧ Kp (FP d m L) w w2)
    (fun r w2 ⟨_, L', h, _⟩ => ⟨_, _, h.cell⟩) hcf (fun w1 hw1 => (hk hn w1 hw1).mono fun e w2 ⟨he, L', h1, h2, h3, h4⟩ => ⟨code, he, rfl, L', h1, h2, fun i hi => (h3 i hi).imp id fun h => Nat.le_trans hw1.size h, (Kp.of_no hw1).trans_same h4⟩)).mono ?_
   rintro e w' ⟨r, w2, ⟨rfl, L', h1, h2, h3, h4⟩, rfl, rfl⟩
   have hFk : Kp F w w2 := h4.mono fun i _ hi => hF i hi
   have hFt : Foot F (fun i => FP d m L' i) w := fun i hi => (h3 i hi).imp (hF i) id
   by_cases hc : r = 0
   ·subst hc
    have e5 : five s ns 0 fs = (0, { s with fuse := s.fuse.map (· - 1), files := fs }) := by simp [five, h0, hn]
    rw [e5]
    rw [if_pos rfl] at h2
    cases fused
    ·refine ⟨rfl, fun i => FP d m L' i, ⟨m, false, left, L', ?_, ?_, h2.symm, fun _ h => h, fun i hi => ?_⟩, hFt, ?_⟩
     ·simpa using h1
     ·rw [hf]; rfl
     ·have := h1.lt i hi
      simpa using this
     ·simpa using hFk
    ·have hl : 0 < left := hpos.resolve_left (by simp)
     rw [if_pos ⟨rfl, rfl⟩]
     have hset : Kp (One d) w2 (w2.setCell ⟨d, 3, none⟩ (.int .i64 (left - 1))) := (Kp.refl (One d) _).setCell (p := ⟨d, 3, none⟩) (.inl rfl) _
     refine ⟨rfl, fun i => FP d m L' i, ⟨m, true, left - 1, L', h1.setFuse true (left - 1) (by omega) (by have := h1.leftM; omega) hset ?_, ?_, h2.symm, fun _ h => h, fun i hi => ?_⟩, hFt, ?_⟩
     ·have := set_at h1.cell 3 (.int .i64 (left - 1))
      simpa using this
     ·rw [hf]
      simp [fuseOf]
     ·exact hset.lt (h1.lt i hi)
     ·exact hFk.trans hset fun i _ hi => hF i (by rw [show i = d from hi]; exact .inl rfl)
   ·have e5 : five s ns r fs = (r, s) := by simp [five, h0, hn, hc]
    rw [e5]
    rw [if_neg hc] at h2
    rw [if_neg (fun h => hc h.1)]
    exact ⟨rfl, fun i => FP d m L' i, ⟨m, fused, left, L', h1, hf, by rw [h2]; exact hs, fun _ h => h, fun i hi => h1.lt i hi⟩, hFt, hFk⟩
  ·have hn' : ns.all nameOk = false := by simpa using hn
   refine (gate_arg d s.room left (.map (some m)) _ fused hpos na nc ns N pv w hD.cell hns hnl hn').mono fun e w' ⟨he, hw⟩ => ?_
   have e5 : five s ns code fs = (1, s) := by simp [five, h0, hn']
   rw [e5]
   exact ⟨he, hsame w' hw⟩
theorem name_rd (w : World) (name : ByteArray) : Rd (w.alloc (.cells #[.string name] 9)) (w.alloc (.cells #[.string name] 9)).heap.size (some ⟨w.heap.size, 0, none⟩) ([name].map Value.string) :=
 Rd.row (off := 0) (n := 1) (heap_alloc_new w _) (by simp) (by simp) (Nat.le_refl _)
def wrCode (s : DSt) (name : ByteArray) (p : List UInt8) : Int := if s.room < totF s.files + p.length ∨ (gget s.files name = none ∧ 4096 ≤ s.files.length) then 6 else 0
def wrFiles (l : Files) (name : ByteArray) (p : List UInt8) : Files :=
 match gget l name with
 | some x => gset l name ⟨x.data ++ p, x.lasts⟩
 | none => gset l name ⟨p, 0⟩
def wrS (s : DSt) (name : ByteArray) (p : List UInt8) : Int × DSt := five s [name] (wrCode s name p) (wrFiles s.files name p)
set_option maxHeartbeats 400000 in
theorem Write_any (w : World) (d : Nat) (s : DSt) (F : Nat → Prop) (hD : DiskAt w d s F) (name : ByteArray) (pa : Option Addr) (pc : Nat) (p : List UInt8) (hp : Rd w w.heap.size pa (u8s p)) (hpm : p.length ≤ 140737488355328) :
  Calls Tryz.prog 30 #[.pointer (some ⟨d, 0, none⟩), .string name, .slice pa p.length pc] w (Said5 w d F (wrS s name p)) := by
 obtain ⟨m, fused, left, L, hC, hf, hs, hF, hFs⟩ := hD
 have h1 : Kp No w (w.alloc (.cells #[.string name] 9)) := (Kp.refl _ _).alloc _
 have hcf : ∀ args w, (callFunc 73 args).run Tryz.prog w = .ok (.enter 73 args) w := fun args w => by simp [go_sem]
 have hg := gate_five (w.alloc (.cells #[.string name] 9)) d m fused left L s F (hC.keep_no h1) hf hs hF (fun k hk => h1.lt (hFs k hk)) 73 hcf (some ⟨w.heap.size, 0, none⟩) 1 [name] 0 (.slice pa p.length pc)
  (name_rd w name) (by simp) (wrCode s name p) (wrFiles s.files name p) (by
   intro _ w1 hw1
   have hC1 := (hC.keep_no h1).keep_no hw1
   have hp1 := ((hp.keep h1 fun _ _ x => x).keep hw1 fun _ _ x => x).mono (Nat.le_trans h1.size hw1.size) (Nat.le_refl _)
   have hn1 := ((name_rd w name).keep hw1 fun _ _ x => x).mono hw1.size (Nat.le_refl _)
   have hroom : s.files.length = L.length := by rw [hs]; simp [absL]
   by_cases hr : s.room < totF (absL L) + p.length
   ·refine (write_full w1 d m s.room fused left L hC1 name (some ⟨w.heap.size, 0, none⟩) 1 hn1 0 pa pc p hpm hr).mono fun e w2 ⟨he, hw⟩ => ?_
    have e6 : wrCode s name p = 6 := by simp [wrCode, hs, hr]
    rw [e6]
    exact ⟨he, L, hC1.keep_no hw, rfl, Foot.refl _ _, Kp.of_no hw⟩
   ·cases hc : gget L name with
    | none =>
     have hga : gget s.files name = none := by rw [hs, gget_abs, hc]; rfl
     by_cases hmny : 4096 ≤ L.length
     ·refine (write_many w1 d m s.room fused left L hC1 name (some ⟨w.heap.size, 0, none⟩) 1 hn1 0 pa pc p (by omega) hc hmny).mono fun e w2 ⟨he, hw⟩ => ?_
      have e6 : wrCode s name p = 6 := by unfold wrCode; rw [if_pos (.inr ⟨hga, by omega⟩)]
      rw [e6]
      exact ⟨he, L, hC1.keep_no hw, rfl, Foot.refl _ _, Kp.of_no hw⟩
     ·refine (write_new w1 d m s.room fused left L hC1 name (some ⟨w.heap.size, 0, none⟩) 1 hn1 0 pa pc p (by omega) hp1 hc (by omega)).mono fun e w2 ⟨he, c, hca, h2, h3, h4⟩ => ?_
      have e0 : wrCode s name p = 0 := by
       unfold wrCode
       rw [if_neg (by
        rintro (h | ⟨_, h⟩)
        ·rw [hs] at h; omega
        ·omega)]
      have ef : wrFiles s.files name p = gset (absL L) name ⟨p, 0⟩ := by unfold wrFiles; rw [hga, hs]
      rw [e0, ef]
      exact ⟨he, _, h2, by rw [gset_abs, hca]; rfl, h3, h4⟩
    | some c =>
     have hga : gget s.files name = some c.abs := by rw [hs, gget_abs, hc]; rfl
     refine (write_some w1 d m s.room fused left L hC1 name (some ⟨w.heap.size, 0, none⟩) 1 hn1 0 pa pc p (by omega) hp1 c hc).mono fun e w2 ⟨he, v, h2, h3, h4⟩ => ?_
     have e0 : wrCode s name p = 0 := by
      unfold wrCode
      rw [if_neg (by
       rintro (h | ⟨h, _⟩)
       ·rw [hs] at h; omega
       ·rw [hga] at h; cases h)]
     have ef : wrFiles s.files name p = gset (absL L) name ⟨c.data ++ p, c.lasts⟩ := by unfold wrFiles; rw [hga, hs]; rfl
     rw [e0, ef]
     exact ⟨he, _, h2, by rw [gset_abs]; rfl, h3, h4⟩)
 have HG := Lib.hid hg
 clear hg hp hC hF hFs hf hs
 go_enter Tryz.func30, Tryz.ntmps30
 go_wp2_with fail
 refine (HG.out).mono ?_
 rintro e w' ⟨rfl, F', h2, h3, h4⟩
 have H2 := Lib.hid h2
 have H3 := Lib.hid h3
 have H4 := Lib.hid h4
 clear h2 h3 h4
 go_wp2_with fail
 go_ret
 exact ⟨rfl, F', H2.out, fun k hk => (H3.out k hk).imp id fun h => Nat.le_trans h1.size h, (Kp.of_no h1).trans_same H4.out⟩
def syCode (s : DSt) (name : ByteArray) : Int := if gget s.files name = none then 7 else 0
def syFiles (l : Files) (name : ByteArray) : Files :=
 match gget l name with
 | some x => gset l name ⟨x.data, x.data.length⟩
 | none => l
def syS (s : DSt) (name : ByteArray) : Int × DSt := five s [name] (syCode s name) (syFiles s.files name)
set_option maxHeartbeats 400000 in
theorem Sync_any (w : World) (d : Nat) (s : DSt) (F : Nat → Prop) (hD : DiskAt w d s F) (name : ByteArray) :
  Calls Tryz.prog 58 #[.pointer (some ⟨d, 0, none⟩), .string name] w (Said5 w d F (syS s name)) := by
 obtain ⟨m, fused, left, L, hC, hf, hs, hF, hFs⟩ := hD
 have h1 : Kp No w (w.alloc (.cells #[.string name] 9)) := (Kp.refl _ _).alloc _
 have hcf : ∀ args w, (callFunc 97 args).run Tryz.prog w = .ok (.enter 97 args) w := fun args w => by simp [go_sem]
 have hg := gate_five (w.alloc (.cells #[.string name] 9)) d m fused left L s F (hC.keep_no h1) hf hs hF (fun k hk => h1.lt (hFs k hk)) 97 hcf (some ⟨w.heap.size, 0, none⟩) 1 [name] 0 (.slice none 0 0)
  (name_rd w name) (by simp) (syCode s name) (syFiles s.files name) (by
   intro _ w1 hw1
   have hC1 := (hC.keep_no h1).keep_no hw1
   have hn1 := ((name_rd w name).keep hw1 fun _ _ x => x).mono hw1.size (Nat.le_refl _)
   cases hc : gget L name with
   | none =>
    have hga : gget s.files name = none := by rw [hs, gget_abs, hc]; rfl
    refine (sync_none w1 d m s.room fused left L hC1 name hc (some ⟨w.heap.size, 0, none⟩) 1 hn1 0 (.slice none 0 0)).mono fun e w2 ⟨he, hw⟩ => ?_
    have e7 : syCode s name = 7 := by unfold syCode; rw [if_pos hga]
    rw [e7]
    exact ⟨he, L, hC1.keep_no hw, rfl, Foot.refl _ _, Kp.of_no hw⟩
   | some c =>
    have hga : gget s.files name = some c.abs := by rw [hs, gget_abs, hc]; rfl
    refine (sync_some w1 d m s.room fused left L hC1 name c hc (some ⟨w.heap.size, 0, none⟩) 1 hn1 0 (.slice none 0 0)).mono fun e w2 ⟨he, h2, h3, h4⟩ => ?_
    have e0 : syCode s name = 0 := by unfold syCode; rw [if_neg (by rw [hga]; simp)]
    have ef : syFiles s.files name = gset (absL L) name ⟨c.data, c.data.length⟩ := by unfold syFiles; rw [hga, hs]; rfl
    rw [e0, ef]
    exact ⟨he, _, h2, by rw [gset_abs]; rfl, h3, h4⟩)
 have HG := Lib.hid hg
 clear hg hC hF hFs hf hs
 go_enter Tryz.func58, Tryz.ntmps58
 go_wp2_with fail
 refine (HG.out).mono ?_
 rintro e w' ⟨rfl, F', h2, h3, h4⟩
 have H2 := Lib.hid h2
 have H3 := Lib.hid h3
 have H4 := Lib.hid h4
 clear h2 h3 h4
 go_wp2_with fail
 go_ret
 exact ⟨rfl, F', H2.out, fun k hk => (H3.out k hk).imp id fun h => Nat.le_trans h1.size h, (Kp.of_no h1).trans_same H4.out⟩
def fuS (s : DSt) (n : Int) : DSt := { s with fuse := if 0 ≤ n then some n.toNat else none }
set_option maxHeartbeats 400000 in
theorem Fuse_any (w : World) (d : Nat) (s : DSt) (F : Nat → Prop) (hD : DiskAt w d s F) (n : Int) (hn : n ≤ 9223372036854775807) :
  Calls Tryz.prog 12 #[.pointer (some ⟨d, 0, none⟩), .int .i64 n] w fun e w' => e = .returned (.tuple #[]) ∧ DiskAt w' d (fuS s n) F ∧ Kp (One d) w w' := by
 obtain ⟨m, fused, left, L, hC, hf, hs, hF, hFs⟩ := hD
 have c2 := cell_at hC.cell 2
 have c3 := cell_at hC.cell 3
 have f2 := free_at hC.cell 2
 have f3 := free_at hC.cell 3
 have hdl := get_lt hC.cell
 simp at c2 c3
 have key : ∀ (b : Bool) (l : Int), 0 ≤ l → l ≤ 9223372036854775807 → (fuS s n).fuse = fuseOf b l →
   DiskAt ((w.setCell ⟨d, 2, none⟩ (.bool b)).setCell ⟨d, 3, none⟩ (.int .i64 l)) d (fuS s n) F ∧ Kp (One d) w ((w.setCell ⟨d, 2, none⟩ (.bool b)).setCell ⟨d, 3, none⟩ (.int .i64 l)) := fun b l h0 h1 he => by
  have hk : Kp (One d) w ((w.setCell ⟨d, 2, none⟩ (.bool b)).setCell ⟨d, 3, none⟩ (.int .i64 l)) := ((Kp.refl (One d) _).setCell (p := ⟨d, 2, none⟩) (.inl rfl) _).setCell (p := ⟨d, 3, none⟩) (.inl rfl) _
  have hc := set_at (set_at hC.cell 2 (.bool b)) 3 (.int .i64 l)
  refine ⟨⟨m, b, l, L, hC.setFuse b l h0 h1 hk ?_, he, hs, hF, fun k h => hk.lt (hFs k h)⟩, hk⟩
  simpa using hc
 have HK := Lib.hid key
 clear key hC hf hs hF hFs
 by_cases h0 : 0 ≤ n
 ·have hmax : (if n > 0 then n else 0) = n := by split <;> omega
  go_enter Tryz.func12, Tryz.ntmps12
  go_wp2_with fail
  all_goals
   go_end0
   exact ⟨rfl, HK.out true n h0 hn (by simp [fuS, h0, fuseOf])⟩
 ·have hmax : (if n > 0 then n else 0) = 0 := by split <;> omega
  go_enter Tryz.func12, Tryz.ntmps12
  go_wp2_with fail
  all_goals
   go_end0
   exact ⟨rfl, HK.out false 0 (by omega) (by omega) (by simp [fuS, h0, fuseOf])⟩
def rdS (l : Files) (name : ByteArray) : List UInt8 × Int :=
 match gget l name with
 | some x => (x.data, 0)
 | none => ([], 7)
def ReadPost (w : World) (d : Nat) (s : DSt) (F : Nat → Prop) (name : ByteArray) (e : Ending) (w' : World) : Prop :=
 ∃ v, e = .returned (.tuple #[v, .int .i64 (rdS s.files name).2]) ∧ Own w' 5 1 v (rdS s.files name).1.length (u8s (rdS s.files name).1) ∧ Kp No w w' ∧ (∀ g, v.ownBlock = some g → w.heap.size ≤ g) ∧ DiskAt w' d s F
set_option maxHeartbeats 400000 in
theorem Read_any (w : World) (d : Nat) (s : DSt) (F : Nat → Prop) (hD : DiskAt w d s F) (name : ByteArray) :
  Calls Tryz.prog 35 #[.pointer (some ⟨d, 0, none⟩), .string name] w (ReadPost w d s F name) := by
 have HDA := Lib.hid hD
 obtain ⟨m, fused, left, L, hC, hf, hs, hF, hFs⟩ := hD
 have c1 := cell_at hC.cell 1
 have hdl := get_lt hC.cell
 simp at c1
 have hlook := look_file hC.map name
 rw [show ptrL L = L.map fun p => (p.1, p.2.ptr) from rfl, gget_mapv] at hlook
 cases hc : gget L name with
 | none =>
  have hga : gget s.files name = none := by rw [hs, gget_abs, hc]; rfl
  rw [hc] at hlook
  simp only [Option.map_none, Option.getD_none] at hlook
  have HA := Lib.hid hga
  clear hga hc hC hf hs hF hFs
  go_enter Tryz.func35, Tryz.ntmps35
  go_wp2_with fail
  go_ret2
  have e7 : rdS s.files name = ([], 7) := by unfold rdS; rw [HA.out]
  refine ⟨.slice none 0 0, ?_, ?_, Kp.refl _ _, fun g h => by simp [Value.ownBlock] at h, HDA.out⟩
  ·rw [e7]; rfl
  ·rw [e7]; exact Own.nil _ _ _
 | some c =>
  have hga : gget s.files name = some c.abs := by rw [hs, gget_abs, hc]; rfl
  have hfo := hC.files _ (gget_mem hc)
  have hfl := get_lt hfo.1
  have cf0 := cell_at hfo.1 0
  obtain ⟨fa, fc, hv, _, hrd⟩ := hfo.2.1.rd
  simp at cf0
  rw [hv] at cf0
  have hfit := hC.fits
  have hroom := hC.roomy
  have hmem := mem_len (l := absL L) (p := (name, c.abs)) (List.mem_map.2 ⟨(name, c), gget_mem hc, rfl⟩)
  have hlen : c.data.length ≤ 140737488355328 := by simp only [FileR.abs] at hmem; omega
  rw [hc] at hlook
  simp only [Option.map_some, Option.getD_some, FileR.ptr] at hlook
  have hcl := clone_any fa fc c.data w.heap.size w hrd hlen
  have HA := Lib.hid hga
  have HL := Lib.hid hcl
  clear hga hc hC hf hs hF hFs hcl hfo hv hrd hfit hroom hmem
  go_enter Tryz.func35, Tryz.ntmps35
  go_wp2_with fail
  refine (HL.out).mono ?_
  rintro e w' ⟨v, rfl, h1, h2, h3⟩
  have H1 := Lib.hid h1
  have H2 := Lib.hid h2
  have H3 := Lib.hid h3
  clear h1 h2 h3
  go_wp2_with fail
  go_ret2
  have e0 : rdS s.files name = (c.data, 0) := by unfold rdS; rw [HA.out]; rfl
  refine ⟨v, ?_, ?_, H2.out, H3.out, HDA.out.keep_no H2.out⟩
  ·rw [e0]; rfl
  ·rw [e0]; exact H1.out
end Go.Proofs.YtdibkdgafidjgaaGreatDoor
namespace Go.Proofs.YtdibkdgafidjgaaGreatDoor
open Go.RowKit Go.Mer
def torn (l : List UInt8) (a b : Nat) (t : UInt8) : List UInt8 := l.mapIdx fun j x => if a ≤ j ∧ j < b then x ^^^ t else x
theorem torn_length (l : List UInt8) (a b : Nat) (t : UInt8) : (torn l a b t).length = l.length := by simp [torn]
theorem torn_start (l : List UInt8) (a : Nat) (t : UInt8) : torn l a a t = l := by
 apply List.ext_getElem?
 intro i
 simp only [torn, List.getElem?_mapIdx]
 cases l[i]? with
 | none => rfl
 | some x => simp; omega
theorem torn_step (l : List UInt8) (a b : Nat) (t : UInt8) (h : a ≤ b) (hb : b < l.length) : torn l a (b + 1) t = (torn l a b t).set b (l[b] ^^^ t) := by
 apply List.ext_getElem?
 intro i
 rw [List.getElem?_set, torn_length]
 simp only [torn, List.getElem?_mapIdx]
 by_cases hi : b = i
 ·subst hi
  simp [hb, h]
 ·rw [if_neg hi]
  cases l[i]? with
  | none => rfl
  | some x =>
   simp only [Option.map_some, Option.some.injEq]
   have : (a ≤ i ∧ i < b + 1) ↔ (a ≤ i ∧ i < b) := by omega
   simp only [this]
theorem torn_full (l : List UInt8) (a b b' : Nat) (t : UInt8) (h : l.length ≤ b) (h' : l.length ≤ b') : torn l a b t = torn l a b' t := by
 apply List.ext_getElem?
 intro i
 simp only [torn, List.getElem?_mapIdx]
 cases hi : l[i]? with
 | none => rfl
 | some x =>
  have := (List.getElem?_eq_some_iff.1 hi).1
  simp only [Option.map_some, Option.some.injEq]
  have : (a ≤ i ∧ i < b) ↔ (a ≤ i ∧ i < b') := by omega
  simp only [this]
theorem torn_get (l : List UInt8) (a b : Nat) (t : UInt8) (hb : b < l.length) : (torn l a b t)[b]'(by rw [torn_length]; exact hb) = l[b] := by
 simp [torn]
def stays (keep : Int) (x : FileS) : Nat := x.lasts + keep.toNat % (x.data.length - x.lasts + 1)
def crF (keep : Int) (t : UInt8) (x : FileS) : FileS :=
 ⟨torn (x.data.take (stays keep x)) (max x.lasts ((stays keep x - 1) / 16 * 16)) (stays keep x) t, stays keep x⟩
def crS (s : DSt) (keep : Int) (t : UInt8) : DSt := { s with fuse := none, files := s.files.map fun p => (p.1, crF keep t p.2) }
theorem own_store {w : World} {e : TypeId} {g off n cap : Nat} {xs : List Value} (h : Own w e 1 (.slice (some ⟨g, off, none⟩) n cap) n xs) (i : Nat) (hi : i < n) (u : Value) :
  Own (w.setCell ⟨g, off + i, none⟩ u) e 1 (.slice (some ⟨g, off, none⟩) n cap) n (xs.set i u) := by
 obtain ⟨hl, a, cap', hv, h1, h2, h3, h4⟩ := h
 injection hv with hv1 hv2 hv3
 subst hv3
 obtain ⟨g', off', cur, had, hg, hfit, hx⟩ := h4 ⟨g, off, none⟩ hv1.symm
 injection had with e1 e2
 subst e1; subst e2
 refine ⟨by simpa using hl, some ⟨g, off, none⟩, cap, rfl, h1, h2, fun h => (by cases h), fun ad had => ?_⟩
 injection had with had
 subst had
 refine ⟨g, off, cur.setIfInBounds (off + i) u, rfl, set_at hg (off + i) u, by simpa using hfit, ?_⟩
 rw [← hx]
 apply List.ext_getElem?
 intro j
 simp only [Nat.mul_one] at *
 rw [List.getElem?_take, List.getElem?_set, List.getElem?_take]
 by_cases hj : j < n
 ·simp only [hj, if_true]
  rw [List.getElem?_drop, List.getElem?_drop, Array.toList_setIfInBounds, List.getElem?_set]
  have hsz : off + i < cur.toList.length := by simp; omega
  have hlen : i < ((cur.toList.drop off).take n).length := by simp; omega
  by_cases hij : i = j
  ·subst hij
   simp only [if_pos hsz, if_pos hlen]
  ·rw [if_neg (by omega), if_neg hij]
 ·rw [if_neg hj, if_neg hj]
  by_cases hij : i = j
  ·subst hij; omega
  ·rw [if_neg hij]
theorem own_cut {w : World} {e : TypeId} {a : Option Addr} {n cap : Nat} {xs : List Value} (h : Own w e 1 (.slice a n cap) n xs) (k : Nat) (hk : k ≤ n) : Own w e 1 (.slice a k k) k (xs.take k) := by
 obtain ⟨hl, a', cap', hv, h1, h2, h3, h4⟩ := h
 injection hv with hv1 hv2 hv3
 subst hv1; subst hv3
 refine ⟨by rw [List.length_take, hl]; omega, a, k, rfl, Nat.le_refl _, by omega, fun ha => by have := h3 ha; omega, fun ad had => ?_⟩
 obtain ⟨g, off, cur, rfl, hg, hfit, hx⟩ := h4 ad had
 refine ⟨g, off, cur, rfl, hg, by omega, ?_⟩
 rw [← hx, List.take_take, Nat.mul_one, Nat.mul_one, Nat.min_eq_left hk]
theorem u8s_take (l : List UInt8) (k : Nat) : (u8s l).take k = u8s (l.take k) := by simp [u8s, List.map_take]
theorem u8s_set (l : List UInt8) (k : Nat) (b : UInt8) : (u8s l).set k (u8 b) = u8s (l.set k b) := by simp [u8s, List.map_set]
theorem xor_u8 (x t : UInt8) : Go.bits .xor .u8 (x.toNat : Int) (t.toNat : Int) = ((x ^^^ t).toNat : Int) := by
 rw [Go.u8_xor_nat _ _ x.toNat_lt t.toNat_lt, UInt8.toNat_xor]
def crV (keep : Int) (t : UInt8) (l : Files) (V : List ByteArray) : Files := l.map fun p => if p.1 ∈ V then (p.1, crF keep t p.2) else p
theorem crV_nil (keep : Int) (t : UInt8) (l : Files) : crV keep t l [] = l := by simp [crV]
theorem crV_all {keep : Int} {t : UInt8} {l : Files} {V : List ByteArray} (h : ∀ p ∈ l, p.1 ∈ V) : crV keep t l V = l.map fun p => (p.1, crF keep t p.2) := by
 unfold crV
 apply List.map_congr_left
 intro p hp
 rw [if_pos (h p hp)]
theorem crV_keys (keep : Int) (t : UInt8) (l : Files) (V : List ByteArray) : (crV keep t l V).map (·.1) = l.map (·.1) := by
 unfold crV
 rw [List.map_map]
 apply List.map_congr_left
 intro p _
 simp only [Function.comp_def]
 split <;> rfl
theorem crV_step {keep : Int} {t : UInt8} {l : Files} {V : List ByteArray} (hn : (l.map (·.1)).Nodup) {k : ByteArray} {y : FileS} (hm : (k, y) ∈ l) :
  gset (crV keep t l V) k (crF keep t y) = crV keep t l (k :: V) := by
 have hk : k ∈ (crV keep t l V).map (·.1) := by rw [crV_keys]; exact List.mem_map.2 ⟨_, hm, rfl⟩
 unfold gset
 rw [if_pos hk]
 unfold crV
 rw [List.map_map]
 apply List.map_congr_left
 intro p hp
 simp only [Function.comp_def]
 by_cases hpk : p.1 = k
 ·have : p.2 = y := by
   have h1 := gget_some hn hm
   have h2 := gget_some hn (show (k, p.2) ∈ l from hpk ▸ hp)
   rw [h1] at h2
   injection h2 with h2
   exact h2.symm
  subst this
  have e : (if p.1 ∈ V then (p.1, crF keep t p.2) else p).1 = k := by split <;> exact hpk
  rw [if_pos e, if_pos (by rw [hpk]; exact List.mem_cons_self ..), hpk]
 ·have e : ¬ (if p.1 ∈ V then (p.1, crF keep t p.2) else p).1 = k := by split <;> exact hpk
  rw [if_neg e]
  by_cases hV : p.1 ∈ V
  ·rw [if_pos hV, if_pos (List.mem_cons_of_mem _ hV)]
  ·rw [if_neg hV, if_neg (fun h => (List.mem_cons.1 h).elim hpk hV)]
theorem crV_old {keep : Int} {t : UInt8} {l : Files} {V : List ByteArray} {k : ByteArray} {y : FileS} (hm : (k, y) ∈ crV keep t l V) (hV : k ∉ V) : (k, y) ∈ l := by
 unfold crV at hm
 obtain ⟨p, hp, he⟩ := List.mem_map.1 hm
 split at he
 ·rename_i h
  injection he with h1 h2
  exact absurd (h1 ▸ h) hV
 ·exact he ▸ hp
theorem gset_same {L : FilesR} (hn : (L.map (·.1)).Nodup) {k : ByteArray} {c c' : FileR} (hc : gget L k = some c) (h1 : c'.blk = c.blk) (h2 : c'.v.ownBlock = c.v.ownBlock) (d m : Nat) :
  ptrL (gset L k c') = ptrL L ∧ ∀ i, FP d m (gset L k c') i → FP d m L i := by
 obtain ⟨l1, l2, rfl, _⟩ := gget_split hc
 rw [gset_split hn]
 refine ⟨by simp [ptrL, FileR.ptr, h1], ?_⟩
 rintro i (rfl | rfl | ⟨p, hp, hpk⟩)
 ·exact .inl rfl
 ·exact .inr (.inl rfl)
 ·rcases List.mem_append.1 hp with hp | hp
  ·exact .inr (.inr ⟨p, by simp [hp], hpk⟩)
  ·rcases List.mem_cons.1 hp with rfl | hp
   ·exact .inr (.inr ⟨(k, c), by simp, by simpa [h1, h2] using hpk⟩)
   ·exact .inr (.inr ⟨p, by simp [hp], hpk⟩)
set_option maxRecDepth 100000 in
set_option maxHeartbeats 1000000 in
theorem Crash_any (w : World) (d : Nat) (s : DSt) (F : Nat → Prop) (hD : DiskAt w d s F) (keep : Int) (hk0 : -9223372036854775808 ≤ keep) (hk1 : keep ≤ 9223372036854775807) (t : UInt8) :
  Calls Tryz.prog 18 #[.pointer (some ⟨d, 0, none⟩), .int .i64 keep, .int .u8 (t.toNat : Int)] w fun e w' => e = .returned (.tuple #[]) ∧ DiskAt w' d (crS s keep t) F ∧ Kp F w w' := by
 obtain ⟨m, fused, left, L, hC, hf, hs, hF, hFs⟩ := hD
 have HD := Lib.hid hC
 have c1 := cell_at hC.cell 1
 simp at c1
 obtain ⟨o, hrun, hit⟩ := run_range_g (P := Tryz.prog) Tryz.underlying78 hC.map
 have HI := Lib.hid hit
 obtain ⟨K, hK⟩ : ∃ K, K = keep.toNat := ⟨_, rfl⟩
 have hmax : (if 0 < keep then keep else 0) = (K : Int) := by split <;> omega
 have HK := Lib.hid hK
 clear hK
 have HS := Lib.hid hs
 have HF := Lib.hid hF
 have HFs := Lib.hid hFs
 clear hit hC hs hF hFs hf
 go_enter Tryz.func18, Tryz.ntmps18
 go_wp2_with fail
 go_loopg [] (restV (absL L) []) (fun g wr => ∃ V Lc, g = restV (absL L) V ∧ Hid (GIter Value.string wr w.heap.size m (ptrL L) V) ∧ Hid (DiskC wr d m s.room fused left Lc) ∧ Hid (absL Lc = crV keep t (absL L) V) ∧ Hid (ptrL Lc = ptrL L) ∧
  Hid (∀ k, FP d m Lc k → FP d m L k) ∧ Kp (FP d m L) w wr)
 case atStart => exact ⟨[], L, rfl, HI.out, HD.out.keep_no ((Kp.refl _ _).alloc _), (crV_nil _ _ _).symm, rfl, fun _ h => h, (Kp.refl _ _).alloc _⟩
 case round =>
  obtain ⟨V, Lc, rfl, hI, hDc, hab, hpt, hfp, hk⟩ := hrel
  rcases run_next_g (P := Tryz.prog) 0 hI.out with ⟨hall, hnext⟩ | ⟨p, hp, hpV, n, o', hnext, hI', hent⟩
  ·have HA := Lib.hid hall
   clear hall
   have hdl := get_lt hDc.out.cell
   have cd2 := cell_at hDc.out.cell 2
   have fd2 := free_at hDc.out.cell 2
   simp at cd2 fd2
   go_wp2_with fail
   go_end0
   have hset : Kp (One d) wr (wr.setCell ⟨d, 2, none⟩ (.bool false)) := (Kp.refl (One d) _).setCell (p := ⟨d, 2, none⟩) (.inl rfl) _
   have hk2 : Kp (FP d m L) w (wr.setCell ⟨d, 2, none⟩ (.bool false)) := hk.trans hset fun i _ hi => by rw [show i = d from hi]; exact .inl rfl
   have hcr : absL Lc = (crS s keep t).files := by
    rw [hab.out, crV_all (fun q hq => by
     obtain ⟨x, hx, rfl⟩ := List.mem_map.1 hq
     exact HA.out (x.1, x.2.ptr) (List.mem_map.2 ⟨x, hx, rfl⟩))]
    unfold crS
    rw [HS.out]
   refine ⟨rfl, ⟨m, false, left, Lc, hDc.out.setFuse false left hDc.out.left0 hDc.out.leftM hset ?_, rfl, hcr.symm, fun k h => HF.out k (hfp.out k h), fun k h => hk2.lt (HFs.out k h)⟩, hk2.mono fun k _ h => HF.out k h⟩
   have := set_at hDc.out.cell 2 (.bool false)
   simpa using this
  ·have hp2 : p ∈ ptrL Lc := by rw [hpt.out]; exact hp
   obtain ⟨x, hx, rfl⟩ := List.mem_map.1 hp2
   have hwm : w.heap.size ≠ m := hI.out.ne
   have hrl : w.heap.size < wr.heap.size := hI.out.lt
   have hfpl : ∀ k, FP d m Lc k → k < w.heap.size := fun k h => HD.out.lt k (hfp.out k h)
   have hk2 : Kp (One w.heap.size) wr (ChangeMaps.setBlock (wr.drewN n) w.heap.size o') := ((Kp.refl (One w.heap.size) wr).drewN n).setBlock (.inl rfl) o'
   have hD2 := hDc.out.keep hk2 fun k h e => by have := hfpl k h; rw [show k = w.heap.size from e] at this; omega
   have hkw : Kp (FP d m L) w (ChangeMaps.setBlock (wr.drewN n) w.heap.size o') := (hk.drewN n).setBlock (.inr (Nat.le_refl _)) o'
   have hnx : (Instr.next (.pointer (some ⟨w.heap.size, 0, none⟩)) false 0).run Tryz.prog wr = .ok (.tuple #[.bool true, .string x.1, .pointer (some ⟨x.2.blk, 0, none⟩)]) (ChangeMaps.setBlock (wr.drewN n) w.heap.size o') := hnext
   have hen : (Instr.entry (.pointer (some ⟨w.heap.size, 0, none⟩))).run Tryz.prog (ChangeMaps.setBlock (wr.drewN n) w.heap.size o') = .ok (.tuple #[.string x.1, .pointer (some ⟨x.2.blk, 0, none⟩)]) (ChangeMaps.setBlock (wr.drewN n) w.heap.size o') :=
    hent _ (setBlock_at (w := wr.drewN n) hrl o') (by show (wr.heap.setIfInBounds _ o')[m]? = _; rw [Array.getElem?_setIfInBounds_ne hwm])
   have hV : x.1 ∉ V := hpV
   have hgx := gget_some hD2.keys (show (x.1, x.2) ∈ Lc from hx)
   have hI2 := Lib.hid hI'
   obtain ⟨W2, hW2⟩ : ∃ W, W = ChangeMaps.setBlock (wr.drewN n) w.heap.size o' := ⟨_, rfl⟩
   rw [← hW2] at hD2 hkw hnx hen hI2
   obtain ⟨k, c⟩ := x
   simp only at hnx hen hV hgx hI2
   have hfo := hD2.files _ hx
   have hfl := get_lt hfo.1
   obtain ⟨fa, fc, hv, hnc, _⟩ := hfo.2.1.rd
   have hlast := hfo.2.2
   have hfit := hD2.fits
   have hroom := hD2.roomy
   have hmem := mem_len (l := absL Lc) (p := (k, c.abs)) (List.mem_map.2 ⟨(k, c), hx, rfl⟩)
   have hlen : c.data.length ≤ 1073741824 := by simp only [FileR.abs] at hmem; omega
   simp only at hfo hfl hv hlast hnc
   obtain ⟨st, hst⟩ : ∃ st, st = stays keep c.abs := ⟨_, rfl⟩
   have hst1 : st = c.lasts + K % (c.data.length - c.lasts + 1) := by rw [HK.out]; exact hst
   have hmod := Nat.mod_lt K (show 0 < c.data.length - c.lasts + 1 by omega)
   have hst2 : st ≤ c.data.length := by omega
   have hst3 : c.lasts ≤ st := by omega
   have hstz : (c.lasts : Int) + (K : Int) % ((c.data.length : Int) - (c.lasts : Int) + 1) = (st : Int) := by
    rw [hst1]
    have : (c.data.length : Int) - (c.lasts : Int) + 1 = ((c.data.length - c.lasts + 1 : Nat) : Int) := by omega
    rw [this, ← Int.natCast_emod]
    omega
   have cf0 : ∀ n, (W2.drewN n).cell? ⟨c.blk, 0, none⟩ = some (.slice fa c.data.length fc) := fun n => by rw [cell_at (w := W2.drewN n) hfo.1, hv]; rfl
   have cf1 : ∀ n, (W2.drewN n).cell? ⟨c.blk, 1, none⟩ = some (.int .i64 (c.lasts : Int)) := fun n => by rw [cell_at (w := W2.drewN n) hfo.1]; rfl
   have hnz : ¬ ((c.data.length : Int) - (c.lasts : Int) + 1 = 0) := by omega
   have HST := Lib.hid (And.intro hst hst1)
   have HFO := Lib.hid hfo
   have HD2 := Lib.hid hD2
   have HV := Lib.hid hv
   have HVV := Lib.hid hV
   have HG := Lib.hid hgx
   have HM := Lib.hid hx
   clear hst hst1 hmod hfo hv hV hgx hx hD2 hW2 hk2 hnext hent hI' hp hp2 hpV hmem hI hDc
   go_wp2_with fail
   refine wp_region_ord [0,0,0,1,0,1,0,0,0,1,1,0,0,0,1,0,0,0,0,0] [0,1,2,4,6,7,8,11,12,13,3,5,9,10,14,15,16,17,18,19] (by kernel_rfl) (by kernel_rfl) ?_
   repeat (first
    | (apply wpOrd_skip rfl (by decide) rfl; (focus (go_simp; rfl)))
    | (apply wpOrd_pure rfl rfl rfl; (focus (intro _ _; go_simp; (try go_ints); rfl)); (focus (go_simp; rfl)))
    | (apply wpOrd_read rfl rfl rfl; (focus (intro _; go_simp; (try go_ints); rfl)); (focus (go_simp; rfl))))
   refine wpOrd_nil (fun nq => ?_)
   have cs1 : ∀ n, ((W2.drewN nq).drewN n).frozen? ⟨c.blk, 0, none⟩ = false := fun n => free_at (w := W2.drewN n) HFO.out.1 0
   have fs0 : ((W2.drewN nq).frozen? ⟨c.blk, 0, none⟩) = false := free_at (w := W2.drewN nq) HFO.out.1 0
   obtain ⟨W3, hW3⟩ : ∃ W, W = W2.drewN nq := ⟨_, rfl⟩
   have cf0' := cf0 nq
   have cf1' := cf1 nq
   rw [← hW3] at cf0' cf1' fs0 ⊢
   have K3 : Kp No W2 W3 := by rw [hW3]; exact (Kp.refl _ _).drewN nq
   clear cf0 cf1 cs1 hW3
   obtain ⟨q, hq⟩ : ∃ q, q = st - 1 := ⟨_, rfl⟩
   obtain ⟨sec, hsec⟩ : ∃ sec, sec = q / 16 * 16 := ⟨_, rfl⟩
   obtain ⟨fr, hfr⟩ : ∃ fr, fr = max c.lasts sec := ⟨_, rfl⟩
   have hmax2 : (if 1 < (st : Int) then (st : Int) - 1 else 0) = (q : Int) := by split <;> omega
   have hsecz : (q : Int) / 16 * 16 = (sec : Int) := by omega
   have hmax3 : (if c.lasts < sec then (sec : Int) else (c.lasts : Int)) = (fr : Int) := by split <;> omega
   have hq2 : q ≤ st := by omega
   have hsec2 : sec ≤ q := by omega
   have hfr2 : fr ≤ 1073741824 := by omega
   have HFR := Lib.hid (And.intro hq (And.intro hsec hfr))
   clear hq hsec hfr
   go_wp2_with fail
   clear hmax2 hmax3 hsecz hq2 hsec2 hstz hnz hmax
   have hf3 := HFO.out.keep K3 (fun x => x) (fun _ _ x => x)
   have hbk : ∀ g, fa.map (·.block) = some g → g ≠ c.blk := fun g hg e => by
    cases fa with
    | none => cases hg
    | some ad =>
     simp only [Option.map_some, Option.some.injEq] at hg
     obtain ⟨cur, hcur⟩ := hf3.2.1.type g (by rw [HV.out]; simp [Value.ownBlock, hg])
     exact ne_of_type hcur hf3.1 (by decide) e
   have hc3 := set_at hf3.1 0 (.slice fa st st)
   have hcut : Own (W3.setCell ⟨c.blk, 0, none⟩ (.slice fa st st)) 5 1 (.slice fa st st) st (u8s (c.data.take st)) := by
    have h1 := hf3.2.1
    rw [HV.out] at h1
    have h2 := own_cut h1 st hst2
    rw [u8s_take] at h2
    refine h2.keep ((Kp.refl (One c.blk) W3).setCell (p := ⟨c.blk, 0, none⟩) (.inl rfl) _) fun g hg e => ?_
    refine hbk g ?_ e
    cases fa with
    | none => simp [Value.ownBlock] at hg
    | some ad => simpa [Value.ownBlock] using hg
   have K4 : Kp (fun i => i = c.blk ∨ c.v.ownBlock = some i) W3 (W3.setCell ⟨c.blk, 0, none⟩ (.slice fa st st)) := (Kp.refl _ W3).setCell (p := ⟨c.blk, 0, none⟩) (.inl (.inl rfl)) _
   have HOW := Lib.hid hcut
   have HC3 := Lib.hid hc3
   have HF3 := Lib.hid hf3
   clear hcut hc3 hf3 cf0' cf1' fs0
   simp only [List.setIfInBounds_toArray, List.set_cons_zero] at HC3
   obtain ⟨W4, hW4⟩ : ∃ W, W = W3.setCell ⟨c.blk, 0, none⟩ (.slice fa st st) := ⟨_, rfl⟩
   rw [← hW4] at HOW HC3 K4 ⊢
   clear hW4
   have hlenT : (c.data.take st).length = st := by rw [List.length_take]; omega
   have HLT := Lib.hid hlenT
   clear hlenT
   go_loopg [10] (st - fr) (fun gk i wi => ∃ j, fr ≤ j ∧ (j ≤ st ∨ j = fr) ∧ gk = st - j ∧ i = .int .i64 (j : Int) ∧ Hid (Own wi 5 1 (.slice fa st st) st (u8s (torn (c.data.take st) fr j t))) ∧
    Hid (wi.heap[c.blk]? = some (.cells #[.slice fa st st, .int .i64 (c.lasts : Int)] 105 (0, 0))) ∧ Kp (fun i => i = c.blk ∨ c.v.ownBlock = some i) W3 wi)
   case atStart => exact ⟨fr, Nat.le_refl _, .inr rfl, rfl, rfl, by rw [torn_start]; exact HOW.out, HC3.out, K4⟩
   case round =>
    obtain ⟨j, hj1, hj2, rfl, rfl, hO, hB, hK⟩ := hrel
    by_cases hlt : j < st
    ·have hjl : j < (c.data.take st).length := by rw [HLT.out]; exact hlt
     have hrd := hO.out.rd'
     obtain ⟨g, off, hfa, hg, _, hc⟩ := hrd.byte (i := j) (by rw [torn_length]; exact hjl)
     subst hfa
     have htg := torn_get (c.data.take st) fr j t hjl
     rw [htg] at hc
     obtain ⟨y, hy⟩ : ∃ y, y = (c.data.take st)[j]'hjl := ⟨_, rfl⟩
     rw [← hy] at hc
     obtain ⟨cur, hcur⟩ := hO.out.type g rfl
     have hfz := free_at hcur (off + j)
     have hne : c.blk ≠ g := ne_of_type hB.out hcur (by decide)
     have hb0 : wr.cell? ⟨c.blk, 0, none⟩ = some (.slice (some ⟨g, off, none⟩) st st) := by rw [cell_at hB.out]; rfl
     have hx := xor_u8 y t
     have HY := Lib.hid hy
     have hrow : c.v.ownBlock = some g := by rw [HV.out]; rfl
     have HR := Lib.hid hrow
     have HN := Lib.hid hne
     clear hy htg hrd hcur hrow hne
     go_wp2_with fail
     go_roundg (st - (j + 1))
     case measure => omega
     case rel =>
      refine ⟨j + 1, by omega, .inl (by omega), rfl, by go_num, ?_, set_far hB.out (p := ⟨g, off + j, none⟩) HN.out _, hK.setCell (p := ⟨g, off + j, none⟩) (.inl (.inr HR.out)) _⟩
      have h1 := own_store hO.out j hlt (Mer.u8 (y ^^^ t))
      rw [u8s_set, HY.out, ← torn_step (c.data.take st) fr j t hj1 (by rw [HLT.out]; exact hlt), ← HY.out] at h1
      exact h1
    ·have hb1 : wr.cell? ⟨c.blk, 1, none⟩ = some (.int .i64 (c.lasts : Int)) := by rw [cell_at hB.out]; rfl
     have fb1 := free_at hB.out 1
     go_wp2_with fail
     go_roundg (restV (absL L) (k :: V))
     case measure =>
      have hab' := hab.out
      have hm := HM.out
      have hin : (k, c.abs) ∈ absL L := crV_old (by rw [← hab.out]; exact List.mem_map.2 ⟨(k, c), hm, rfl⟩) HVV.out
      have := (filter_step (V := V) (by rw [keys_absL]; exact HD.out.keys) hin HVV.out).2
      simp only at this
      omega
     case rel =>
      have hin : (k, c.abs) ∈ absL L := crV_old (by rw [← hab.out]; exact List.mem_map.2 ⟨(k, c), HM.out, rfl⟩) HVV.out
      have KF : Kp (fun i => i = c.blk ∨ c.v.ownBlock = some i) W2 (wr.setCell ⟨c.blk, 1, none⟩ (.int .i64 (st : Int))) :=
       ((Kp.of_no K3).trans_same hK).setCell (p := ⟨c.blk, 1, none⟩) (.inl (.inl rfl)) _
      have hbf : (wr.setCell ⟨c.blk, 1, none⟩ (.int .i64 (st : Int))).heap[c.blk]? = some (.cells #[.slice fa st st, .int .i64 (st : Int)] 105 (0, 0)) := set_at hB.out 1 _
      have htl : (torn (c.data.take st) fr st t).length = st := by rw [torn_length, HLT.out]
      have hown : Own (wr.setCell ⟨c.blk, 1, none⟩ (.int .i64 (st : Int))) 5 1 (.slice fa st st) (torn (c.data.take st) fr st t).length (u8s (torn (c.data.take st) fr st t)) := by
       rw [htl, torn_full (c.data.take st) fr st j t (by rw [HLT.out]; exact Nat.le_refl _) (by rw [HLT.out]; omega)]
       refine hO.out.keep ((Kp.refl (One c.blk) wr).setCell (p := ⟨c.blk, 1, none⟩) (.inl rfl) _) fun g hg e => ?_
       obtain ⟨cur, hcur⟩ := hO.out.type g hg
       exact ne_of_type hcur hB.out (by decide) e
      have hrow : (Value.slice fa st st).ownBlock = c.v.ownBlock := by rw [HV.out]; cases fa <;> rfl
      have habs : FileR.abs ⟨c.blk, .slice fa st st, torn (c.data.take st) fr st t, st⟩ = crF keep t c.abs := by
       obtain ⟨h1, h2⟩ := HST.out
       obtain ⟨h3, h4, h5⟩ := HFR.out
       show (⟨torn (c.data.take st) fr st t, st⟩ : FileS) = crF keep t c.abs
       unfold crF
       rw [← h1]
       show _ = (⟨torn (c.data.take st) (max c.lasts ((st - 1) / 16 * 16)) st t, st⟩ : FileS)
       rw [h5, h4, h3]
      have htot := totF_gset (l := absL Lc) (k := k) (x := c.abs) (y := ⟨torn (c.data.take st) fr st t, st⟩) (by rw [keys_absL]; exact HD2.out.keys) (by rw [gget_abs, HG.out]; rfl)
      obtain ⟨h1, _, h3⟩ := HD2.out.setFile (c' := ⟨c.blk, .slice fa st st, torn (c.data.take st) fr st t, st⟩) HG.out rfl KF ⟨hbf, hown, by show st ≤ _; rw [htl]; exact Nat.le_refl _⟩ (.inl hrow) (by
       rw [gset_abs]
       simp only [FileR.abs] at htot ⊢
       rw [htl] at htot
       omega)
      obtain ⟨g1, g2⟩ := gset_same HD2.out.keys (c' := ⟨c.blk, .slice fa st st, torn (c.data.take st) fr st t, st⟩) HG.out rfl hrow d m
      have hws : ∀ i, (i = c.blk ∨ c.v.ownBlock = some i) → i < w.heap.size := fun i hi => HD.out.lt i (hfp.out i (.inr (.inr ⟨(k, c), HM.out, hi⟩)))
      have hwm' : ¬ (m = c.blk ∨ c.v.ownBlock = some m) := fun hi => by
       obtain ⟨es, ck, hm, _⟩ := HD2.out.map
       rcases hi with hi | hi
       ·have := HFO.out.1
        rw [← hi, hm] at this
        cases this
       ·obtain ⟨cur, hcur⟩ := HFO.out.2.1.type m hi
        rw [hm] at hcur
        cases hcur
      refine ⟨k :: V, gset Lc k ⟨c.blk, .slice fa st st, torn (c.data.take st) fr st t, st⟩, rfl, ?_, h1, ?_, ?_, fun i hi => hfp.out i (g2 i hi), ?_⟩
      ·refine hI2.out.of_heap (KF.block _ (by have := hI2.out.lt; exact this) fun hi => by have := hws _ hi; omega) (KF.block m hI2.out.map.lt hwm')
      ·show absL _ = _
       rw [gset_abs, habs, hab.out, crV_step (by rw [keys_absL]; exact HD.out.keys) hin]
      ·show ptrL _ = _
       rw [g1, hpt.out]
      ·exact hkw.trans h3 fun i _ hi => hfp.out i hi
end Go.Proofs.YtdibkdgafidjgaaGreatDoor
namespace Go.Proofs.YtdibkdgafidjgaaGreatDoor
open Go.RowKit Go.Mer
set_option maxHeartbeats 400000 in
theorem cut_none (w : World) (d m room : Nat) (fused : Bool) (left : Int) (L : FilesR) (hD : DiskC w d m room fused left L) (name : ByteArray) (hc : gget L name = none)
  (na : Option Addr) (nc : Nat) (hns : Rd w w.heap.size na [Value.string name]) (N : Int) (pv : Value) :
  Calls Tryz.prog 101 #[.pointer (some ⟨d, 0, none⟩), .agg #[.slice na 1 nc, .int .i64 N, pv]] w fun e w' => e = .returned (.int .i64 7) ∧ Kp No w w' := by
 obtain ⟨g, off, rfl, hg, _, hcn⟩ := hns.at_ (i := 0) rfl
 simp only [Nat.add_zero] at hcn
 have FA := facts hD (nc := nc) (N := N) (pv := pv) hcn
 have f1 := FA.d0
 have f2 := FA.d1
 have f3 := FA.b0
 have f4 := FA.b1
 have f5 := FA.b2
 have f6 := FA.nm
 have f7 := FA.look
 have f8 := FA.many
 have f9 := FA.dr
 have hdl := get_lt hD.cell
 have H1 : Kp No w (w.alloc (.cells #[.slice (some ⟨g, off, none⟩) 1 nc, .int .i64 N, pv] 125)) := (Kp.refl _ _).alloc _
 have HD := Lib.hid hD
 clear FA hns hcn
 rw [hc] at f7
 simp only [Option.map_none, Option.getD_none] at f7
 obtain ⟨W1, hW1⟩ : ∃ W, W = w.alloc (.cells #[.slice (some ⟨g, off, none⟩) 1 nc, .int .i64 N, pv] 125) := ⟨_, rfl⟩
 clear hc f8 f1 f5 hD
 go_enter Tryz.func101, Tryz.ntmps101
 go_wp2_with fail
 rw [← hW1] at f2 f3 f4 f6 f7 f9 H1 ⊢
 skip
 clear hW1
 refine wp_region_ord [0,0,0,1,0,1,0,1,1,0] [0,1,2,4,3,5,6,7,8,9] (by kernel_rfl) (by kernel_rfl) ?_
 repeat (first
  | (apply wpOrd_skip rfl (by decide) rfl; (focus (go_simp; rfl)))
  | (apply wpOrd_pure rfl rfl rfl; (focus (intro _ _; go_simp; (try go_ints); rfl)); (focus (go_simp; rfl)))
  | (apply wpOrd_read rfl rfl rfl; (focus (intro _; go_simp; (try go_ints); rfl)); (focus (go_simp; rfl))))
 refine wpOrd_nil (fun nq => ?_)
 go_wp2_with fail
 go_ret
 exact ⟨rfl, H1.drewN _⟩
set_option maxHeartbeats 400000 in
theorem cut_bad (w : World) (d m room : Nat) (fused : Bool) (left : Int) (L : FilesR) (hD : DiskC w d m room fused left L) (name : ByteArray) (c : FileR) (hc : gget L name = some c)
  (na : Option Addr) (nc : Nat) (hns : Rd w w.heap.size na [Value.string name]) (N : Int) (pv : Value) (hN : N < 0 ∨ (c.data.length : Int) < N) :
  Calls Tryz.prog 101 #[.pointer (some ⟨d, 0, none⟩), .agg #[.slice na 1 nc, .int .i64 N, pv]] w fun e w' => e = .returned (.int .i64 1) ∧ Kp No w w' := by
 obtain ⟨g, off, rfl, hg, _, hcn⟩ := hns.at_ (i := 0) rfl
 simp only [Nat.add_zero] at hcn
 have FA := facts hD (nc := nc) (N := N) (pv := pv) hcn
 have f1 := FA.d0
 have f2 := FA.d1
 have f3 := FA.b0
 have f4 := FA.b1
 have f5 := FA.b2
 have f6 := FA.nm
 have f7 := FA.look
 have f8 := FA.many
 have f9 := FA.dr
 have hdl := get_lt hD.cell
 have H1 : Kp No w (w.alloc (.cells #[.slice (some ⟨g, off, none⟩) 1 nc, .int .i64 N, pv] 125)) := (Kp.refl _ _).alloc _
 have HD := Lib.hid hD
 clear FA hns hcn
 rw [hc] at f7
 simp only [Option.map_some, Option.getD_some, FileR.ptr] at f7
 obtain ⟨W1, hW1⟩ : ∃ W, W = w.alloc (.cells #[.slice (some ⟨g, off, none⟩) 1 nc, .int .i64 N, pv] 125) := ⟨_, rfl⟩
 have hf := hD.files _ (gget_mem hc)
 obtain ⟨fa, fc, hv, _⟩ := hf.2.1.rd
 have cf0 : ∀ n, (W1.drewN n).cell? ⟨c.blk, 0, none⟩ = some (.slice fa c.data.length fc) := fun n => by
  rw [hW1, cell_at ((H1.drewN n).get hf.1 fun x => x), hv]; rfl
 clear hc f8 f1 f5 hD hf hv
 go_enter Tryz.func101, Tryz.ntmps101
 go_wp2_with fail
 rw [← hW1] at f2 f3 f4 f6 f7 f9 H1 ⊢
 skip
 clear hW1
 refine wp_region_ord [0,0,0,1,0,1,0,1,1,0] [0,1,2,4,3,5,6,7,8,9] (by kernel_rfl) (by kernel_rfl) ?_
 repeat (first
  | (apply wpOrd_skip rfl (by decide) rfl; (focus (go_simp; rfl)))
  | (apply wpOrd_pure rfl rfl rfl; (focus (intro _ _; go_simp; (try go_ints); rfl)); (focus (go_simp; rfl)))
  | (apply wpOrd_read rfl rfl rfl; (focus (intro _; go_simp; (try go_ints); rfl)); (focus (go_simp; rfl))))
 refine wpOrd_nil (fun nq => ?_)
 go_wp2_with fail
 obtain ⟨W2, hW2⟩ : ∃ W, W = W1.drewN nq := ⟨_, rfl⟩
 have K2 : ∀ n, Kp No W1 (W2.drewN n) := fun n => by rw [hW2]; exact (f9 nq).drewN n
 have g4 := fun n => f4 _ (K2 n)
 have g0 : ∀ n, (W2.drewN n).cell? ⟨c.blk, 0, none⟩ = some (.slice fa c.data.length fc) := fun n => by rw [hW2, World.drewN_drewN]; exact cf0 _
 have H2 : Kp No w W2 := by rw [hW2]; exact H1.drewN nq
 rw [← hW2]
 clear hW2 f2 f3 f4 f6 f7 f9 cf0
 by_cases h0 : N < 0
 ·have hdec : decide (N < 0) = true := by simpa using h0
  refine wp_region_ord [0,1,0,0,0,1,0,0,0,1,1,0,0,0] [0,1,2,3,4,6,7,8,5,9,10,11,12,13] (by kernel_rfl) (by kernel_rfl) ?_
  repeat (first
   | (apply wpOrd_skip rfl (by decide) rfl; (focus (go_simp; rfl)))
   | (apply wpOrd_pure rfl rfl rfl; (focus (intro _ _; go_simp; (try go_ints); rfl)); (focus (go_simp; rfl)))
   | (apply wpOrd_read rfl rfl rfl; (focus (intro _; go_simp; (try go_ints); rfl)); (focus (go_simp; rfl))))
  refine wpOrd_nil (fun nq => ?_)
  go_wp2_with fail
  go_ret
  exact ⟨rfl, H2.drewN _⟩
 ·have h1 : (c.data.length : Int) < N := hN.resolve_left h0
  have hdec : decide (N < 0) = false := by simpa using h0
  have hdec1 : decide ((c.data.length : Int) < N) = true := by simpa using h1
  refine wp_region_ord [0,1,0,0,0,1,0,0,0,1,1,0,0,0] [0,1,2,3,4,6,7,8,5,9,10,11,12,13] (by kernel_rfl) (by kernel_rfl) ?_
  repeat (first
   | (apply wpOrd_skip rfl (by decide) rfl; (focus (go_simp; rfl)))
   | (apply wpOrd_pure rfl rfl rfl; (focus (intro _ _; go_simp; (try go_ints); rfl)); (focus (go_simp; rfl)))
   | (apply wpOrd_read rfl rfl rfl; (focus (intro _; go_simp; (try go_ints); rfl)); (focus (go_simp; rfl))))
  refine wpOrd_nil (fun nq => ?_)
  go_wp2_with fail
  go_ret
  exact ⟨rfl, H2.drewN _⟩
set_option maxHeartbeats 800000 in
theorem cut_some (w : World) (d m room : Nat) (fused : Bool) (left : Int) (L : FilesR) (hD : DiskC w d m room fused left L) (name : ByteArray) (c : FileR) (hc : gget L name = some c)
  (na : Option Addr) (nc : Nat) (hns : Rd w w.heap.size na [Value.string name]) (N : Int) (pv : Value) (k : Nat) (hN : N = (k : Int)) (hk : k ≤ c.data.length) :
  Calls Tryz.prog 101 #[.pointer (some ⟨d, 0, none⟩), .agg #[.slice na 1 nc, .int .i64 N, pv]] w fun e w' =>
   e = .returned (.int .i64 0) ∧ ∃ v, DiskC w' d m room fused left (gset L name ⟨c.blk, v, c.data.take k, min c.lasts k⟩) ∧ Foot (FP d m L) (FP d m (gset L name ⟨c.blk, v, c.data.take k, min c.lasts k⟩)) w ∧ Kp (FP d m L) w w' := by
 subst hN
 have HC := Lib.hid hc
 obtain ⟨N, hNN⟩ : ∃ N : Int, N = (k : Int) := ⟨_, rfl⟩
 rw [← hNN]
 have HNN := Lib.hid hNN
 clear hNN
 obtain ⟨g, off, rfl, hg, _, hcn⟩ := hns.at_ (i := 0) rfl
 simp only [Nat.add_zero] at hcn
 have FA := facts hD (nc := nc) (N := N) (pv := pv) hcn
 have f1 := FA.d0
 have f2 := FA.d1
 have f3 := FA.b0
 have f4 := FA.b1
 have f5 := FA.b2
 have f6 := FA.nm
 have f7 := FA.look
 have f8 := FA.many
 have f9 := FA.dr
 have hdl := get_lt hD.cell
 have H1 : Kp No w (w.alloc (.cells #[.slice (some ⟨g, off, none⟩) 1 nc, .int .i64 N, pv] 125)) := (Kp.refl _ _).alloc _
 have HD := Lib.hid hD
 clear FA hns hcn
 rw [hc] at f7
 simp only [Option.map_some, Option.getD_some, FileR.ptr] at f7
 obtain ⟨W1, hW1⟩ : ∃ W, W = w.alloc (.cells #[.slice (some ⟨g, off, none⟩) 1 nc, .int .i64 N, pv] 125) := ⟨_, rfl⟩
 have hf := hD.files _ (gget_mem hc)
 obtain ⟨fa, fc, hv, hcap, _⟩ := hf.2.1.rd
 have cf0 : ∀ n, (W1.drewN n).cell? ⟨c.blk, 0, none⟩ = some (.slice fa c.data.length fc) := fun n => by
  rw [hW1, cell_at ((H1.drewN n).get hf.1 fun x => x), hv]; rfl
 have HF := Lib.hid hf
 have HV := Lib.hid hv
 clear hc f8 f1 f5 hD hf hv
 go_enter Tryz.func101, Tryz.ntmps101
 go_wp2_with fail
 rw [← hW1] at f2 f3 f4 f6 f7 f9 H1 ⊢
 skip
 clear hW1
 refine wp_region_ord [0,0,0,1,0,1,0,1,1,0] [0,1,2,4,3,5,6,7,8,9] (by kernel_rfl) (by kernel_rfl) ?_
 repeat (first
  | (apply wpOrd_skip rfl (by decide) rfl; (focus (go_simp; rfl)))
  | (apply wpOrd_pure rfl rfl rfl; (focus (intro _ _; go_simp; (try go_ints); rfl)); (focus (go_simp; rfl)))
  | (apply wpOrd_read rfl rfl rfl; (focus (intro _; go_simp; (try go_ints); rfl)); (focus (go_simp; rfl))))
 refine wpOrd_nil (fun nq => ?_)
 go_wp2_with fail
 obtain ⟨W2, hW2⟩ : ∃ W, W = W1.drewN nq := ⟨_, rfl⟩
 have K2 : ∀ n, Kp No W1 (W2.drewN n) := fun n => by rw [hW2]; exact (f9 nq).drewN n
 have g4 := fun n => f4 _ (K2 n)
 have g0 : ∀ n, (W2.drewN n).cell? ⟨c.blk, 0, none⟩ = some (.slice fa c.data.length fc) := fun n => by rw [hW2, World.drewN_drewN]; exact cf0 _
 have H2 : Kp No w W2 := by rw [hW2]; exact H1.drewN nq
 rw [HNN.out] at g4
 rw [← hW2]
 have F4 := Lib.hid f4
 clear hW2 f2 f3 f4 f6 f7 f9 cf0
 have hdec : decide (c.data.length < k) = false := by simpa using hk
 refine wp_region_ord [0,1,0,0,0,1,0,0,0,1,1,0,0,0] [0,1,2,3,4,6,7,8,5,9,10,11,12,13] (by kernel_rfl) (by kernel_rfl) ?_
 repeat (first
  | (apply wpOrd_skip rfl (by decide) rfl; (focus (go_simp; rfl)))
  | (apply wpOrd_pure rfl rfl rfl; (focus (intro _ _; go_simp; (try go_ints); rfl)); (focus (go_simp; rfl)))
  | (apply wpOrd_read rfl rfl rfl; (focus (intro _; go_simp; (try go_ints); rfl)); (focus (go_simp; rfl))))
 refine wpOrd_nil (fun nq => ?_)
 go_wp2_with fail
 obtain ⟨W3, hW3⟩ : ∃ W, W = W2.drewN nq := ⟨_, rfl⟩
 have H3 : Kp No w W3 := by rw [hW3]; exact H2.drewN nq
 have K3 : ∀ n, Kp No W1 (W3.drewN n) := fun n => by rw [hW3]; exact (K2 nq).drewN n
 have e4 : ∀ n, (W3.drewN n).cell? ⟨w.heap.size, 1, none⟩ = some (.int .i64 (k : Int)) := fun n => by rw [← HNN.out]; exact F4.out _ (K3 n)
 have hf3 := HF.out.keep H3 (fun x => x) (fun _ _ x => x)
 have e0 : ∀ n, (W3.drewN n).cell? ⟨c.blk, 0, none⟩ = some (.slice fa c.data.length fc) := fun n => by rw [cell_at (w := W3.drewN n) hf3.1, HV.out]; rfl
 have s0 : ∀ n, (W3.drewN n).frozen? ⟨c.blk, 0, none⟩ = false := fun n => free_at (w := W3.drewN n) hf3.1 0
 rw [← hW3]
 have HF3 := Lib.hid hf3
 clear hW3 g4 g0 hdec hf3
 have hkf : k ≤ fc := by omega
 have hd1 : decide (fc < k) = false := by simpa using hkf
 refine wp_region_ord [0,0,0,0,1,0,1,0,1,0,0,0,2] [0,1,2,3,5,7,4,6,8,9,10,11,12] (by kernel_rfl) (by kernel_rfl) ?_
 repeat (first
  | (apply wpOrd_skip rfl (by decide) rfl; (focus (go_simp; rfl)))
  | (apply wpOrd_pure rfl rfl rfl; (focus (intro _ _; go_simp; (try go_ints); rfl)); (focus (go_simp; rfl)))
  | (apply wpOrd_read rfl rfl rfl; (focus (intro _; go_simp; (try go_ints); rfl)); (focus (go_simp; rfl))))
 refine wpOrd_eff rfl rfl (fun ns => ?_)
 go_wp2_with fail
 refine wpOrd_nil (fun nq => ?_)
 go_wp2_with fail
 have hc3 := set_at (w := W3.drewN ns) HF3.out.1 0 (.slice fa k k)
 obtain ⟨W4, hW4⟩ : ∃ W, W = ((W3.drewN ns).setCell ⟨c.blk, 0, none⟩ (.slice fa k k)).drewN nq := ⟨_, rfl⟩
 have K4 : Kp (One c.blk) W3 W4 := by rw [hW4]; exact (((Kp.refl (One c.blk) W3).drewN ns).setCell (p := ⟨c.blk, 0, none⟩) (.inl rfl) _).drewN nq
 have hc4 : W4.heap[c.blk]? = some (.cells #[.slice fa k k, .int .i64 (c.lasts : Int)] 105 (0, 0)) := by rw [hW4]; exact hc3
 have hbs : w.heap.size < W3.heap.size := World.block_lt_of_cell? (W3.drewN 0) _ (e4 0)
 have hbl : c.blk < w.heap.size := get_lt HF.out.1
 have q4 : ∀ n, (W4.drewN n).cell? ⟨w.heap.size, 1, none⟩ = some (.int .i64 (k : Int)) := fun n => ((K4.drewN n).cell (p := ⟨w.heap.size, 1, none⟩) hbs (fun h => by have h' : w.heap.size = c.blk := h; omega)).trans (e4 0)
 have q1 : ∀ n, (W4.drewN n).cell? ⟨c.blk, 1, none⟩ = some (.int .i64 (c.lasts : Int)) := fun n => by rw [cell_at (w := W4.drewN n) hc4]; rfl
 have s1 : ∀ n, (W4.drewN n).frozen? ⟨c.blk, 1, none⟩ = false := fun n => free_at (w := W4.drewN n) hc4 1
 rw [← hW4]
 have HC4 := Lib.hid hc4
 clear hW4 hc3 hc4 e0 e4 s0
 obtain ⟨lm, hlm⟩ : ∃ x, x = min c.lasts k := ⟨_, rfl⟩
 have hm1 : (if k < c.lasts then (k : Int) else (c.lasts : Int)) = (lm : Int) := by split <;> omega
 have hm2 : (if c.lasts < k then (c.lasts : Int) else (k : Int)) = (lm : Int) := by split <;> omega
 have hm3 : (if (k : Int) < (c.lasts : Int) then (k : Int) else (c.lasts : Int)) = (lm : Int) := by split <;> omega
 have HLM := Lib.hid hlm
 clear hlm
 refine wp_region_ord [0,0,0,0,1,0,1,1,0,0,2] [0,1,2,3,5,4,6,7,8,9,10] (by kernel_rfl) (by kernel_rfl) ?_
 repeat (first
  | (apply wpOrd_skip rfl (by decide) rfl; (focus (go_simp; rfl)))
  | (apply wpOrd_pure rfl rfl rfl; (focus (intro _ _; go_simp; (try go_ints); rfl)); (focus (go_simp; rfl)))
  | (apply wpOrd_read rfl rfl rfl; (focus (intro _; go_simp; (try go_ints); rfl)); (focus (go_simp; rfl))))
 refine wpOrd_eff rfl rfl (fun nt => ?_)
 go_wp2_with fail
 refine wpOrd_nil (fun nq => ?_)
 go_wp2_with fail
 go_ret
 have kE : Kp (One c.blk) W3 (((W4.drewN nt).setCell ⟨c.blk, 1, none⟩ (.int .i64 (lm : Int))).drewN nq) := ((K4.drewN nt).setCell (p := ⟨c.blk, 1, none⟩) (.inl rfl) _).drewN nq
 have hcE : (((W4.drewN nt).setCell ⟨c.blk, 1, none⟩ (.int .i64 (lm : Int))).drewN nq).heap[c.blk]? = some (.cells #[.slice fa k k, .int .i64 (lm : Int)] 105 (0, 0)) := set_at (w := W4.drewN nt) HC4.out 1 _
 have h1 := HF3.out.2.1
 rw [HV.out] at h1
 have h2 := own_cut h1 k hk
 rw [u8s_take] at h2
 have hl : (c.data.take k).length = k := by rw [List.length_take]; omega
 have hown : Own (((W4.drewN nt).setCell ⟨c.blk, 1, none⟩ (.int .i64 (lm : Int))).drewN nq) 5 1 (.slice fa k k) (c.data.take k).length (u8s (c.data.take k)) := by
  rw [hl]
  refine h2.keep kE fun g hg e => ?_
  obtain ⟨cur, hcur⟩ := h2.type g hg
  exact ne_of_type hcur HF3.out.1 (by decide) e
 have hrow : (Value.slice fa k k).ownBlock = c.v.ownBlock := by rw [HV.out]; cases fa <;> rfl
 have hlmk : lm ≤ k := by rw [HLM.out]; exact Nat.min_le_right _ _
 have htot := totF_gset (l := absL L) (k := name) (x := c.abs) (y := ⟨c.data.take k, lm⟩) (by rw [keys_absL]; exact HD.out.keys) (by rw [gget_abs, HC.out]; rfl)
 have hfits := HD.out.fits
 obtain ⟨r1, r2, r3⟩ := (HD.out.keep_no H3).setFile (c' := ⟨c.blk, .slice fa k k, c.data.take k, lm⟩) HC.out rfl (kE.mono fun i _ hi => .inl hi) ⟨hcE, hown, by show lm ≤ _; rw [hl]; exact hlmk⟩ (.inl hrow) (by
  rw [gset_abs]
  simp only [FileR.abs] at htot ⊢
  rw [hl] at htot
  omega)
 have hlm := HLM.out
 subst hlm
 exact ⟨rfl, _, r1, fun i hi => (r2 i hi).imp id fun h => Nat.le_trans H3.size h, (Kp.of_no H3).trans_same r3⟩
def cuCode (s : DSt) (name : ByteArray) (n : Int) : Int :=
 match gget s.files name with
 | none => 7
 | some x => if n < 0 ∨ (x.data.length : Int) < n then 1 else 0
def cuFiles (l : Files) (name : ByteArray) (n : Int) : Files :=
 match gget l name with
 | some x => gset l name ⟨x.data.take n.toNat, min x.lasts n.toNat⟩
 | none => l
def cuS (s : DSt) (name : ByteArray) (n : Int) : Int × DSt := five s [name] (cuCode s name n) (cuFiles s.files name n)
set_option maxHeartbeats 400000 in
theorem Cut_any (w : World) (d : Nat) (s : DSt) (F : Nat → Prop) (hD : DiskAt w d s F) (name : ByteArray) (n : Int) :
  Calls Tryz.prog 69 #[.pointer (some ⟨d, 0, none⟩), .string name, .int .i64 n] w (Said5 w d F (cuS s name n)) := by
 obtain ⟨m, fused, left, L, hC, hf, hs, hF, hFs⟩ := hD
 have h1 : Kp No w (w.alloc (.cells #[.string name] 9)) := (Kp.refl _ _).alloc _
 have hcf : ∀ args w, (callFunc 101 args).run Tryz.prog w = .ok (.enter 101 args) w := fun args w => by simp [go_sem]
 have hg := gate_five (w.alloc (.cells #[.string name] 9)) d m fused left L s F (hC.keep_no h1) hf hs hF (fun k hk => h1.lt (hFs k hk)) 101 hcf (some ⟨w.heap.size, 0, none⟩) 1 [name] n (.slice none 0 0)
  (name_rd w name) (by simp) (cuCode s name n) (cuFiles s.files name n) (by
   intro _ w1 hw1
   have hC1 := (hC.keep_no h1).keep_no hw1
   have hn1 := ((name_rd w name).keep hw1 fun _ _ x => x).mono hw1.size (Nat.le_refl _)
   cases hc : gget L name with
   | none =>
    have hga : gget s.files name = none := by rw [hs, gget_abs, hc]; rfl
    refine (cut_none w1 d m s.room fused left L hC1 name hc (some ⟨w.heap.size, 0, none⟩) 1 hn1 n (.slice none 0 0)).mono fun e w2 ⟨he, hw⟩ => ?_
    have e7 : cuCode s name n = 7 := by unfold cuCode; rw [hga]
    rw [e7]
    exact ⟨he, L, hC1.keep_no hw, rfl, Foot.refl _ _, Kp.of_no hw⟩
   | some c =>
    have hga : gget s.files name = some c.abs := by rw [hs, gget_abs, hc]; rfl
    by_cases hbad : n < 0 ∨ (c.data.length : Int) < n
    ·refine (cut_bad w1 d m s.room fused left L hC1 name c hc (some ⟨w.heap.size, 0, none⟩) 1 hn1 n (.slice none 0 0) hbad).mono fun e w2 ⟨he, hw⟩ => ?_
     have e1 : cuCode s name n = 1 := by unfold cuCode; rw [hga]; exact if_pos hbad
     rw [e1]
     exact ⟨he, L, hC1.keep_no hw, rfl, Foot.refl _ _, Kp.of_no hw⟩
    ·refine (cut_some w1 d m s.room fused left L hC1 name c hc (some ⟨w.heap.size, 0, none⟩) 1 hn1 n (.slice none 0 0) n.toNat (by omega) (by omega)).mono fun e w2 ⟨he, v, h2, h3, h4⟩ => ?_
     have e0 : cuCode s name n = 0 := by unfold cuCode; rw [hga]; exact if_neg hbad
     have ef : cuFiles s.files name n = gset (absL L) name ⟨c.data.take n.toNat, min c.lasts n.toNat⟩ := by unfold cuFiles; rw [hga, hs]; rfl
     rw [e0, ef]
     exact ⟨he, _, h2, by rw [gset_abs]; rfl, h3, h4⟩)
 have HG := Lib.hid hg
 clear hg hC hF hFs hf hs
 go_enter Tryz.func69, Tryz.ntmps69
 go_wp2_with fail
 refine (HG.out).mono ?_
 rintro e w' ⟨rfl, F', h2, h3, h4⟩
 have H2 := Lib.hid h2
 have H3 := Lib.hid h3
 have H4 := Lib.hid h4
 clear h2 h3 h4
 go_wp2_with fail
 go_ret
 exact ⟨rfl, F', H2.out, fun k hk => (H3.out k hk).imp id fun h => Nat.le_trans h1.size h, (Kp.of_no h1).trans_same H4.out⟩
end Go.Proofs.YtdibkdgafidjgaaGreatDoor

