/-
  disk: Write, Sync, Fuse, Read, as the document says them.
-/
import Derived.Test.YtenidddbjobblaaDiskGate
import Derived.Test.YtenidddbjobblaaDiskWr1
import Derived.Test.YtenidddbjobblaaDiskWr2
import Derived.Test.YtenidddbjobblaaDiskWr3
namespace Go.Proofs.Ytenidddbjobblaa
open Go.RowKit Go.Mer

/-- One of the five: what it answers, and the disk behind it, where it alone would answer 'code' and leave the files 'fs'. -/
def five (s : DSt) (ns : List ByteArray) (code : Int) (fs : Files) : Int × DSt :=
  if s.fuse = some 0 then (9, s) else if ns.all nameOk = true then (if code = 0 then (0, { s with fuse := s.fuse.map (· - 1), files := fs }) else (code, s)) else (1, s)

/-- What is said of one of the five behind the call. -/
def Said5 (w : World) (d : Nat) (F : Nat → Prop) (r : Int × DSt) (e : Ending) (w' : World) : Prop :=
  e = .returned (.int .i64 r.1) ∧ ∃ F', DiskAt w' d r.2 F' ∧ Foot F F' w ∧ Kp F w w'

theorem fuse_zero {fused : Bool} {left : Int} (h0 : 0 ≤ left) : fuseOf fused left = some 0 ↔ fused = true ∧ left = 0 := by
  unfold fuseOf
  cases fused
  · simp
  · simp; omega

theorem gate_five (w : World) (d m : Nat) (fused : Bool) (left : Int) (L : FilesR) (s : DSt) (F : Nat → Prop) (hD : DiskC w d m s.room fused left L) (hf : s.fuse = fuseOf fused left) (hs : s.files = absL L)
    (hF : ∀ k, FP d m L k → F k) (hFs : ∀ k, F k → k < w.heap.size)
    (k : FuncId) (hcf : ∀ args w, (callFunc k args).run Try.prog w = .ok (.enter k args) w) (na : Option Addr) (nc : Nat) (ns : List ByteArray) (N : Int) (pv : Value)
    (hns : Rd w w.heap.size na (ns.map Value.string)) (hnl : ns.length ≤ 1000) (code : Int) (fs : Files)
    (hk : ns.all nameOk = true → ∀ w1, Kp No w w1 → Calls Try.prog k #[.pointer (some ⟨d, 0, none⟩), .agg #[.slice na ns.length nc, .int .i64 N, pv]] w1 fun e w2 =>
      e = .returned (.int .i64 code) ∧ ∃ L', DiskC w2 d m s.room fused left L' ∧ absL L' = (if code = 0 then fs else absL L) ∧ Foot (FP d m L) (FP d m L') w1 ∧ Kp (FP d m L) w1 w2) :
    Calls Try.prog 29 #[.pointer (some ⟨d, 0, none⟩), .func (.func k) #[.pointer (some ⟨d, 0, none⟩)] #[], .agg #[.slice na ns.length nc, .int .i64 N, pv]] w (Said5 w d F (five s ns code fs)) := by
  have hsame : ∀ w', Kp No w w' → ∃ F', DiskAt w' d s F' ∧ Foot F F' w ∧ Kp F w w' := fun w' h =>
    ⟨F, ⟨m, fused, left, L, hD.keep_no h, hf, hs, hF, fun k hk => h.lt (hFs k hk)⟩, Foot.refl _ _, Kp.of_no h⟩
  by_cases h0 : s.fuse = some 0
  · have h1 := h0
    rw [hf] at h1
    obtain ⟨rfl, rfl⟩ := (fuse_zero hD.left0).1 h1
    refine (gate_dead d s.room (.map (some m)) _ _ w ⟨_, _, _, rfl⟩ hD.cell).mono fun e w' ⟨he, hw⟩ => ?_
    have e5 : five s ns code fs = (9, s) := by simp [five, h0]
    rw [e5]
    exact ⟨he, hsame w' hw⟩
  · have hpos : fused = false ∨ 0 < left := by
      cases fused
      · exact .inl rfl
      · right
        have := hD.left0
        have h1 : ¬ (left = 0) := fun e => h0 (by rw [hf]; exact (fuse_zero hD.left0).2 ⟨rfl, e⟩)
        omega
    by_cases hn : ns.all nameOk = true
    · refine (gate_does d k s.room left (.map (some m)) fused hpos hD.leftM na nc ns N pv w hD.cell hns hnl (by simpa using hn)
        (fun r w2 => r = code ∧ ∃ L', DiskC w2 d m s.room fused left L' ∧ absL L' = (if code = 0 then fs else absL L) ∧ Foot (FP d m L) (FP d m L') w ∧ Kp (FP d m L) w w2)
        (fun r w2 ⟨_, L', h, _⟩ => ⟨_, _, h.cell⟩) hcf (fun w1 hw1 => (hk hn w1 hw1).mono fun e w2 ⟨he, L', h1, h2, h3, h4⟩ => ⟨code, he, rfl, L', h1, h2, fun i hi => (h3 i hi).imp id fun h => Nat.le_trans hw1.size h, (Kp.of_no hw1).trans_same h4⟩)).mono ?_
      rintro e w' ⟨r, w2, ⟨rfl, L', h1, h2, h3, h4⟩, rfl, rfl⟩
      have hFk : Kp F w w2 := h4.mono fun i _ hi => hF i hi
      have hFt : Foot F (fun i => FP d m L' i) w := fun i hi => (h3 i hi).imp (hF i) id
      by_cases hc : r = 0
      · subst hc
        have e5 : five s ns 0 fs = (0, { s with fuse := s.fuse.map (· - 1), files := fs }) := by simp [five, h0, hn]
        rw [e5]
        rw [if_pos rfl] at h2
        cases fused
        · refine ⟨rfl, fun i => FP d m L' i, ⟨m, false, left, L', ?_, ?_, h2.symm, fun _ h => h, fun i hi => ?_⟩, hFt, ?_⟩
          · simpa using h1
          · rw [hf]; rfl
          · have := h1.lt i hi
            simpa using this
          · simpa using hFk
        · have hl : 0 < left := hpos.resolve_left (by simp)
          rw [if_pos ⟨rfl, rfl⟩]
          have hset : Kp (One d) w2 (w2.setCell ⟨d, 3, none⟩ (.int .i64 (left - 1))) := (Kp.refl (One d) _).setCell (p := ⟨d, 3, none⟩) (.inl rfl) _
          refine ⟨rfl, fun i => FP d m L' i, ⟨m, true, left - 1, L', h1.setFuse true (left - 1) (by omega) (by have := h1.leftM; omega) hset ?_, ?_, h2.symm, fun _ h => h, fun i hi => ?_⟩, hFt, ?_⟩
          · have := set_at h1.cell 3 (.int .i64 (left - 1))
            simpa using this
          · rw [hf]
            simp [fuseOf]
          · exact hset.lt (h1.lt i hi)
          · exact hFk.trans hset fun i _ hi => hF i (by rw [show i = d from hi]; exact .inl rfl)
      · have e5 : five s ns r fs = (r, s) := by simp [five, h0, hn, hc]
        rw [e5]
        rw [if_neg hc] at h2
        rw [if_neg (fun h => hc h.1)]
        exact ⟨rfl, fun i => FP d m L' i, ⟨m, fused, left, L', h1, hf, by rw [h2]; exact hs, fun _ h => h, fun i hi => h1.lt i hi⟩, hFt, hFk⟩
    · have hn' : ns.all nameOk = false := by simpa using hn
      refine (gate_arg d s.room left (.map (some m)) _ fused hpos na nc ns N pv w hD.cell hns hnl hn').mono fun e w' ⟨he, hw⟩ => ?_
      have e5 : five s ns code fs = (1, s) := by simp [five, h0, hn']
      rw [e5]
      exact ⟨he, hsame w' hw⟩

/-- The one name that is handed in. -/
theorem name_rd (w : World) (name : ByteArray) : Rd (w.alloc (.cells #[.string name] 9)) (w.alloc (.cells #[.string name] 9)).heap.size (some ⟨w.heap.size, 0, none⟩) ([name].map Value.string) :=
  Rd.row (off := 0) (n := 1) (heap_alloc_new w _) (by simp) (by simp) (Nat.le_refl _)

/-- Write's answer, and the files behind it, past the gate. -/
def wrCode (s : DSt) (name : ByteArray) (p : List UInt8) : Int := if s.room < totF s.files + p.length ∨ (gget s.files name = none ∧ 4096 ≤ s.files.length) then 6 else 0
def wrFiles (l : Files) (name : ByteArray) (p : List UInt8) : Files :=
  match gget l name with
  | some x => gset l name ⟨x.data ++ p, x.lasts⟩
  | none => gset l name ⟨p, 0⟩
def wrS (s : DSt) (name : ByteArray) (p : List UInt8) : Int × DSt := five s [name] (wrCode s name p) (wrFiles s.files name p)

set_option maxHeartbeats 400000 in
theorem Write_any (w : World) (d : Nat) (s : DSt) (F : Nat → Prop) (hD : DiskAt w d s F) (name : ByteArray) (pa : Option Addr) (pc : Nat) (p : List UInt8) (hp : Rd w w.heap.size pa (u8s p)) (hpm : p.length ≤ 140737488355328) :
    Calls Try.prog 11 #[.pointer (some ⟨d, 0, none⟩), .string name, .slice pa p.length pc] w (Said5 w d F (wrS s name p)) := by
  obtain ⟨m, fused, left, L, hC, hf, hs, hF, hFs⟩ := hD
  have h1 : Kp No w (w.alloc (.cells #[.string name] 9)) := (Kp.refl _ _).alloc _
  have hcf : ∀ args w, (callFunc 30 args).run Try.prog w = .ok (.enter 30 args) w := fun args w => by simp [go_sem]
  have hg := gate_five (w.alloc (.cells #[.string name] 9)) d m fused left L s F (hC.keep_no h1) hf hs hF (fun k hk => h1.lt (hFs k hk)) 30 hcf (some ⟨w.heap.size, 0, none⟩) 1 [name] 0 (.slice pa p.length pc)
    (name_rd w name) (by simp) (wrCode s name p) (wrFiles s.files name p) (by
      intro _ w1 hw1
      have hC1 := (hC.keep_no h1).keep_no hw1
      have hp1 := ((hp.keep h1 fun _ _ x => x).keep hw1 fun _ _ x => x).mono (Nat.le_trans h1.size hw1.size) (Nat.le_refl _)
      have hn1 := ((name_rd w name).keep hw1 fun _ _ x => x).mono hw1.size (Nat.le_refl _)
      have hroom : s.files.length = L.length := by rw [hs]; simp [absL]
      by_cases hr : s.room < totF (absL L) + p.length
      · refine (write_full w1 d m s.room fused left L hC1 name (some ⟨w.heap.size, 0, none⟩) 1 hn1 0 pa pc p hpm hr).mono fun e w2 ⟨he, hw⟩ => ?_
        have e6 : wrCode s name p = 6 := by simp [wrCode, hs, hr]
        rw [e6]
        exact ⟨he, L, hC1.keep_no hw, rfl, Foot.refl _ _, Kp.of_no hw⟩
      · cases hc : gget L name with
        | none =>
          have hga : gget s.files name = none := by rw [hs, gget_abs, hc]; rfl
          by_cases hmny : 4096 ≤ L.length
          · refine (write_many w1 d m s.room fused left L hC1 name (some ⟨w.heap.size, 0, none⟩) 1 hn1 0 pa pc p (by omega) hc hmny).mono fun e w2 ⟨he, hw⟩ => ?_
            have e6 : wrCode s name p = 6 := by unfold wrCode; rw [if_pos (.inr ⟨hga, by omega⟩)]
            rw [e6]
            exact ⟨he, L, hC1.keep_no hw, rfl, Foot.refl _ _, Kp.of_no hw⟩
          · refine (write_new w1 d m s.room fused left L hC1 name (some ⟨w.heap.size, 0, none⟩) 1 hn1 0 pa pc p (by omega) hp1 hc (by omega)).mono fun e w2 ⟨he, c, hca, h2, h3, h4⟩ => ?_
            have e0 : wrCode s name p = 0 := by
              unfold wrCode
              rw [if_neg (by
                rintro (h | ⟨_, h⟩)
                · rw [hs] at h; omega
                · omega)]
            have ef : wrFiles s.files name p = gset (absL L) name ⟨p, 0⟩ := by unfold wrFiles; rw [hga, hs]
            rw [e0, ef]
            exact ⟨he, _, h2, by rw [gset_abs, hca]; rfl, h3, h4⟩
        | some c =>
          have hga : gget s.files name = some c.abs := by rw [hs, gget_abs, hc]; rfl
          refine (write_some w1 d m s.room fused left L hC1 name (some ⟨w.heap.size, 0, none⟩) 1 hn1 0 pa pc p (by omega) hp1 c hc).mono fun e w2 ⟨he, v, h2, h3, h4⟩ => ?_
          have e0 : wrCode s name p = 0 := by
            unfold wrCode
            rw [if_neg (by
              rintro (h | ⟨h, _⟩)
              · rw [hs] at h; omega
              · rw [hga] at h; cases h)]
          have ef : wrFiles s.files name p = gset (absL L) name ⟨c.data ++ p, c.lasts⟩ := by unfold wrFiles; rw [hga, hs]; rfl
          rw [e0, ef]
          exact ⟨he, _, h2, by rw [gset_abs]; rfl, h3, h4⟩)
  have HG := Lib.hid hg
  clear hg hp hC hF hFs hf hs
  go_enter Try.func11, Try.ntmps11
  go_wp2_with fail
  refine (HG.out).mono ?_
  rintro e w' ⟨rfl, F', h2, h3, h4⟩
  have H2 := Lib.hid h2
  have H3 := Lib.hid h3
  have H4 := Lib.hid h4
  clear h2 h3 h4
  go_wp2_with fail
  go_ret
  exact ⟨rfl, F', H2.out, fun k hk => (H3.out k hk).imp id fun h => Nat.le_trans h1.size h, (Kp.of_no h1).trans_same H4.out⟩

/-- Sync. -/
def syCode (s : DSt) (name : ByteArray) : Int := if gget s.files name = none then 7 else 0
def syFiles (l : Files) (name : ByteArray) : Files :=
  match gget l name with
  | some x => gset l name ⟨x.data, x.data.length⟩
  | none => l
def syS (s : DSt) (name : ByteArray) : Int × DSt := five s [name] (syCode s name) (syFiles s.files name)

set_option maxHeartbeats 400000 in
theorem Sync_any (w : World) (d : Nat) (s : DSt) (F : Nat → Prop) (hD : DiskAt w d s F) (name : ByteArray) :
    Calls Try.prog 12 #[.pointer (some ⟨d, 0, none⟩), .string name] w (Said5 w d F (syS s name)) := by
  obtain ⟨m, fused, left, L, hC, hf, hs, hF, hFs⟩ := hD
  have h1 : Kp No w (w.alloc (.cells #[.string name] 9)) := (Kp.refl _ _).alloc _
  have hcf : ∀ args w, (callFunc 31 args).run Try.prog w = .ok (.enter 31 args) w := fun args w => by simp [go_sem]
  have hg := gate_five (w.alloc (.cells #[.string name] 9)) d m fused left L s F (hC.keep_no h1) hf hs hF (fun k hk => h1.lt (hFs k hk)) 31 hcf (some ⟨w.heap.size, 0, none⟩) 1 [name] 0 (.slice none 0 0)
    (name_rd w name) (by simp) (syCode s name) (syFiles s.files name) (by
      intro _ w1 hw1
      have hC1 := (hC.keep_no h1).keep_no hw1
      have hn1 := ((name_rd w name).keep hw1 fun _ _ x => x).mono hw1.size (Nat.le_refl _)
      cases hc : gget L name with
      | none =>
        have hga : gget s.files name = none := by rw [hs, gget_abs, hc]; rfl
        refine (sync_none w1 d m s.room fused left L hC1 name hc (some ⟨w.heap.size, 0, none⟩) 1 hn1 0 (.slice none 0 0)).mono fun e w2 ⟨he, hw⟩ => ?_
        have e7 : syCode s name = 7 := by unfold syCode; rw [if_pos hga]
        rw [e7]
        exact ⟨he, L, hC1.keep_no hw, rfl, Foot.refl _ _, Kp.of_no hw⟩
      | some c =>
        have hga : gget s.files name = some c.abs := by rw [hs, gget_abs, hc]; rfl
        refine (sync_some w1 d m s.room fused left L hC1 name c hc (some ⟨w.heap.size, 0, none⟩) 1 hn1 0 (.slice none 0 0)).mono fun e w2 ⟨he, h2, h3, h4⟩ => ?_
        have e0 : syCode s name = 0 := by unfold syCode; rw [if_neg (by rw [hga]; simp)]
        have ef : syFiles s.files name = gset (absL L) name ⟨c.data, c.data.length⟩ := by unfold syFiles; rw [hga, hs]; rfl
        rw [e0, ef]
        exact ⟨he, _, h2, by rw [gset_abs]; rfl, h3, h4⟩)
  have HG := Lib.hid hg
  clear hg hC hF hFs hf hs
  go_enter Try.func12, Try.ntmps12
  go_wp2_with fail
  refine (HG.out).mono ?_
  rintro e w' ⟨rfl, F', h2, h3, h4⟩
  have H2 := Lib.hid h2
  have H3 := Lib.hid h3
  have H4 := Lib.hid h4
  clear h2 h3 h4
  go_wp2_with fail
  go_ret
  exact ⟨rfl, F', H2.out, fun k hk => (H3.out k hk).imp id fun h => Nat.le_trans h1.size h, (Kp.of_no h1).trans_same H4.out⟩

/-- Fuse. -/
def fuS (s : DSt) (n : Int) : DSt := { s with fuse := if 0 ≤ n then some n.toNat else none }
set_option maxHeartbeats 400000 in
theorem Fuse_any (w : World) (d : Nat) (s : DSt) (F : Nat → Prop) (hD : DiskAt w d s F) (n : Int) (hn : n ≤ 9223372036854775807) :
    Calls Try.prog 17 #[.pointer (some ⟨d, 0, none⟩), .int .i64 n] w fun e w' => e = .returned (.tuple #[]) ∧ DiskAt w' d (fuS s n) F ∧ Kp (One d) w w' := by
  obtain ⟨m, fused, left, L, hC, hf, hs, hF, hFs⟩ := hD
  have c2 := cell_at hC.cell 2
  have c3 := cell_at hC.cell 3
  have f2 := free_at hC.cell 2
  have f3 := free_at hC.cell 3
  have hdl := get_lt hC.cell
  simp at c2 c3
  have key : ∀ (b : Bool) (l : Int), 0 ≤ l → l ≤ 9223372036854775807 → (fuS s n).fuse = fuseOf b l →
      DiskAt ((w.setCell ⟨d, 2, none⟩ (.bool b)).setCell ⟨d, 3, none⟩ (.int .i64 l)) d (fuS s n) F ∧ Kp (One d) w ((w.setCell ⟨d, 2, none⟩ (.bool b)).setCell ⟨d, 3, none⟩ (.int .i64 l)) := fun b l h0 h1 he => by
    have hk : Kp (One d) w ((w.setCell ⟨d, 2, none⟩ (.bool b)).setCell ⟨d, 3, none⟩ (.int .i64 l)) := ((Kp.refl (One d) _).setCell (p := ⟨d, 2, none⟩) (.inl rfl) _).setCell (p := ⟨d, 3, none⟩) (.inl rfl) _
    have hc := set_at (set_at hC.cell 2 (.bool b)) 3 (.int .i64 l)
    refine ⟨⟨m, b, l, L, hC.setFuse b l h0 h1 hk ?_, he, hs, hF, fun k h => hk.lt (hFs k h)⟩, hk⟩
    simpa using hc
  have HK := Lib.hid key
  clear key hC hf hs hF hFs
  by_cases h0 : 0 ≤ n
  · have hmax : (if n > 0 then n else 0) = n := by split <;> omega
    go_enter Try.func17, Try.ntmps17
    go_wp2_with fail
    all_goals
      go_end0
      exact ⟨rfl, HK.out true n h0 hn (by simp [fuS, h0, fuseOf])⟩
  · have hmax : (if n > 0 then n else 0) = 0 := by split <;> omega
    go_enter Try.func17, Try.ntmps17
    go_wp2_with fail
    all_goals
      go_end0
      exact ⟨rfl, HK.out false 0 (by omega) (by omega) (by simp [fuS, h0, fuseOf])⟩

/-- Read. -/
def rdS (l : Files) (name : ByteArray) : List UInt8 × Int :=
  match gget l name with
  | some x => (x.data, 0)
  | none => ([], 7)
def ReadPost (w : World) (d : Nat) (s : DSt) (F : Nat → Prop) (name : ByteArray) (e : Ending) (w' : World) : Prop :=
  ∃ v, e = .returned (.tuple #[v, .int .i64 (rdS s.files name).2]) ∧ Own w' 5 1 v (rdS s.files name).1.length (u8s (rdS s.files name).1) ∧ Kp No w w' ∧ (∀ g, v.ownBlock = some g → w.heap.size ≤ g) ∧ DiskAt w' d s F
set_option maxHeartbeats 400000 in
theorem Read_any (w : World) (d : Nat) (s : DSt) (F : Nat → Prop) (hD : DiskAt w d s F) (name : ByteArray) :
    Calls Try.prog 14 #[.pointer (some ⟨d, 0, none⟩), .string name] w (ReadPost w d s F name) := by
  have HDA := Lib.hid hD
  obtain ⟨m, fused, left, L, hC, hf, hs, hF, hFs⟩ := hD
  have c1 := cell_at hC.cell 1
  have hdl := get_lt hC.cell
  simp at c1
  have hlook := look_file hC.map name
  rw [show ptrL L = L.map fun p => (p.1, p.2.ptr) from rfl, gget_mapv] at hlook
  cases hc : gget L name with
  | none =>
    have hga : gget s.files name = none := by rw [hs, gget_abs, hc]; rfl
    rw [hc] at hlook
    simp only [Option.map_none, Option.getD_none] at hlook
    have HA := Lib.hid hga
    clear hga hc hC hf hs hF hFs
    go_enter Try.func14, Try.ntmps14
    go_wp2_with fail
    go_ret2
    have e7 : rdS s.files name = ([], 7) := by unfold rdS; rw [HA.out]
    refine ⟨.slice none 0 0, ?_, ?_, Kp.refl _ _, fun g h => by simp [Value.ownBlock] at h, HDA.out⟩
    · rw [e7]; rfl
    · rw [e7]; exact Own.nil _ _ _
  | some c =>
    have hga : gget s.files name = some c.abs := by rw [hs, gget_abs, hc]; rfl
    have hfo := hC.files _ (gget_mem hc)
    have hfl := get_lt hfo.1
    have cf0 := cell_at hfo.1 0
    obtain ⟨fa, fc, hv, _, hrd⟩ := hfo.2.1.rd
    simp at cf0
    rw [hv] at cf0
    have hfit := hC.fits
    have hroom := hC.roomy
    have hmem := mem_len (l := absL L) (p := (name, c.abs)) (List.mem_map.2 ⟨(name, c), gget_mem hc, rfl⟩)
    have hlen : c.data.length ≤ 140737488355328 := by simp only [FileR.abs] at hmem; omega
    rw [hc] at hlook
    simp only [Option.map_some, Option.getD_some, FileR.ptr] at hlook
    have hcl := clone_any fa fc c.data w.heap.size w hrd hlen
    have HA := Lib.hid hga
    have HL := Lib.hid hcl
    clear hga hc hC hf hs hF hFs hcl hfo hv hrd hfit hroom hmem
    go_enter Try.func14, Try.ntmps14
    go_wp2_with fail
    refine (HL.out).mono ?_
    rintro e w' ⟨v, rfl, h1, h2, h3⟩
    have H1 := Lib.hid h1
    have H2 := Lib.hid h2
    have H3 := Lib.hid h3
    clear h1 h2 h3
    go_wp2_with fail
    go_ret2
    have e0 : rdS s.files name = (c.data, 0) := by unfold rdS; rw [HA.out]; rfl
    refine ⟨v, ?_, ?_, H2.out, H3.out, HDA.out.keep_no H2.out⟩
    · rw [e0]; rfl
    · rw [e0]; exact H1.out
end Go.Proofs.Ytenidddbjobblaa
