/-
  Texts laid together: SIter, DiskGate, DiskOps, DiskWr1.
-/
import Derived.Test.YtgnkmjeoaoongaaGreatDoorSa3
import Derived.WalkKit
import Derived.WalkSpells
import Derived.WalkLawsBesides
import Derived.Lib.Hide
namespace Go.Mer
open Go Go.RowKit
open Go.ChangeMaps (setBlock)
open Go.MapKept
section
variable {K : Type} [DecidableEq K] {P : Program} {kv : K → Value} {w : World} {m r : Nat} {l : List (K × Value)} {V : List K} {t kt et : TypeId} {d : TypeDesc}
end
end Go.Mer
namespace Go.Proofs.YtgnkmjeoaoongaaGreatDoor
open Go.RowKit Go.Mer
def Gated (d : Nat) (fused : Bool) (left : Int) (R : Int → World → Prop) (e : Ending) (w' : World) : Prop :=
 ∃ r w2, R r w2 ∧ e = .returned (.int .i64 r) ∧ w' = if r = 0 ∧ fused = true then w2.setCell ⟨d, 3, none⟩ (.int .i64 (left - 1)) else w2
set_option maxHeartbeats 400000 in
theorem gate_does (d k : Nat) (room left : Int) (mp : Value) (fused : Bool) (hf : fused = false ∨ 0 < left) (hlm : left ≤ 9223372036854775807) (na : Option Addr) (nc : Nat) (ns : List ByteArray) (N : Int) (pv : Value) (w : World)
  (hd : w.heap[d]? = some (.cells #[.int .i64 room, mp, .bool fused, .int .i64 left] 161 (0, 0)))
  (hns : Rd w w.heap.size na (ns.map Value.string)) (hnl : ns.length ≤ 1000) (hok : ∀ s ∈ ns, nameOk s = true) (R : Int → World → Prop)
  (hR : ∀ r w2, R r w2 → ∃ room' mp', w2.heap[d]? = some (.cells #[.int .i64 room', mp', .bool fused, .int .i64 left] 161 (0, 0)))
  (hcf : ∀ args w, (callFunc k args).run Tryz.prog w = .ok (.enter k args) w)
  (hk : ∀ w1, Kp No w w1 → Calls Tryz.prog k #[.pointer (some ⟨d, 0, none⟩), .agg #[.slice na ns.length nc, .int .i64 N, pv]] w1 fun e w2 => ∃ r : Int, e = .returned (.int .i64 r) ∧ R r w2) :
  Calls Tryz.prog 153 #[.pointer (some ⟨d, 0, none⟩), .func (.func k) #[.pointer (some ⟨d, 0, none⟩)] #[], .agg #[.slice na ns.length nc, .int .i64 N, pv]] w (Gated d fused left R) := by
 have hdl := get_lt hd
 have c2 := cell_at hd 2
 have c3 := cell_at hd 3
 simp at c2 c3
 have HR := Lib.hid hR
 have HK := Lib.hid hk
 have HO := Lib.hid hok
 have HN := Lib.hid hns
 clear hR hk hok hns
 have hl1 : fused = true → 0 < left := fun h => hf.resolve_left (by rw [h]; simp)
 have hl0 : fused = true → ((left : Int) == 0) = false := fun h => by have := hl1 h; simp; omega
 cases fused
 all_goals
  first
   | (have hl2 := hl1 rfl; have hl3 := hl0 rfl; clear hl1 hl0 hf)
   | clear hl1 hl0 hf
  go_enter Tryz.func153, Tryz.ntmps153
  go_wp2_with fail
  go_loop [28] (fun i => ∃ j : Nat, j ≤ ns.length ∧ i = .int .i64 j) (fun i => ns.length - (intOf i).toNat)
  case atStart => exact ⟨0, Nat.zero_le _, rfl⟩
  case round =>
   obtain ⟨j, hj, rfl⟩ := hrel
   by_cases hlt : j < ns.length
   ·obtain ⟨g, off, rfl, hg, _, hc⟩ := HN.out.at_ (i := j) (u := .string ns[j]) (by simp [hlt])
    have hn := HO.out ns[j] (List.getElem_mem hlt)
    simp only [nameOk, Bool.and_eq_true, decide_eq_true_eq] at hn
    obtain ⟨hn1, hn2⟩ := hn
    go_wp2_with fail
    go_round
    case rel => exact ⟨j + 1, by omega, by go_num⟩
    case measure => simp [intOf]; omega
   ·go_wp2_with fail
    refine (HK.out _ ((Kp.refl _ _).alloc _)).mono ?_
    rintro e w2 ⟨r, rfl, hr⟩
    obtain ⟨room', mp', hd'⟩ := HR.out r w2 hr
    have c2' := cell_at hd' 2
    have c3' := cell_at hd' 3
    have f3' := free_at hd' 3
    simp at c2' c3'
    have HR2 := Lib.hid hr
    clear hr hd' c2 c3 hd
    by_cases hr0 : r = 0
    ·have HZ := Lib.hid hr0
     have hrz : (r == 0) = true := by simp [hr0]
     clear hr0
     go_wp2_with fail
     go_ret
     exact ⟨r, _, HR2.out, rfl, by simp [HZ.out]⟩
    ·have hrz : (r == 0) = false := by simp [hr0]
     go_wp2_with fail
     go_ret
     exact ⟨r, _, HR2.out, rfl, by simp [hr0]⟩
theorem gate_dead (d : Nat) (room : Int) (mp : Value) (fv wv : Value) (w : World) (hw1 : ∃ a b c, wv = .agg #[a, b, c])
  (hd : w.heap[d]? = some (.cells #[.int .i64 room, mp, .bool true, .int .i64 0] 161 (0, 0))) :
  Calls Tryz.prog 153 #[.pointer (some ⟨d, 0, none⟩), fv, wv] w fun e w' => e = .returned (.int .i64 9) ∧ Kp No w w' := by
 have hdl := get_lt hd
 have c2 := cell_at hd 2
 have c3 := cell_at hd 3
 simp at c2 c3
 obtain ⟨a, b, c, rfl⟩ := hw1
 go_enter Tryz.func153, Tryz.ntmps153
 go_wp2_with fail
 go_ret
 exact ⟨rfl, (Kp.refl _ _).alloc _⟩
set_option maxHeartbeats 400000 in
theorem gate_arg (d : Nat) (room left : Int) (mp fv : Value) (fused : Bool) (hf : fused = false ∨ 0 < left) (na : Option Addr) (nc : Nat) (ns : List ByteArray) (N : Int) (pv : Value) (w : World)
  (hd : w.heap[d]? = some (.cells #[.int .i64 room, mp, .bool fused, .int .i64 left] 161 (0, 0)))
  (hns : Rd w w.heap.size na (ns.map Value.string)) (hnl : ns.length ≤ 1000) (hbad : ns.all nameOk = false) :
  Calls Tryz.prog 153 #[.pointer (some ⟨d, 0, none⟩), fv, .agg #[.slice na ns.length nc, .int .i64 N, pv]] w fun e w' => e = .returned (.int .i64 1) ∧ Kp No w w' := by
 have hdl := get_lt hd
 have c2 := cell_at hd 2
 have c3 := cell_at hd 3
 simp at c2 c3
 have HN := Lib.hid hns
 have HB := Lib.hid hbad
 clear hns hbad
 have hl1 : fused = true → 0 < left := fun h => hf.resolve_left (by rw [h]; simp)
 have hl0 : fused = true → ((left : Int) == 0) = false := fun h => by have := hl1 h; simp; omega
 cases fused
 all_goals
  first
   | (have hl2 := hl1 rfl; have hl3 := hl0 rfl; clear hl1 hl0 hf)
   | clear hl1 hl0 hf
  go_enter Tryz.func153, Tryz.ntmps153
  go_wp2_with fail
  go_loop [28] (fun i => ∃ j : Nat, j ≤ ns.length ∧ i = .int .i64 j ∧ Hid ((ns.take j).all nameOk = true)) (fun i => ns.length - (intOf i).toNat)
  case atStart => exact ⟨0, Nat.zero_le _, rfl, rfl⟩
  case round =>
   obtain ⟨j, hj, rfl, ht⟩ := hrel
   have hlt : j < ns.length := by
    rcases Nat.lt_or_ge j ns.length with h | h
    ·exact h
    ·have h1 := ht.out
     rw [List.take_of_length_le h] at h1
     rw [HB.out] at h1
     cases h1
   obtain ⟨g, off, rfl, hg, _, hc⟩ := HN.out.at_ (i := j) (u := .string ns[j]) (by simp [hlt])
   by_cases hn : nameOk ns[j] = true
   ·have ht' : Hid ((ns.take (j + 1)).all nameOk = true) := by
     show _ = true
     rw [List.take_succ_eq_append_getElem hlt, List.all_append, ht.out]
     simp [hn]
    simp only [nameOk, Bool.and_eq_true, decide_eq_true_eq] at hn
    obtain ⟨hn1, hn2⟩ := hn
    go_wp2_with fail
    go_round
    case rel => exact ⟨j + 1, by omega, by go_num, ht'⟩
    case measure => simp [intOf]; omega
   ·have hn' : ns[j].size < 1 ∨ 64 < ns[j].size := by
     simp only [nameOk, Bool.and_eq_true, decide_eq_true_eq] at hn
     omega
    clear hn ht
    rcases hn' with hn' | hn'
    ·go_wp2_with fail
     go_ret
     exact ⟨rfl, (Kp.refl _ _).alloc _⟩
    ·have hn1 : ¬ ns[j].size < 1 := by omega
     go_wp2_with fail
     go_ret
     exact ⟨rfl, (Kp.refl _ _).alloc _⟩
end Go.Proofs.YtgnkmjeoaoongaaGreatDoor
namespace Go.Proofs.YtgnkmjeoaoongaaGreatDoor
open Go.RowKit Go.Mer
structure Facts (W1 : World) (d m b g off : Nat) (na : Option Addr) (nc : Nat) (N : Int) (pv : Value) (room : Nat) (L : FilesR) (name : ByteArray) : Prop where
 d0 : ∀ W, Kp No W1 W → W.cell? ⟨d, 0, none⟩ = some (.int .i64 (room : Int))
 d1 : ∀ W, Kp No W1 W → W.cell? ⟨d, 1, none⟩ = some (.map (some m))
 b0 : ∀ W, Kp No W1 W → W.cell? ⟨b, 0, none⟩ = some (.slice na 1 nc)
 b1 : ∀ W, Kp No W1 W → W.cell? ⟨b, 1, none⟩ = some (.int .i64 N)
 b2 : ∀ W, Kp No W1 W → W.cell? ⟨b, 2, none⟩ = some pv
 nm : ∀ W, Kp No W1 W → W.cell? ⟨g, off, none⟩ = some (.string name)
 look : ∀ W, Kp No W1 W → (Instr.lookup 159 (.map (some m)) (.string name) false).run Tryz.prog W = .ok (((gget L name).map FileR.ptr).getD (.pointer none)) W
 many : ∀ W, Kp No W1 W → (Builtin.len_ #[159] 3 #[.map (some m)]).run Tryz.prog W = .ok (.int .i64 (L.length : Int)) W
 dr : ∀ n, Kp No W1 (W1.drewN n)
theorem facts {w : World} {d m room : Nat} {fused : Bool} {left : Int} {L : FilesR} (hD : DiskC w d m room fused left L) {name : ByteArray} {g off nc : Nat} {N : Int} {pv : Value}
  (hg : w.cell? ⟨g, off, none⟩ = some (.string name)) :
  Facts (w.alloc (.cells #[.slice (some ⟨g, off, none⟩) 1 nc, .int .i64 N, pv] 236)) d m w.heap.size g off (some ⟨g, off, none⟩) nc N pv room L name := by
 have h1 : Kp No w (w.alloc (.cells #[.slice (some ⟨g, off, none⟩) 1 nc, .int .i64 N, pv] 236)) := (Kp.refl _ _).alloc _
 have hd : ∀ W, Kp No (w.alloc (.cells #[.slice (some ⟨g, off, none⟩) 1 nc, .int .i64 N, pv] 236)) W → DiskC W d m room fused left L := fun W hW => hD.keep_no (h1.trans_same hW)
 have hb : ∀ W, Kp No (w.alloc (.cells #[.slice (some ⟨g, off, none⟩) 1 nc, .int .i64 N, pv] 236)) W → W.heap[w.heap.size]? = some (.cells #[.slice (some ⟨g, off, none⟩) 1 nc, .int .i64 N, pv] 236 (0, 0)) :=
  fun W hW => hW.get (heap_alloc_new w _) fun x => x
 have hgl := World.block_lt_of_cell? w _ hg
 refine ⟨fun W hW => ?_, fun W hW => ?_, fun W hW => ?_, fun W hW => ?_, fun W hW => ?_, fun W hW => ?_, fun W hW => ?_, fun W hW => ?_, fun n => (Kp.refl _ _).drewN n⟩
 ·rw [cell_at (hd W hW).cell]; rfl
 ·rw [cell_at (hd W hW).cell]; rfl
 ·rw [cell_at (hb W hW)]; rfl
 ·rw [cell_at (hb W hW)]; rfl
 ·rw [cell_at (hb W hW)]; rfl
 ·exact ((h1.trans_same hW).cell hgl fun x => x).trans hg
 ·have := look_file (hd W hW).map name
  rw [show ptrL L = L.map fun p => (p.1, p.2.ptr) from rfl, gget_mapv] at this
  exact this
 ·have := run_len_g (P := Tryz.prog) (ty := 3) Tryz.underlying159 (hd W hW).map
  rw [show (ptrL L).length = L.length from by simp [ptrL]] at this
  exact this
set_option maxHeartbeats 400000 in
theorem sync_some (w : World) (d m room : Nat) (fused : Bool) (left : Int) (L : FilesR) (hD : DiskC w d m room fused left L) (name : ByteArray) (c : FileR) (hc : gget L name = some c)
  (na : Option Addr) (nc : Nat) (hns : Rd w w.heap.size na [Value.string name]) (N : Int) (pv : Value) :
  Calls Tryz.prog 214 #[.pointer (some ⟨d, 0, none⟩), .agg #[.slice na 1 nc, .int .i64 N, pv]] w fun e w' =>
   e = .returned (.int .i64 0) ∧ DiskC w' d m room fused left (gset L name { c with lasts := c.data.length }) ∧ Foot (FP d m L) (FP d m (gset L name { c with lasts := c.data.length })) w ∧ Kp (FP d m L) w w' := by
 obtain ⟨g, off, rfl, hg, _, hcn⟩ := hns.at_ (i := 0) rfl
 simp only [Nat.add_zero] at hcn
 have FA := facts hD (nc := nc) (N := N) (pv := pv) hcn
 have f1 := FA.d0
 have f2 := FA.d1
 have f3 := FA.b0
 have f4 := FA.b1
 have f5 := FA.b2
 have f6 := FA.nm
 have f7 := FA.look
 have f8 := FA.many
 have f9 := FA.dr
 have hdl := get_lt hD.cell
 have H1 : Kp No w (w.alloc (.cells #[.slice (some ⟨g, off, none⟩) 1 nc, .int .i64 N, pv] 236)) := (Kp.refl _ _).alloc _
 have HD := Lib.hid hD
 clear FA hns hcn
 have hf := hD.files _ (gget_mem hc)
 have hfl := get_lt hf.1
 obtain ⟨fa, fc, hv, _⟩ := hf.2.1.rd
 have cf0 : ∀ n, ((w.alloc (.cells #[.slice (some ⟨g, off, none⟩) 1 nc, .int .i64 N, pv] 236)).drewN n).cell? ⟨c.blk, 0, none⟩ = some (.slice fa c.data.length fc) := fun n => by
  rw [cell_at ((H1.drewN n).get hf.1 fun x => x), hv]; rfl
 have cf1 : ∀ n, ((w.alloc (.cells #[.slice (some ⟨g, off, none⟩) 1 nc, .int .i64 N, pv] 236)).drewN n).cell? ⟨c.blk, 1, none⟩ = some (.int .i64 (c.lasts : Int)) := fun n => by
  rw [cell_at ((H1.drewN n).get hf.1 fun x => x)]; rfl
 have ff1 : ∀ n, ((w.alloc (.cells #[.slice (some ⟨g, off, none⟩) 1 nc, .int .i64 N, pv] 236)).drewN n).frozen? ⟨c.blk, 1, none⟩ = false := fun n => free_at ((H1.drewN n).get hf.1 fun x => x) 1
 rw [hc] at f7
 simp only [Option.map_some, Option.getD_some, FileR.ptr] at f7
 have HF := Lib.hid hf
 have HC := Lib.hid hc
 clear hf hv hc f8 f1 f4 f5 hD
 obtain ⟨W1, hW1⟩ : ∃ W, W = w.alloc (.cells #[.slice (some ⟨g, off, none⟩) 1 nc, .int .i64 N, pv] 236) := ⟨_, rfl⟩
 go_enter Tryz.func214, Tryz.ntmps214
 go_wp2_with fail
 rw [← hW1] at f2 f3 f6 f7 f9 cf0 cf1 ff1 H1 ⊢
 clear hW1
 refine wp_region_ord [0,0,0,1,0,1,0,1,1,0] [0,1,2,4,3,5,6,7,8,9] (by kernel_rfl) (by kernel_rfl) ?_
 repeat (first
  | (apply wpOrd_skip rfl (by decide) rfl; (focus (go_simp; rfl)))
  | (apply wpOrd_pure rfl rfl rfl; (focus (intro _ _; go_simp; (try go_ints); rfl)); (focus (go_simp; rfl)))
  | (apply wpOrd_read rfl rfl rfl; (focus (intro _; go_simp; (try go_ints); rfl)); (focus (go_simp; rfl))))
 refine wpOrd_nil (fun nq => ?_)
 go_wp2_with fail
 go_ret
 have hD2 := HD.out.keep_no (H1.drewN nq)
 have hf2 := HF.out.keep (H1.drewN nq) (fun x => x) (fun _ _ x => x)
 have hs : Kp (One c.blk) (W1.drewN nq) ((W1.drewN nq).setCell ⟨c.blk, 1, none⟩ (.int .i64 (c.data.length : Int))) := (Kp.refl (One c.blk) _).setCell (p := ⟨c.blk, 1, none⟩) (.inl rfl) _
 have hne : ∀ k, c.v.ownBlock = some k → k ≠ c.blk := fun k hk e => by
  obtain ⟨cur, hcur⟩ := hf2.2.1.type k hk
  exact ne_of_type hcur hf2.1 (by decide) e
 obtain ⟨h1, h2, h3⟩ := hD2.setFile (c' := { c with lasts := c.data.length }) HC.out rfl (hs.mono fun k _ hk => .inl hk)
  ⟨by have := set_at hf2.1 1 (.int .i64 (c.data.length : Int)); simpa using this, hf2.2.1.keep hs (fun k hk => hne k hk), Nat.le_refl _⟩ (.inl rfl) (by
   rw [gset_abs]
   have := totF_gset (l := absL L) (k := name) (x := c.abs) (y := FileR.abs { c with lasts := c.data.length }) (by rw [keys_absL]; exact HD.out.keys) (by rw [gget_abs, HC.out]; rfl)
   have := HD.out.fits
   simp only [FileR.abs] at *
   omega)
 exact ⟨rfl, h1, fun k hk => (h2 k hk).imp id fun h => Nat.le_trans (H1.drewN nq).size h, (Kp.of_no (H1.drewN nq)).trans_same h3⟩
set_option maxHeartbeats 400000 in
theorem sync_none (w : World) (d m room : Nat) (fused : Bool) (left : Int) (L : FilesR) (hD : DiskC w d m room fused left L) (name : ByteArray) (hc : gget L name = none)
  (na : Option Addr) (nc : Nat) (hns : Rd w w.heap.size na [Value.string name]) (N : Int) (pv : Value) :
  Calls Tryz.prog 214 #[.pointer (some ⟨d, 0, none⟩), .agg #[.slice na 1 nc, .int .i64 N, pv]] w fun e w' =>
   e = .returned (.int .i64 7) ∧ Kp No w w' := by
 obtain ⟨g, off, rfl, hg, _, hcn⟩ := hns.at_ (i := 0) rfl
 simp only [Nat.add_zero] at hcn
 have FA := facts hD (nc := nc) (N := N) (pv := pv) hcn
 have f1 := FA.d0
 have f2 := FA.d1
 have f3 := FA.b0
 have f4 := FA.b1
 have f5 := FA.b2
 have f6 := FA.nm
 have f7 := FA.look
 have f8 := FA.many
 have f9 := FA.dr
 have hdl := get_lt hD.cell
 have H1 : Kp No w (w.alloc (.cells #[.slice (some ⟨g, off, none⟩) 1 nc, .int .i64 N, pv] 236)) := (Kp.refl _ _).alloc _
 have HD := Lib.hid hD
 clear FA hns hcn
 rw [hc] at f7
 simp only [Option.map_none, Option.getD_none] at f7
 clear hc f8 f1 f4 f5 hD
 obtain ⟨W1, hW1⟩ : ∃ W, W = w.alloc (.cells #[.slice (some ⟨g, off, none⟩) 1 nc, .int .i64 N, pv] 236) := ⟨_, rfl⟩
 go_enter Tryz.func214, Tryz.ntmps214
 go_wp2_with fail
 rw [← hW1] at f2 f3 f6 f7 f9 H1 ⊢
 clear hW1
 refine wp_region_ord [0,0,0,1,0,1,0,1,1,0] [0,1,2,4,3,5,6,7,8,9] (by kernel_rfl) (by kernel_rfl) ?_
 repeat (first
  | (apply wpOrd_skip rfl (by decide) rfl; (focus (go_simp; rfl)))
  | (apply wpOrd_pure rfl rfl rfl; (focus (intro _ _; go_simp; (try go_ints); rfl)); (focus (go_simp; rfl)))
  | (apply wpOrd_read rfl rfl rfl; (focus (intro _; go_simp; (try go_ints); rfl)); (focus (go_simp; rfl))))
 refine wpOrd_nil (fun nq => ?_)
 go_wp2_with fail
 go_ret
 exact ⟨rfl, H1.drewN _⟩
end Go.Proofs.YtgnkmjeoaoongaaGreatDoor
namespace Go.Proofs.YtgnkmjeoaoongaaGreatDoor
open Go.RowKit Go.Mer
set_option maxHeartbeats 800000 in
theorem write_full (w : World) (d m room : Nat) (fused : Bool) (left : Int) (L : FilesR) (hD : DiskC w d m room fused left L) (name : ByteArray)
  (na : Option Addr) (nc : Nat) (hns : Rd w w.heap.size na [Value.string name]) (N : Int) (pa : Option Addr) (pc : Nat) (p : List UInt8) (hpm : p.length ≤ 140737488355328) (hfull : room < totF (absL L) + p.length) :
  Calls Tryz.prog 235 #[.pointer (some ⟨d, 0, none⟩), .agg #[.slice na 1 nc, .int .i64 N, .slice pa p.length pc]] w fun e w' =>
   e = .returned (.int .i64 6) ∧ Kp No w w' := by
 obtain ⟨g, off, rfl, hg, _, hcn⟩ := hns.at_ (i := 0) rfl
 simp only [Nat.add_zero] at hcn
 have FA := facts hD (nc := nc) (N := N) (pv := (.slice pa p.length pc)) hcn
 have f1 := FA.d0
 have f2 := FA.d1
 have f3 := FA.b0
 have f4 := FA.b1
 have f5 := FA.b2
 have f6 := FA.nm
 have f7 := FA.look
 have f8 := FA.many
 have f9 := FA.dr
 have hdl := get_lt hD.cell
 have H1 : Kp No w (w.alloc (.cells #[.slice (some ⟨g, off, none⟩) 1 nc, .int .i64 N, (.slice pa p.length pc)] 236)) := (Kp.refl _ _).alloc _
 have HD := Lib.hid hD
 clear FA hns hcn
 have hU := fun W (h : Kp No w W) => used_any W d m room fused left L (hD.keep_no h)
 have hfit := hD.fits
 have hroom := hD.roomy
 have hmany : (L.length : Int) ≤ 4096 := by have := hD.few; omega
 have hgt : ((p.length : Int) > (room : Int) - (totF (absL L) : Int)) := by omega
 have hgd : decide ((room : Int) - (totF (absL L) : Int) < (p.length : Int)) = true := by simp; omega
 rcases hv : (gget L name).map FileR.ptr with _ | v
 all_goals
  rw [hv] at f7
  clear hv
  try simp only [Option.getD_none, Option.getD_some] at f7
  go_enter Tryz.func235, Tryz.ntmps235
  go_wp2_with fail
  obtain ⟨W1, hW1⟩ : ∃ W, W = w.alloc (.cells #[.slice (some ⟨g, off, none⟩) 1 nc, .int .i64 N, .slice pa p.length pc] 236) := ⟨_, rfl⟩
  rw [← hW1] at f1 f2 f3 f4 f5 f6 f7 f8 f9 H1 ⊢
  have HU := Lib.hid hU
  clear hW1 hU hD
  refine wp_region_ord [0,0,0,1,0,1,0,1,1,0] [0,1,2,4,3,5,6,7,8,9] (by kernel_rfl) (by kernel_rfl) ?_
  repeat (first
   | (apply wpOrd_skip rfl (by decide) rfl; (focus (go_simp; rfl)))
   | (apply wpOrd_pure rfl rfl rfl; (focus (intro _ _; go_simp; (try go_ints); rfl)); (focus (go_simp; rfl)))
   | (apply wpOrd_read rfl rfl rfl; (focus (intro _; go_simp; (try go_ints); rfl)); (focus (go_simp; rfl))))
  refine wpOrd_nil (fun nq => ?_)
  go_wp2_with fail
  have f0 : ∀ W, Kp No (W1.drewN nq) W → Kp No W1 W := fun W h => h.of_drewN
  refine wp_region_held' (Kp No _) [0,0,0,0,0,0,0,0,2,0,0,0,0,0,0,0,0,0,0,0,0,0,0] [0,1,2,3,4,5,6,7,8,9,10,11,12,13,14,15,16,17,18,19,20,21,22] (by kernel_rfl) (by kernel_rfl) (fun _ n h => h.drewN n) (Kp.refl _ _) ?_
  repeat (first
   | (apply wpOrd_skip rfl (by decide) rfl; (focus (go_simp; rfl)))
   | (apply wpOrd_pure rfl rfl rfl; (focus (intro _ _; go_simp; (try go_ints); rfl)); (focus (go_simp; rfl)))
   | (apply wpOrd_read rfl rfl rfl; (focus (intro _; go_simp; (try go_ints); rfl)); (focus (go_simp; rfl))))
  refine wpOrd_eff rfl rfl (fun nu => ?_)
  go_wp2_with fail
  refine (HU.out _ (H1.drewN _)).mono ?_
  rintro e W3 ⟨rfl, hk3⟩
  go_wp2_with fail
  refine ⟨hk3.of_drewN.from_drewN _, ?_⟩
  have K3 : Kp No W1 W3 := hk3.of_drewN
  repeat (first
   | (apply wpOrd_skip rfl (by decide) rfl; (focus (go_simp; rfl)))
   | (apply wpOrd_pure rfl rfl rfl; (focus (intro _ _; go_simp; (try go_ints); rfl)); (focus (go_simp; rfl)))
   | (apply wpOrd_read rfl rfl rfl; (focus (intro _; go_simp; (try go_ints); rfl)); (focus (go_simp; rfl))))
  refine wpOrd_nil (fun nq => ?_)
  clear hk3
  go_wp2_with fail
  go_ret
  exact ⟨rfl, (H1.trans_same K3).drewN _⟩
set_option maxHeartbeats 800000 in
theorem write_many (w : World) (d m room : Nat) (fused : Bool) (left : Int) (L : FilesR) (hD : DiskC w d m room fused left L) (name : ByteArray)
  (na : Option Addr) (nc : Nat) (hns : Rd w w.heap.size na [Value.string name]) (N : Int) (pa : Option Addr) (pc : Nat) (p : List UInt8) (hfull : totF (absL L) + p.length ≤ room)
  (hc : gget L name = none) (hmny : 4096 ≤ L.length) :
  Calls Tryz.prog 235 #[.pointer (some ⟨d, 0, none⟩), .agg #[.slice na 1 nc, .int .i64 N, .slice pa p.length pc]] w fun e w' =>
   e = .returned (.int .i64 6) ∧ Kp No w w' := by
 obtain ⟨g, off, rfl, hg, _, hcn⟩ := hns.at_ (i := 0) rfl
 simp only [Nat.add_zero] at hcn
 have FA := facts hD (nc := nc) (N := N) (pv := (.slice pa p.length pc)) hcn
 have f1 := FA.d0
 have f2 := FA.d1
 have f3 := FA.b0
 have f4 := FA.b1
 have f5 := FA.b2
 have f6 := FA.nm
 have f7 := FA.look
 have f8 := FA.many
 have f9 := FA.dr
 have hdl := get_lt hD.cell
 have H1 : Kp No w (w.alloc (.cells #[.slice (some ⟨g, off, none⟩) 1 nc, .int .i64 N, (.slice pa p.length pc)] 236)) := (Kp.refl _ _).alloc _
 have HD := Lib.hid hD
 clear FA hns hcn
 have hU := fun W (h : Kp No w W) => used_any W d m room fused left L (hD.keep_no h)
 have hfit := hD.fits
 have hroom := hD.roomy
 have hmany : (L.length : Int) ≤ 4096 := by have := hD.few; omega
 have hgd : decide ((room : Int) - (totF (absL L) : Int) < (p.length : Int)) = false := by simp; omega
 have hge : decide ((4096 : Int) ≤ (L.length : Int)) = true := by simp; omega
 rw [hc] at f7
 clear hc
 simp only [Option.map_none, Option.getD_none] at f7
 go_enter Tryz.func235, Tryz.ntmps235
 go_wp2_with fail
 obtain ⟨W1, hW1⟩ : ∃ W, W = w.alloc (.cells #[.slice (some ⟨g, off, none⟩) 1 nc, .int .i64 N, .slice pa p.length pc] 236) := ⟨_, rfl⟩
 rw [← hW1] at f1 f2 f3 f4 f5 f6 f7 f8 f9 H1 ⊢
 have HU := Lib.hid hU
 clear hW1 hU hD
 refine wp_region_ord [0,0,0,1,0,1,0,1,1,0] [0,1,2,4,3,5,6,7,8,9] (by kernel_rfl) (by kernel_rfl) ?_
 repeat (first
  | (apply wpOrd_skip rfl (by decide) rfl; (focus (go_simp; rfl)))
  | (apply wpOrd_pure rfl rfl rfl; (focus (intro _ _; go_simp; (try go_ints); rfl)); (focus (go_simp; rfl)))
  | (apply wpOrd_read rfl rfl rfl; (focus (intro _; go_simp; (try go_ints); rfl)); (focus (go_simp; rfl))))
 refine wpOrd_nil (fun nq => ?_)
 go_wp2_with fail
 have f0 : ∀ W, Kp No (W1.drewN nq) W → Kp No W1 W := fun W h => h.of_drewN
 refine wp_region_held' (Kp No _) [0,0,0,0,0,0,0,0,2,0,0,0,0,0,0,0,0,0,0,0,0,0,0] [0,1,2,3,4,5,6,7,8,9,10,11,12,13,14,15,16,17,18,19,20,21,22] (by kernel_rfl) (by kernel_rfl) (fun _ n h => h.drewN n) (Kp.refl _ _) ?_
 repeat (first
  | (apply wpOrd_skip rfl (by decide) rfl; (focus (go_simp; rfl)))
  | (apply wpOrd_pure rfl rfl rfl; (focus (intro _ _; go_simp; (try go_ints); rfl)); (focus (go_simp; rfl)))
  | (apply wpOrd_read rfl rfl rfl; (focus (intro _; go_simp; (try go_ints); rfl)); (focus (go_simp; rfl))))
 refine wpOrd_eff rfl rfl (fun nu => ?_)
 go_wp2_with fail
 refine (HU.out _ (H1.drewN _)).mono ?_
 rintro e W3 ⟨rfl, hk3⟩
 go_wp2_with fail
 refine ⟨hk3.of_drewN.from_drewN _, ?_⟩
 have K3 : Kp No W1 W3 := hk3.of_drewN
 repeat (first
  | (apply wpOrd_skip rfl (by decide) rfl; (focus (go_simp; rfl)))
  | (apply wpOrd_pure rfl rfl rfl; (focus (intro _ _; go_simp; (try go_ints); rfl)); (focus (go_simp; rfl)))
  | (apply wpOrd_read rfl rfl rfl; (focus (intro _; go_simp; (try go_ints); rfl)); (focus (go_simp; rfl))))
 refine wpOrd_nil (fun nq => ?_)
 clear hk3
 go_wp2_with fail
 go_ret
 exact ⟨rfl, (H1.trans_same K3).drewN _⟩
end Go.Proofs.YtgnkmjeoaoongaaGreatDoor

