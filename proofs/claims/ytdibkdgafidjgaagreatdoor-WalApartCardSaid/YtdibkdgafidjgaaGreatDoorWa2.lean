/-
  Texts laid together: DiskGate, DiskUsed, DiskOps, DiskWr1, DiskWr2, DiskWr3.
-/
import Derived.Test.YtdibkdgafidjgaaGreatDoorWa1
import Derived.WalkKit
import Derived.WalkSpells
import Derived.WalkLawsBesides
import Derived.Lib.Hide
import Derived.Deep.LoopGhost
namespace Go.Proofs.YtdibkdgafidjgaaGreatDoor
open Go.RowKit Go.Mer
def Gated (d : Nat) (fused : Bool) (left : Int) (R : Int → World → Prop) (e : Ending) (w' : World) : Prop :=
 ∃ r w2, R r w2 ∧ e = .returned (.int .i64 r) ∧ w' = if r = 0 ∧ fused = true then w2.setCell ⟨d, 3, none⟩ (.int .i64 (left - 1)) else w2
set_option maxHeartbeats 400000 in
theorem gate_does (d k : Nat) (room left : Int) (mp : Value) (fused : Bool) (hf : fused = false ∨ 0 < left) (hlm : left ≤ 9223372036854775807) (na : Option Addr) (nc : Nat) (ns : List ByteArray) (N : Int) (pv : Value) (w : World)
  (hd : w.heap[d]? = some (.cells #[.int .i64 room, mp, .bool fused, .int .i64 left] 80 (0, 0)))
  (hns : Rd w w.heap.size na (ns.map Value.string)) (hnl : ns.length ≤ 1000) (hok : ∀ s ∈ ns, nameOk s = true) (R : Int → World → Prop)
  (hR : ∀ r w2, R r w2 → ∃ room' mp', w2.heap[d]? = some (.cells #[.int .i64 room', mp', .bool fused, .int .i64 left] 80 (0, 0)))
  (hcf : ∀ args w, (callFunc k args).run Tryz.prog w = .ok (.enter k args) w)
  (hk : ∀ w1, Kp No w w1 → Calls Tryz.prog k #[.pointer (some ⟨d, 0, none⟩), .agg #[.slice na ns.length nc, .int .i64 N, pv]] w1 fun e w2 => ∃ r : Int, e = .returned (.int .i64 r) ∧ R r w2) :
  Calls Tryz.prog 72 #[.pointer (some ⟨d, 0, none⟩), .func (.func k) #[.pointer (some ⟨d, 0, none⟩)] #[], .agg #[.slice na ns.length nc, .int .i64 N, pv]] w (Gated d fused left R) := by
 have hdl := get_lt hd
 have c2 := cell_at hd 2
 have c3 := cell_at hd 3
 simp at c2 c3
 have HR := Lib.hid hR
 have HK := Lib.hid hk
 have HO := Lib.hid hok
 have HN := Lib.hid hns
 clear hR hk hok hns
 have hl1 : fused = true → 0 < left := fun h => hf.resolve_left (by rw [h]; simp)
 have hl0 : fused = true → ((left : Int) == 0) = false := fun h => by have := hl1 h; simp; omega
 cases fused
 all_goals
  first
   | (have hl2 := hl1 rfl; have hl3 := hl0 rfl; clear hl1 hl0 hf)
   | clear hl1 hl0 hf
  go_enter Tryz.func72, Tryz.ntmps72
  go_wp2_with fail
  go_loop [28] (fun i => ∃ j : Nat, j ≤ ns.length ∧ i = .int .i64 j) (fun i => ns.length - (intOf i).toNat)
  case atStart => exact ⟨0, Nat.zero_le _, rfl⟩
  case round =>
   obtain ⟨j, hj, rfl⟩ := hrel
   by_cases hlt : j < ns.length
   ·obtain ⟨g, off, rfl, hg, _, hc⟩ := HN.out.at_ (i := j) (u := .string ns[j]) (by simp [hlt])
    have hn := HO.out ns[j] (List.getElem_mem hlt)
    simp only [nameOk, Bool.and_eq_true, decide_eq_true_eq] at hn
    obtain ⟨hn1, hn2⟩ := hn
    go_wp2_with fail
    go_round
    case rel => exact ⟨j + 1, by omega, by go_num⟩
    case measure => simp [intOf]; omega
   ·go_wp2_with fail
    refine (HK.out _ ((Kp.refl _ _).alloc _)).mono ?_
    rintro e w2 ⟨r, rfl, hr⟩
    obtain ⟨room', mp', hd'⟩ := HR.out r w2 hr
    have c2' := cell_at hd' 2
    have c3' := cell_at hd' 3
    have f3' := free_at hd' 3
    simp at c2' c3'
    have HR2 := Lib.hid hr
    clear hr hd' c2 c3 hd
    by_cases hr0 : r = 0
    ·have HZ := Lib.hid hr0
     have hrz : (r == 0) = true := by simp [hr0]
     clear hr0
     go_wp2_with fail
     go_ret
     exact ⟨r, _, HR2.out, rfl, by simp [HZ.out]⟩
    ·have hrz : (r == 0) = false := by simp [hr0]
     go_wp2_with fail
     go_ret
     exact ⟨r, _, HR2.out, rfl, by simp [hr0]⟩
theorem gate_dead (d : Nat) (room : Int) (mp : Value) (fv wv : Value) (w : World) (hw1 : ∃ a b c, wv = .agg #[a, b, c])
  (hd : w.heap[d]? = some (.cells #[.int .i64 room, mp, .bool true, .int .i64 0] 80 (0, 0))) :
  Calls Tryz.prog 72 #[.pointer (some ⟨d, 0, none⟩), fv, wv] w fun e w' => e = .returned (.int .i64 9) ∧ Kp No w w' := by
 have hdl := get_lt hd
 have c2 := cell_at hd 2
 have c3 := cell_at hd 3
 simp at c2 c3
 obtain ⟨a, b, c, rfl⟩ := hw1
 go_enter Tryz.func72, Tryz.ntmps72
 go_wp2_with fail
 go_ret
 exact ⟨rfl, (Kp.refl _ _).alloc _⟩
set_option maxHeartbeats 400000 in
theorem gate_arg (d : Nat) (room left : Int) (mp fv : Value) (fused : Bool) (hf : fused = false ∨ 0 < left) (na : Option Addr) (nc : Nat) (ns : List ByteArray) (N : Int) (pv : Value) (w : World)
  (hd : w.heap[d]? = some (.cells #[.int .i64 room, mp, .bool fused, .int .i64 left] 80 (0, 0)))
  (hns : Rd w w.heap.size na (ns.map Value.string)) (hnl : ns.length ≤ 1000) (hbad : ns.all nameOk = false) :
  Calls Tryz.prog 72 #[.pointer (some ⟨d, 0, none⟩), fv, .agg #[.slice na ns.length nc, .int .i64 N, pv]] w fun e w' => e = .returned (.int .i64 1) ∧ Kp No w w' := by
 have hdl := get_lt hd
 have c2 := cell_at hd 2
 have c3 := cell_at hd 3
 simp at c2 c3
 have HN := Lib.hid hns
 have HB := Lib.hid hbad
 clear hns hbad
 have hl1 : fused = true → 0 < left := fun h => hf.resolve_left (by rw [h]; simp)
 have hl0 : fused = true → ((left : Int) == 0) = false := fun h => by have := hl1 h; simp; omega
 cases fused
 all_goals
  first
   | (have hl2 := hl1 rfl; have hl3 := hl0 rfl; clear hl1 hl0 hf)
   | clear hl1 hl0 hf
  go_enter Tryz.func72, Tryz.ntmps72
  go_wp2_with fail
  go_loop [28] (fun i => ∃ j : Nat, j ≤ ns.length ∧ i = .int .i64 j ∧ Hid ((ns.take j).all nameOk = true)) (fun i => ns.length - (intOf i).toNat)
  case atStart => exact ⟨0, Nat.zero_le _, rfl, rfl⟩
  case round =>
   obtain ⟨j, hj, rfl, ht⟩ := hrel
   have hlt : j < ns.length := by
    rcases Nat.lt_or_ge j ns.length with h | h
    ·exact h
    ·have h1 := ht.out
     rw [List.take_of_length_le h] at h1
     rw [HB.out] at h1
     cases h1
   obtain ⟨g, off, rfl, hg, _, hc⟩ := HN.out.at_ (i := j) (u := .string ns[j]) (by simp [hlt])
   by_cases hn : nameOk ns[j] = true
   ·have ht' : Hid ((ns.take (j + 1)).all nameOk = true) := by
     show _ = true
     rw [List.take_succ_eq_append_getElem hlt, List.all_append, ht.out]
     simp [hn]
    simp only [nameOk, Bool.and_eq_true, decide_eq_true_eq] at hn
    obtain ⟨hn1, hn2⟩ := hn
    go_wp2_with fail
    go_round
    case rel => exact ⟨j + 1, by omega, by go_num, ht'⟩
    case measure => simp [intOf]; omega
   ·have hn' : ns[j].size < 1 ∨ 64 < ns[j].size := by
     simp only [nameOk, Bool.and_eq_true, decide_eq_true_eq] at hn
     omega
    clear hn ht
    rcases hn' with hn' | hn'
    ·go_wp2_with fail
     go_ret
     exact ⟨rfl, (Kp.refl _ _).alloc _⟩
    ·have hn1 : ¬ ns[j].size < 1 := by omega
     go_wp2_with fail
     go_ret
     exact ⟨rfl, (Kp.refl _ _).alloc _⟩
end Go.Proofs.YtdibkdgafidjgaaGreatDoor
namespace Go.Proofs.YtdibkdgafidjgaaGreatDoor
open Go.RowKit Go.Mer
theorem ret_int' {k : IntKind} {a b : Int} (h : a = b) : Ending.returned (.int k a) = .returned (.int k b) := by rw [h]
set_option maxHeartbeats 400000 in
theorem clone_any (a : Option Addr) (c : Nat) (xs : List UInt8) (B : Nat) (w : World) (hr : Rd w B a (u8s xs)) (hm : xs.length ≤ 140737488355328) :
  Calls Tryz.prog 46 #[.slice a xs.length c] w fun e w' => ∃ v, e = .returned v ∧ Own w' 5 1 v xs.length (u8s xs) ∧ Kp No w w' ∧ ∀ g, v.ownBlock = some g → w.heap.size ≤ g := by
 obtain ⟨i0, hi, hz0, hz1, hz2⟩ := info_parts infoByte
 cases a with
 | none =>
  have hx : xs = [] := by
   rcases Nat.eq_zero_or_pos xs.length with h | h
   ·exact List.eq_nil_of_length_eq_zero h
   ·obtain ⟨g, off, h1, _⟩ := hr (by rw [u8s_length]; exact h)
    cases h1
  subst hx
  have hq := fun w => Lib.run_eql_slice_nil (P := Tryz.prog) w 23 5 none 0 c 0 0 Tryz.underlying23
  simp only [List.length_nil]
  go_enter Tryz.func46, Tryz.ntmps46
  go_wp2_with fail
  go_ret
  exact ⟨_, rfl, Own.nil _ _ _, Kp.refl _ _, fun g h => by simp [Value.ownBlock] at h⟩
 | some ad =>
  have hq := fun w => Lib.run_eql_slice_nil (P := Tryz.prog) w 23 5 (some ad) xs.length c 0 0 Tryz.underlying23
  have hal : Kp No w (w.alloc (.cells #[] 5)) := (Kp.refl _ _).alloc _
  have hown0 : Own (w.alloc (.cells #[] 5)) 5 1 (.slice (some ⟨w.heap.size, 0, none⟩) 0 0) 0 [] := Own.made w 5 1 #[] 0 0 (Nat.le_refl _) (by simp [maxLen]) (by simp) rfl
  have hsrc : Src (w.alloc (.cells #[] 5)) 1 (.slice (some ad) xs.length c) xs.length (u8s xs) := ⟨by simp [u8s_length], some ad, c, rfl, fun hx => by
   obtain ⟨g, off, h1, h2, h3, h4⟩ := hr hx
   exact ⟨g, off, h1, by simp; omega, Nat.le_refl _, fun j u hu => (hal.cell (p := ⟨g, off + j, none⟩) (by show g < _; omega) (fun x => x)).trans (h4 j u hu)⟩⟩
  obtain ⟨v1, w1, hrun, hown, hkp, hblk⟩ := run_append_Own (P := Tryz.prog) (w := w.alloc (.cells #[] 5)) 23 23 23 5 i0 (.int .u8 0) 1 1 Tryz.underlying23 ⟨_, Tryz.underlying23⟩ hi hz0 hz1 hz2 rfl
   (.slice (some ⟨w.heap.size, 0, none⟩) 0 0) 0 [] hown0 (.slice (some ad) xs.length c) xs.length (u8s xs) hsrc (u8s_one xs) (by simp only [maxLen]; omega) (by omega)
  have HO := Lib.hid hown
  have HK := Lib.hid hkp
  have HB := Lib.hid hblk
  have HR := Lib.hid hrun
  clear hown hkp hblk hown0 hsrc hz0 hz1 hz2 hi hrun
  go_enter Tryz.func46, Tryz.ntmps46
  go_wp2_with (at_builtin; refine wpList_append_run rfl rfl rfl rfl HR.out ?_)
  go_ret
  refine ⟨_, rfl, by simpa using HO.out, hal.trans HK.out (fun k hk h => by simp [Value.ownBlock] at h; omega), fun g hg => ?_⟩
  rcases HB.out with h | ⟨g', h, h'⟩
  ·have hg2 : v1.ownBlock = some g := hg
   rw [h] at hg2
   simp [Value.ownBlock] at hg2
   omega
  ·have hg2 : v1.ownBlock = some g := hg
   rw [h] at hg2
   injection hg2 with hg2
   simp at h'
   omega
theorem new_any (room : Nat) (w : World) (hhi : room ≤ 1073741824) :
  Calls Tryz.prog 33 #[.int .i64 (room : Int)] w fun e w' =>
   e = .returned (.tuple #[.pointer (some ⟨w.heap.size + 1, 0, none⟩), .int .i64 0]) ∧ Kp No w w' ∧ ∃ F, DiskAt w' (w.heap.size + 1) ⟨room, none, []⟩ F ∧ ∀ k, F k → w.heap.size ≤ k := by
 have hmm := @run_makeMap Tryz.prog
 go_enter Tryz.func33, Tryz.ntmps33
 go_wp2_with fail
 go_ret2
 refine ⟨rfl, ((Kp.refl _ _).alloc _).alloc _, fun k => k = w.heap.size ∨ k = w.heap.size + 1, ⟨w.heap.size, false, 0, [], ?_, rfl, rfl, ?_, ?_⟩, ?_⟩
 ·refine { cell := ?_, map := ?_, files := (by simp), blks := (by simp), rows := (by simp), fits := (by simp [absL, totF]), roomy := hhi, few := (by simp), left0 := (by simp), leftM := (by simp) }
  ·have := heap_alloc_new (w.alloc (.map #[] 0)) (.cells #[.int .i64 (room : Int), .map (some w.heap.size), .bool false, .int .i64 0] 80)
   simpa using this
  ·exact (GMap.made Value.string w).of_heap (by
    rw [Below.heap_alloc _ _ _ (by simp)])
 ·rintro k (rfl | rfl | ⟨p, hp, _⟩)
  ·exact .inr rfl
  ·exact .inl rfl
  ·cases hp
 ·rintro k (rfl | rfl) <;> simp <;> omega
 ·rintro k (rfl | rfl) <;> omega
set_option maxHeartbeats 400000 in
theorem used_any (w : World) (d m room : Nat) (fused : Bool) (left : Int) (L : FilesR) (hD : DiskC w d m room fused left L) :
  Calls Tryz.prog 102 #[.pointer (some ⟨d, 0, none⟩)] w fun e w' => e = .returned (.int .i64 (totF (absL L) : Int)) ∧ Kp No w w' := by
 have HD := Lib.hid hD
 have c1 := cell_at hD.cell 1
 simp at c1
 obtain ⟨o, hrun, hit⟩ := run_range_g (P := Tryz.prog) Tryz.underlying78 hD.map
 have HI := Lib.hid hit
 clear hit hD
 go_enter Tryz.func102, Tryz.ntmps102
 go_wp2_with fail
 go_loopg [3] (restV (absL L) []) (fun g n wr => ∃ V, g = restV (absL L) V ∧ Hid (GIter Value.string wr w.heap.size m (ptrL L) V) ∧ Kp No w wr ∧ n = .int .i64 (totV (absL L) V : Int))
 case atStart => exact ⟨[], rfl, HI.out, (Kp.refl _ _).alloc _, by rw [totV_nil]; rfl⟩
 case round =>
  obtain ⟨V, rfl, hI, hk, rfl⟩ := hrel
  have hD' := HD.out.keep_no hk
  have hsum := totV_le (absL L) V
  have hfit := hD'.fits
  have hroom := hD'.roomy
  rcases run_next_g (P := Tryz.prog) 0 hI.out with ⟨hall, hnext⟩ | ⟨p, hp, hpV, n, o', hnext, hI', hent⟩
  ·have ht := totV_all (l := absL L) (V := V) (fun q hq => by
    obtain ⟨x, hx, rfl⟩ := List.mem_map.1 hq
    exact hall (x.1, x.2.ptr) (List.mem_map.2 ⟨x, hx, rfl⟩))
   have HT := Lib.hid ht
   clear ht hall hD'
   go_wp2_with fail
   go_ret
   exact ⟨ret_int' (by rw [HT.out]), hk⟩
  ·obtain ⟨x, hx, rfl⟩ := List.mem_map.1 hp
   have hxa : (x.1, x.2.abs) ∈ absL L := List.mem_map.2 ⟨x, hx, rfl⟩
   have hst := totV_step (V := V) (by rw [keys_absL]; exact HD.out.keys) hxa hpV
   have hsum' := totV_le (absL L) (x.1 :: V)
   have hre := (filter_step (V := V) (by rw [keys_absL]; exact HD.out.keys) hxa hpV).2
   have hrm : w.heap.size ≠ m := hI.out.ne
   have hk' : Kp No w (ChangeMaps.setBlock (wr.drewN n) w.heap.size o') := (hk.drewN n).setBlock (.inr (Nat.le_refl _)) o'
   have hrl : w.heap.size < wr.heap.size := hI.out.lt
   have hf := (HD.out.keep_no hk').files x hx
   have cf := cell_at hf.1 0
   simp at cf
   obtain ⟨fa, fc, hv, _⟩ := hf.2.1.rd
   have cf' : (ChangeMaps.setBlock (wr.drewN n) w.heap.size o').cell? ⟨x.2.blk, 0, none⟩ = some (.slice fa x.2.data.length fc) := by rw [← hv]; exact cf
   have hnx : (Instr.next (.pointer (some ⟨w.heap.size, 0, none⟩)) false 0).run Tryz.prog wr = .ok (.tuple #[.bool true, .string x.1, .pointer (some ⟨x.2.blk, 0, none⟩)]) (ChangeMaps.setBlock (wr.drewN n) w.heap.size o') := hnext
   have hen : (Instr.entry (.pointer (some ⟨w.heap.size, 0, none⟩))).run Tryz.prog (ChangeMaps.setBlock (wr.drewN n) w.heap.size o') = .ok (.tuple #[.string x.1, .pointer (some ⟨x.2.blk, 0, none⟩)]) (ChangeMaps.setBlock (wr.drewN n) w.heap.size o') :=
    hent _ (setBlock_at (w := wr.drewN n) hrl o') (by show (wr.heap.setIfInBounds _ o')[m]? = _; rw [Array.getElem?_setIfInBounds_ne hrm])
   have hI2 := Lib.hid hI'
   have hadd : totV (absL L) V + x.2.data.length ≤ totF (absL L) := by have := hst; simp only [FileR.abs] at this; omega
   have hst' := Lib.hid hst
   have hre' := Lib.hid hre
   obtain ⟨W2, hW2⟩ : ∃ W, W = ChangeMaps.setBlock (wr.drewN n) w.heap.size o' := ⟨_, rfl⟩
   rw [← hW2] at cf' hnx hen hI2 hk'
   clear hW2 hnext hent hI' hst hre hv cf hf hsum' hxa hp hpV hI hD' hk
   go_wp2_with fail
   go_roundg (restV (absL L) (x.1 :: V))
   case measure => have := hre'.out; omega
   case rel => exact ⟨x.1 :: V, rfl, hI2.out, hk', by rw [hst'.out]; go_num⟩
end Go.Proofs.YtdibkdgafidjgaaGreatDoor
namespace Go.Proofs.YtdibkdgafidjgaaGreatDoor
open Go.RowKit Go.Mer
structure Facts (W1 : World) (d m b g off : Nat) (na : Option Addr) (nc : Nat) (N : Int) (pv : Value) (room : Nat) (L : FilesR) (name : ByteArray) : Prop where
 d0 : ∀ W, Kp No W1 W → W.cell? ⟨d, 0, none⟩ = some (.int .i64 (room : Int))
 d1 : ∀ W, Kp No W1 W → W.cell? ⟨d, 1, none⟩ = some (.map (some m))
 b0 : ∀ W, Kp No W1 W → W.cell? ⟨b, 0, none⟩ = some (.slice na 1 nc)
 b1 : ∀ W, Kp No W1 W → W.cell? ⟨b, 1, none⟩ = some (.int .i64 N)
 b2 : ∀ W, Kp No W1 W → W.cell? ⟨b, 2, none⟩ = some pv
 nm : ∀ W, Kp No W1 W → W.cell? ⟨g, off, none⟩ = some (.string name)
 look : ∀ W, Kp No W1 W → (Instr.lookup 78 (.map (some m)) (.string name) false).run Tryz.prog W = .ok (((gget L name).map FileR.ptr).getD (.pointer none)) W
 many : ∀ W, Kp No W1 W → (Builtin.len_ #[78] 3 #[.map (some m)]).run Tryz.prog W = .ok (.int .i64 (L.length : Int)) W
 dr : ∀ n, Kp No W1 (W1.drewN n)
theorem facts {w : World} {d m room : Nat} {fused : Bool} {left : Int} {L : FilesR} (hD : DiskC w d m room fused left L) {name : ByteArray} {g off nc : Nat} {N : Int} {pv : Value}
  (hg : w.cell? ⟨g, off, none⟩ = some (.string name)) :
  Facts (w.alloc (.cells #[.slice (some ⟨g, off, none⟩) 1 nc, .int .i64 N, pv] 125)) d m w.heap.size g off (some ⟨g, off, none⟩) nc N pv room L name := by
 have h1 : Kp No w (w.alloc (.cells #[.slice (some ⟨g, off, none⟩) 1 nc, .int .i64 N, pv] 125)) := (Kp.refl _ _).alloc _
 have hd : ∀ W, Kp No (w.alloc (.cells #[.slice (some ⟨g, off, none⟩) 1 nc, .int .i64 N, pv] 125)) W → DiskC W d m room fused left L := fun W hW => hD.keep_no (h1.trans_same hW)
 have hb : ∀ W, Kp No (w.alloc (.cells #[.slice (some ⟨g, off, none⟩) 1 nc, .int .i64 N, pv] 125)) W → W.heap[w.heap.size]? = some (.cells #[.slice (some ⟨g, off, none⟩) 1 nc, .int .i64 N, pv] 125 (0, 0)) :=
  fun W hW => hW.get (heap_alloc_new w _) fun x => x
 have hgl := World.block_lt_of_cell? w _ hg
 refine ⟨fun W hW => ?_, fun W hW => ?_, fun W hW => ?_, fun W hW => ?_, fun W hW => ?_, fun W hW => ?_, fun W hW => ?_, fun W hW => ?_, fun n => (Kp.refl _ _).drewN n⟩
 ·rw [cell_at (hd W hW).cell]; rfl
 ·rw [cell_at (hd W hW).cell]; rfl
 ·rw [cell_at (hb W hW)]; rfl
 ·rw [cell_at (hb W hW)]; rfl
 ·rw [cell_at (hb W hW)]; rfl
 ·exact ((h1.trans_same hW).cell hgl fun x => x).trans hg
 ·have := look_file (hd W hW).map name
  rw [show ptrL L = L.map fun p => (p.1, p.2.ptr) from rfl, gget_mapv] at this
  exact this
 ·have := run_len_g (P := Tryz.prog) (ty := 3) Tryz.underlying78 (hd W hW).map
  rw [show (ptrL L).length = L.length from by simp [ptrL]] at this
  exact this
set_option maxHeartbeats 400000 in
theorem sync_some (w : World) (d m room : Nat) (fused : Bool) (left : Int) (L : FilesR) (hD : DiskC w d m room fused left L) (name : ByteArray) (c : FileR) (hc : gget L name = some c)
  (na : Option Addr) (nc : Nat) (hns : Rd w w.heap.size na [Value.string name]) (N : Int) (pv : Value) :
  Calls Tryz.prog 97 #[.pointer (some ⟨d, 0, none⟩), .agg #[.slice na 1 nc, .int .i64 N, pv]] w fun e w' =>
   e = .returned (.int .i64 0) ∧ DiskC w' d m room fused left (gset L name { c with lasts := c.data.length }) ∧ Foot (FP d m L) (FP d m (gset L name { c with lasts := c.data.length })) w ∧ Kp (FP d m L) w w' := by
 obtain ⟨g, off, rfl, hg, _, hcn⟩ := hns.at_ (i := 0) rfl
 simp only [Nat.add_zero] at hcn
 have FA := facts hD (nc := nc) (N := N) (pv := pv) hcn
 have f1 := FA.d0
 have f2 := FA.d1
 have f3 := FA.b0
 have f4 := FA.b1
 have f5 := FA.b2
 have f6 := FA.nm
 have f7 := FA.look
 have f8 := FA.many
 have f9 := FA.dr
 have hdl := get_lt hD.cell
 have H1 : Kp No w (w.alloc (.cells #[.slice (some ⟨g, off, none⟩) 1 nc, .int .i64 N, pv] 125)) := (Kp.refl _ _).alloc _
 have HD := Lib.hid hD
 clear FA hns hcn
 have hf := hD.files _ (gget_mem hc)
 have hfl := get_lt hf.1
 obtain ⟨fa, fc, hv, _⟩ := hf.2.1.rd
 have cf0 : ∀ n, ((w.alloc (.cells #[.slice (some ⟨g, off, none⟩) 1 nc, .int .i64 N, pv] 125)).drewN n).cell? ⟨c.blk, 0, none⟩ = some (.slice fa c.data.length fc) := fun n => by
  rw [cell_at ((H1.drewN n).get hf.1 fun x => x), hv]; rfl
 have cf1 : ∀ n, ((w.alloc (.cells #[.slice (some ⟨g, off, none⟩) 1 nc, .int .i64 N, pv] 125)).drewN n).cell? ⟨c.blk, 1, none⟩ = some (.int .i64 (c.lasts : Int)) := fun n => by
  rw [cell_at ((H1.drewN n).get hf.1 fun x => x)]; rfl
 have ff1 : ∀ n, ((w.alloc (.cells #[.slice (some ⟨g, off, none⟩) 1 nc, .int .i64 N, pv] 125)).drewN n).frozen? ⟨c.blk, 1, none⟩ = false := fun n => free_at ((H1.drewN n).get hf.1 fun x => x) 1
 rw [hc] at f7
 simp only [Option.map_some, Option.getD_some, FileR.ptr] at f7
 have HF := Lib.hid hf
 have HC := Lib.hid hc
 clear hf hv hc f8 f1 f4 f5 hD
 obtain ⟨W1, hW1⟩ : ∃ W, W = w.alloc (.cells #[.slice (some ⟨g, off, none⟩) 1 nc, .int .i64 N, pv] 125) := ⟨_, rfl⟩
 go_enter Tryz.func97, Tryz.ntmps97
 go_wp2_with fail
 rw [← hW1] at f2 f3 f6 f7 f9 cf0 cf1 ff1 H1 ⊢
 clear hW1
 refine wp_region_ord [0,0,0,1,0,1,0,1,1,0] [0,1,2,4,3,5,6,7,8,9] (by kernel_rfl) (by kernel_rfl) ?_
 repeat (first
  | (apply wpOrd_skip rfl (by decide) rfl; (focus (go_simp; rfl)))
  | (apply wpOrd_pure rfl rfl rfl; (focus (intro _ _; go_simp; (try go_ints); rfl)); (focus (go_simp; rfl)))
  | (apply wpOrd_read rfl rfl rfl; (focus (intro _; go_simp; (try go_ints); rfl)); (focus (go_simp; rfl))))
 refine wpOrd_nil (fun nq => ?_)
 go_wp2_with fail
 go_ret
 have hD2 := HD.out.keep_no (H1.drewN nq)
 have hf2 := HF.out.keep (H1.drewN nq) (fun x => x) (fun _ _ x => x)
 have hs : Kp (One c.blk) (W1.drewN nq) ((W1.drewN nq).setCell ⟨c.blk, 1, none⟩ (.int .i64 (c.data.length : Int))) := (Kp.refl (One c.blk) _).setCell (p := ⟨c.blk, 1, none⟩) (.inl rfl) _
 have hne : ∀ k, c.v.ownBlock = some k → k ≠ c.blk := fun k hk e => by
  obtain ⟨cur, hcur⟩ := hf2.2.1.type k hk
  exact ne_of_type hcur hf2.1 (by decide) e
 obtain ⟨h1, h2, h3⟩ := hD2.setFile (c' := { c with lasts := c.data.length }) HC.out rfl (hs.mono fun k _ hk => .inl hk)
  ⟨by have := set_at hf2.1 1 (.int .i64 (c.data.length : Int)); simpa using this, hf2.2.1.keep hs (fun k hk => hne k hk), Nat.le_refl _⟩ (.inl rfl) (by
   rw [gset_abs]
   have := totF_gset (l := absL L) (k := name) (x := c.abs) (y := FileR.abs { c with lasts := c.data.length }) (by rw [keys_absL]; exact HD.out.keys) (by rw [gget_abs, HC.out]; rfl)
   have := HD.out.fits
   simp only [FileR.abs] at *
   omega)
 exact ⟨rfl, h1, fun k hk => (h2 k hk).imp id fun h => Nat.le_trans (H1.drewN nq).size h, (Kp.of_no (H1.drewN nq)).trans_same h3⟩
set_option maxHeartbeats 400000 in
theorem sync_none (w : World) (d m room : Nat) (fused : Bool) (left : Int) (L : FilesR) (hD : DiskC w d m room fused left L) (name : ByteArray) (hc : gget L name = none)
  (na : Option Addr) (nc : Nat) (hns : Rd w w.heap.size na [Value.string name]) (N : Int) (pv : Value) :
  Calls Tryz.prog 97 #[.pointer (some ⟨d, 0, none⟩), .agg #[.slice na 1 nc, .int .i64 N, pv]] w fun e w' =>
   e = .returned (.int .i64 7) ∧ Kp No w w' := by
 obtain ⟨g, off, rfl, hg, _, hcn⟩ := hns.at_ (i := 0) rfl
 simp only [Nat.add_zero] at hcn
 have FA := facts hD (nc := nc) (N := N) (pv := pv) hcn
 have f1 := FA.d0
 have f2 := FA.d1
 have f3 := FA.b0
 have f4 := FA.b1
 have f5 := FA.b2
 have f6 := FA.nm
 have f7 := FA.look
 have f8 := FA.many
 have f9 := FA.dr
 have hdl := get_lt hD.cell
 have H1 : Kp No w (w.alloc (.cells #[.slice (some ⟨g, off, none⟩) 1 nc, .int .i64 N, pv] 125)) := (Kp.refl _ _).alloc _
 have HD := Lib.hid hD
 clear FA hns hcn
 rw [hc] at f7
 simp only [Option.map_none, Option.getD_none] at f7
 clear hc f8 f1 f4 f5 hD
 obtain ⟨W1, hW1⟩ : ∃ W, W = w.alloc (.cells #[.slice (some ⟨g, off, none⟩) 1 nc, .int .i64 N, pv] 125) := ⟨_, rfl⟩
 go_enter Tryz.func97, Tryz.ntmps97
 go_wp2_with fail
 rw [← hW1] at f2 f3 f6 f7 f9 H1 ⊢
 clear hW1
 refine wp_region_ord [0,0,0,1,0,1,0,1,1,0] [0,1,2,4,3,5,6,7,8,9] (by kernel_rfl) (by kernel_rfl) ?_
 repeat (first
  | (apply wpOrd_skip rfl (by decide) rfl; (focus (go_simp; rfl)))
  | (apply wpOrd_pure rfl rfl rfl; (focus (intro _ _; go_simp; (try go_ints); rfl)); (focus (go_simp; rfl)))
  | (apply wpOrd_read rfl rfl rfl; (focus (intro _; go_simp; (try go_ints); rfl)); (focus (go_simp; rfl))))
 refine wpOrd_nil (fun nq => ?_)
 go_wp2_with fail
 go_ret
 exact ⟨rfl, H1.drewN _⟩
end Go.Proofs.YtdibkdgafidjgaaGreatDoor
namespace Go.Proofs.YtdibkdgafidjgaaGreatDoor
open Go.RowKit Go.Mer
set_option maxHeartbeats 800000 in
theorem write_full (w : World) (d m room : Nat) (fused : Bool) (left : Int) (L : FilesR) (hD : DiskC w d m room fused left L) (name : ByteArray)
  (na : Option Addr) (nc : Nat) (hns : Rd w w.heap.size na [Value.string name]) (N : Int) (pa : Option Addr) (pc : Nat) (p : List UInt8) (hpm : p.length ≤ 140737488355328) (hfull : room < totF (absL L) + p.length) :
  Calls Tryz.prog 73 #[.pointer (some ⟨d, 0, none⟩), .agg #[.slice na 1 nc, .int .i64 N, .slice pa p.length pc]] w fun e w' =>
   e = .returned (.int .i64 6) ∧ Kp No w w' := by
 obtain ⟨g, off, rfl, hg, _, hcn⟩ := hns.at_ (i := 0) rfl
 simp only [Nat.add_zero] at hcn
 have FA := facts hD (nc := nc) (N := N) (pv := (.slice pa p.length pc)) hcn
 have f1 := FA.d0
 have f2 := FA.d1
 have f3 := FA.b0
 have f4 := FA.b1
 have f5 := FA.b2
 have f6 := FA.nm
 have f7 := FA.look
 have f8 := FA.many
 have f9 := FA.dr
 have hdl := get_lt hD.cell
 have H1 : Kp No w (w.alloc (.cells #[.slice (some ⟨g, off, none⟩) 1 nc, .int .i64 N, (.slice pa p.length pc)] 125)) := (Kp.refl _ _).alloc _
 have HD := Lib.hid hD
 clear FA hns hcn
 have hU := fun W (h : Kp No w W) => used_any W d m room fused left L (hD.keep_no h)
 have hfit := hD.fits
 have hroom := hD.roomy
 have hmany : (L.length : Int) ≤ 4096 := by have := hD.few; omega
 have hgt : ((p.length : Int) > (room : Int) - (totF (absL L) : Int)) := by omega
 have hgd : decide ((room : Int) - (totF (absL L) : Int) < (p.length : Int)) = true := by simp; omega
 rcases hv : (gget L name).map FileR.ptr with _ | v
 all_goals
  rw [hv] at f7
  clear hv
  try simp only [Option.getD_none, Option.getD_some] at f7
  go_enter Tryz.func73, Tryz.ntmps73
  go_wp2_with fail
  obtain ⟨W1, hW1⟩ : ∃ W, W = w.alloc (.cells #[.slice (some ⟨g, off, none⟩) 1 nc, .int .i64 N, .slice pa p.length pc] 125) := ⟨_, rfl⟩
  rw [← hW1] at f1 f2 f3 f4 f5 f6 f7 f8 f9 H1 ⊢
  have HU := Lib.hid hU
  clear hW1 hU hD
  refine wp_region_ord [0,0,0,1,0,1,0,1,1,0] [0,1,2,4,3,5,6,7,8,9] (by kernel_rfl) (by kernel_rfl) ?_
  repeat (first
   | (apply wpOrd_skip rfl (by decide) rfl; (focus (go_simp; rfl)))
   | (apply wpOrd_pure rfl rfl rfl; (focus (intro _ _; go_simp; (try go_ints); rfl)); (focus (go_simp; rfl)))
   | (apply wpOrd_read rfl rfl rfl; (focus (intro _; go_simp; (try go_ints); rfl)); (focus (go_simp; rfl))))
  refine wpOrd_nil (fun nq => ?_)
  go_wp2_with fail
  have f0 : ∀ W, Kp No (W1.drewN nq) W → Kp No W1 W := fun W h => h.of_drewN
  refine wp_region_held' (Kp No _) [0,0,0,0,0,0,0,0,2,0,0,0,0,0,0,0,0,0,0,0,0,0,0] [0,1,2,3,4,5,6,7,8,9,10,11,12,13,14,15,16,17,18,19,20,21,22] (by kernel_rfl) (by kernel_rfl) (fun _ n h => h.drewN n) (Kp.refl _ _) ?_
  repeat (first
   | (apply wpOrd_skip rfl (by decide) rfl; (focus (go_simp; rfl)))
   | (apply wpOrd_pure rfl rfl rfl; (focus (intro _ _; go_simp; (try go_ints); rfl)); (focus (go_simp; rfl)))
   | (apply wpOrd_read rfl rfl rfl; (focus (intro _; go_simp; (try go_ints); rfl)); (focus (go_simp; rfl))))
  refine wpOrd_eff rfl rfl (fun nu => ?_)
  go_wp2_with fail
  refine (HU.out _ (H1.drewN _)).mono ?_
  rintro e W3 ⟨rfl, hk3⟩
  go_wp2_with fail
  refine ⟨hk3.of_drewN.from_drewN _, ?_⟩
  have K3 : Kp No W1 W3 := hk3.of_drewN
  repeat (first
   | (apply wpOrd_skip rfl (by decide) rfl; (focus (go_simp; rfl)))
   | (apply wpOrd_pure rfl rfl rfl; (focus (intro _ _; go_simp; (try go_ints); rfl)); (focus (go_simp; rfl)))
   | (apply wpOrd_read rfl rfl rfl; (focus (intro _; go_simp; (try go_ints); rfl)); (focus (go_simp; rfl))))
  refine wpOrd_nil (fun nq => ?_)
  clear hk3
  go_wp2_with fail
  go_ret
  exact ⟨rfl, (H1.trans_same K3).drewN _⟩
set_option maxHeartbeats 800000 in
theorem write_many (w : World) (d m room : Nat) (fused : Bool) (left : Int) (L : FilesR) (hD : DiskC w d m room fused left L) (name : ByteArray)
  (na : Option Addr) (nc : Nat) (hns : Rd w w.heap.size na [Value.string name]) (N : Int) (pa : Option Addr) (pc : Nat) (p : List UInt8) (hfull : totF (absL L) + p.length ≤ room)
  (hc : gget L name = none) (hmny : 4096 ≤ L.length) :
  Calls Tryz.prog 73 #[.pointer (some ⟨d, 0, none⟩), .agg #[.slice na 1 nc, .int .i64 N, .slice pa p.length pc]] w fun e w' =>
   e = .returned (.int .i64 6) ∧ Kp No w w' := by
 obtain ⟨g, off, rfl, hg, _, hcn⟩ := hns.at_ (i := 0) rfl
 simp only [Nat.add_zero] at hcn
 have FA := facts hD (nc := nc) (N := N) (pv := (.slice pa p.length pc)) hcn
 have f1 := FA.d0
 have f2 := FA.d1
 have f3 := FA.b0
 have f4 := FA.b1
 have f5 := FA.b2
 have f6 := FA.nm
 have f7 := FA.look
 have f8 := FA.many
 have f9 := FA.dr
 have hdl := get_lt hD.cell
 have H1 : Kp No w (w.alloc (.cells #[.slice (some ⟨g, off, none⟩) 1 nc, .int .i64 N, (.slice pa p.length pc)] 125)) := (Kp.refl _ _).alloc _
 have HD := Lib.hid hD
 clear FA hns hcn
 have hU := fun W (h : Kp No w W) => used_any W d m room fused left L (hD.keep_no h)
 have hfit := hD.fits
 have hroom := hD.roomy
 have hmany : (L.length : Int) ≤ 4096 := by have := hD.few; omega
 have hgd : decide ((room : Int) - (totF (absL L) : Int) < (p.length : Int)) = false := by simp; omega
 have hge : decide ((4096 : Int) ≤ (L.length : Int)) = true := by simp; omega
 rw [hc] at f7
 clear hc
 simp only [Option.map_none, Option.getD_none] at f7
 go_enter Tryz.func73, Tryz.ntmps73
 go_wp2_with fail
 obtain ⟨W1, hW1⟩ : ∃ W, W = w.alloc (.cells #[.slice (some ⟨g, off, none⟩) 1 nc, .int .i64 N, .slice pa p.length pc] 125) := ⟨_, rfl⟩
 rw [← hW1] at f1 f2 f3 f4 f5 f6 f7 f8 f9 H1 ⊢
 have HU := Lib.hid hU
 clear hW1 hU hD
 refine wp_region_ord [0,0,0,1,0,1,0,1,1,0] [0,1,2,4,3,5,6,7,8,9] (by kernel_rfl) (by kernel_rfl) ?_
 repeat (first
  | (apply wpOrd_skip rfl (by decide) rfl; (focus (go_simp; rfl)))
  | (apply wpOrd_pure rfl rfl rfl; (focus (intro _ _; go_simp; (try go_ints); rfl)); (focus (go_simp; rfl)))
  | (apply wpOrd_read rfl rfl rfl; (focus (intro _; go_simp; (try go_ints); rfl)); (focus (go_simp; rfl))))
 refine wpOrd_nil (fun nq => ?_)
 go_wp2_with fail
 have f0 : ∀ W, Kp No (W1.drewN nq) W → Kp No W1 W := fun W h => h.of_drewN
 refine wp_region_held' (Kp No _) [0,0,0,0,0,0,0,0,2,0,0,0,0,0,0,0,0,0,0,0,0,0,0] [0,1,2,3,4,5,6,7,8,9,10,11,12,13,14,15,16,17,18,19,20,21,22] (by kernel_rfl) (by kernel_rfl) (fun _ n h => h.drewN n) (Kp.refl _ _) ?_
 repeat (first
  | (apply wpOrd_skip rfl (by decide) rfl; (focus (go_simp; rfl)))
  | (apply wpOrd_pure rfl rfl rfl; (focus (intro _ _; go_simp; (try go_ints); rfl)); (focus (go_simp; rfl)))
  | (apply wpOrd_read rfl rfl rfl; (focus (intro _; go_simp; (try go_ints); rfl)); (focus (go_simp; rfl))))
 refine wpOrd_eff rfl rfl (fun nu => ?_)
 go_wp2_with fail
 refine (HU.out _ (H1.drewN _)).mono ?_
 rintro e W3 ⟨rfl, hk3⟩
 go_wp2_with fail
 refine ⟨hk3.of_drewN.from_drewN _, ?_⟩
 have K3 : Kp No W1 W3 := hk3.of_drewN
 repeat (first
  | (apply wpOrd_skip rfl (by decide) rfl; (focus (go_simp; rfl)))
  | (apply wpOrd_pure rfl rfl rfl; (focus (intro _ _; go_simp; (try go_ints); rfl)); (focus (go_simp; rfl)))
  | (apply wpOrd_read rfl rfl rfl; (focus (intro _; go_simp; (try go_ints); rfl)); (focus (go_simp; rfl))))
 refine wpOrd_nil (fun nq => ?_)
 clear hk3
 go_wp2_with fail
 go_ret
 exact ⟨rfl, (H1.trans_same K3).drewN _⟩
end Go.Proofs.YtdibkdgafidjgaaGreatDoor
namespace Go.Proofs.YtdibkdgafidjgaaGreatDoor
open Go.RowKit Go.Mer
set_option maxHeartbeats 800000 in
theorem write_some (w : World) (d m room : Nat) (fused : Bool) (left : Int) (L : FilesR) (hD : DiskC w d m room fused left L) (name : ByteArray)
  (na : Option Addr) (nc : Nat) (hns : Rd w w.heap.size na [Value.string name]) (N : Int) (pa : Option Addr) (pc : Nat) (p : List UInt8) (hfull : totF (absL L) + p.length ≤ room)
  (hp : Rd w w.heap.size pa (u8s p)) (c : FileR) (hc : gget L name = some c) :
  Calls Tryz.prog 73 #[.pointer (some ⟨d, 0, none⟩), .agg #[.slice na 1 nc, .int .i64 N, .slice pa p.length pc]] w fun e w' =>
   e = .returned (.int .i64 0) ∧ ∃ v, DiskC w' d m room fused left (gset L name { c with v := v, data := c.data ++ p }) ∧ Foot (FP d m L) (FP d m (gset L name { c with v := v, data := c.data ++ p })) w ∧ Kp (FP d m L) w w' := by
 obtain ⟨i0, hi, hz0, hz1, hz2⟩ := info_parts infoByte
 obtain ⟨g, off, rfl, hg, _, hcn⟩ := hns.at_ (i := 0) rfl
 simp only [Nat.add_zero] at hcn
 have FA := facts hD (nc := nc) (N := N) (pv := (.slice pa p.length pc)) hcn
 have f1 := FA.d0
 have f2 := FA.d1
 have f3 := FA.b0
 have f4 := FA.b1
 have f5 := FA.b2
 have f6 := FA.nm
 have f7 := FA.look
 have f8 := FA.many
 have f9 := FA.dr
 have hdl := get_lt hD.cell
 have H1 : Kp No w (w.alloc (.cells #[.slice (some ⟨g, off, none⟩) 1 nc, .int .i64 N, (.slice pa p.length pc)] 125)) := (Kp.refl _ _).alloc _
 have HD := Lib.hid hD
 clear FA hns hcn
 have hU := fun W (h : Kp No w W) => used_any W d m room fused left L (hD.keep_no h)
 have hfit := hD.fits
 have hroom := hD.roomy
 have hmany : (L.length : Int) ≤ 4096 := by have := hD.few; omega
 have hgd : decide ((room : Int) - (totF (absL L) : Int) < (p.length : Int)) = false := by simp; omega
 have hf := hD.files _ (gget_mem hc)
 have hfl := get_lt hf.1
 obtain ⟨fa, fc, hv, _⟩ := hf.2.1.rd
 have cf0 : ∀ W, Kp No w W → W.cell? ⟨c.blk, 0, none⟩ = some (.slice fa c.data.length fc) := fun W h => by
  rw [cell_at (h.get hf.1 fun x => x), hv]; rfl
 rw [hc] at f7
 simp only [Option.map_some, Option.getD_some, FileR.ptr] at f7
 have HF := Lib.hid hf
 have HC := Lib.hid hc
 have HP := Lib.hid hp
 have HV := Lib.hid hv
 have HI := Lib.hid (And.intro hi (And.intro hz0 (And.intro hz1 hz2)))
 clear hf hv hc hp hi hz0 hz1 hz2
 go_enter Tryz.func73, Tryz.ntmps73
 go_wp2_with fail
 obtain ⟨W1, hW1⟩ : ∃ W, W = w.alloc (.cells #[.slice (some ⟨g, off, none⟩) 1 nc, .int .i64 N, .slice pa p.length pc] 125) := ⟨_, rfl⟩
 rw [← hW1] at f1 f2 f3 f4 f5 f6 f7 f8 f9 H1 ⊢
 have HU := Lib.hid hU
 clear hW1 hU hD
 refine wp_region_ord [0,0,0,1,0,1,0,1,1,0] [0,1,2,4,3,5,6,7,8,9] (by kernel_rfl) (by kernel_rfl) ?_
 repeat (first
  | (apply wpOrd_skip rfl (by decide) rfl; (focus (go_simp; rfl)))
  | (apply wpOrd_pure rfl rfl rfl; (focus (intro _ _; go_simp; (try go_ints); rfl)); (focus (go_simp; rfl)))
  | (apply wpOrd_read rfl rfl rfl; (focus (intro _; go_simp; (try go_ints); rfl)); (focus (go_simp; rfl))))
 refine wpOrd_nil (fun nq => ?_)
 go_wp2_with fail
 have f0 : ∀ W, Kp No (W1.drewN nq) W → Kp No W1 W := fun W h => h.of_drewN
 refine wp_region_held' (Kp No _) [0,0,0,0,0,0,0,0,2,0,0,0,0,0,0,0,0,0,0,0,0,0,0] [0,1,2,3,4,5,6,7,8,9,10,11,12,13,14,15,16,17,18,19,20,21,22] (by kernel_rfl) (by kernel_rfl) (fun _ n h => h.drewN n) (Kp.refl _ _) ?_
 repeat (first
  | (apply wpOrd_skip rfl (by decide) rfl; (focus (go_simp; rfl)))
  | (apply wpOrd_pure rfl rfl rfl; (focus (intro _ _; go_simp; (try go_ints); rfl)); (focus (go_simp; rfl)))
  | (apply wpOrd_read rfl rfl rfl; (focus (intro _; go_simp; (try go_ints); rfl)); (focus (go_simp; rfl))))
 refine wpOrd_eff rfl rfl (fun nu => ?_)
 go_wp2_with fail
 refine (HU.out _ (H1.drewN _)).mono ?_
 rintro e W3 ⟨rfl, hk3⟩
 go_wp2_with fail
 refine ⟨hk3.of_drewN.from_drewN _, ?_⟩
 have K3 : Kp No W1 W3 := hk3.of_drewN
 repeat (first
  | (apply wpOrd_skip rfl (by decide) rfl; (focus (go_simp; rfl)))
  | (apply wpOrd_pure rfl rfl rfl; (focus (intro _ _; go_simp; (try go_ints); rfl)); (focus (go_simp; rfl)))
  | (apply wpOrd_read rfl rfl rfl; (focus (intro _; go_simp; (try go_ints); rfl)); (focus (go_simp; rfl))))
 refine wpOrd_nil (fun nq => ?_)
 clear hk3
 go_wp2_with fail
 have K4 : ∀ n, Kp No w (W3.drewN n) := fun n => (H1.trans_same K3).drewN n
 have K5 : ∀ n, Kp No W1 (W3.drewN n) := fun n => K3.drewN n
 have cf0' := fun n => cf0 _ (K4 n)
 have f5' := fun n => f5 _ (K5 n)
 clear f1 f2 f3 f4 f5 f6 f7 f8 f9 f0 cf0 HU
 refine wp_region_ord [0,0,0,0,1,0,1,2,0,0,2] [0,1,2,3,5,4,6,7,8,9,10] (by kernel_rfl) (by kernel_rfl) ?_
 repeat (first
  | (apply wpOrd_skip rfl (by decide) rfl; (focus (go_simp; rfl)))
  | (apply wpOrd_pure rfl rfl rfl; (focus (intro _ _; go_simp; (try go_ints); rfl)); (focus (go_simp; rfl)))
  | (apply wpOrd_read rfl rfl rfl; (focus (intro _; go_simp; (try go_ints); rfl)); (focus (go_simp; rfl))))
 refine wpOrd_eff rfl rfl (fun ng => ?_)
 rw [World.drewN_drewN]
 have KB := K4 (nq + ng)
 have hfB := HF.out.keep KB (fun x => x) (fun _ _ x => x)
 have hpB := HP.out.keep KB (fun _ _ x => x)
 have KL := K4 (nq + ng)
 obtain ⟨WB, hWB⟩ : ∃ W, W = W3.drewN (nq + ng) := ⟨_, rfl⟩
 rw [← hWB] at KB hfB hpB ⊢
 clear hWB K4 K5 cf0' f5' KL K3
 obtain ⟨hi, hz0, hz1, hz2⟩ := HI.out
 obtain ⟨v', w', hrun, hown, hkp, hblk⟩ := run_append_Own (P := Tryz.prog) (w := WB) 23 23 23 5 i0 (.int .u8 0) 1 1 Tryz.underlying23 ⟨_, Tryz.underlying23⟩ hi hz0 hz1 hz2 rfl
  c.v c.data.length (u8s c.data) hfB.2.1 (.slice pa p.length pc) p.length (u8s p) ⟨by simp [u8s_length], pa, pc, rfl, hpB.mono KB.size (Nat.le_refl _)⟩ (u8s_one p)
  (by have := mem_len (l := absL L) (p := (name, c.abs)) (List.mem_map.2 ⟨(name, c), gget_mem HC.out, rfl⟩); simp only [FileR.abs] at this; simp only [maxLen]; omega)
  (by have := mem_len (l := absL L) (p := (name, c.abs)) (List.mem_map.2 ⟨(name, c), gget_mem HC.out, rfl⟩); simp only [FileR.abs] at this; omega)
 have hne : ∀ k, c.v.ownBlock = some k → k ≠ c.blk := fun k hk e => by
  obtain ⟨cur, hcur⟩ := hfB.2.1.type k hk
  exact ne_of_type hcur hfB.1 (by decide) e
 have hcell := hkp.get hfB.1 (fun h => hne _ h rfl)
 rw [HV.out] at hrun
 refine wpList_append_run rfl rfl rfl rfl hrun (wpList_nil ⟨rfl, trivial, ?_⟩)
 obtain ⟨a', c', hv'⟩ : ∃ a' c', v' = .slice a' (c.data.length + p.length) c' := by obtain ⟨_, a', c', h, _⟩ := hown; exact ⟨a', c', h⟩
 subst hv'
 have cs : ∀ n, (w'.drewN n).cell? ⟨c.blk, 0, none⟩ = some (.slice fa c.data.length fc) := fun n => by
  rw [cell_at (w := w'.drewN n) hcell, HV.out]; rfl
 have fs : ∀ n, (w'.drewN n).frozen? ⟨c.blk, 0, none⟩ = false := fun n => free_at (w := w'.drewN n) hcell 0
 have HO := Lib.hid hown
 have HK := Lib.hid hkp
 have HB := Lib.hid hblk
 have HL := Lib.hid hcell
 have HF2 := Lib.hid hfB
 clear hown hkp hblk hcell hrun hi hz0 hz1 hz2 hfB hpB hne HI
 repeat (first
  | (apply wpOrd_skip rfl (by decide) rfl; (focus (go_simp; rfl)))
  | (apply wpOrd_pure rfl rfl rfl; (focus (intro _ _; go_simp; (try go_ints); rfl)); (focus (go_simp; rfl)))
  | (apply wpOrd_read rfl rfl rfl; (focus (intro _; go_simp; (try go_ints); rfl)); (focus (go_simp; rfl))))
 refine wpOrd_eff rfl rfl (fun n2 => ?_)
 go_wp2_with fail
 refine wpOrd_nil (fun nq => ?_)
 go_wp2_with fail
 go_ret
 have hfw := HF2.out
 have hDB := HD.out.keep_no KB
 have hkf : Kp (fun k => k = c.blk ∨ c.v.ownBlock = some k) WB (((w'.drewN n2).setCell ⟨c.blk, 0, none⟩ (.slice a' (c.data.length + p.length) c')).drewN nq) :=
  (((HK.out.mono fun _ _ h => .inr h).drewN n2).setCell (p := ⟨c.blk, 0, none⟩) (.inl (.inl rfl)) _).drewN nq
 have hks : Kp (One c.blk) w' (((w'.drewN n2).setCell ⟨c.blk, 0, none⟩ (.slice a' (c.data.length + p.length) c')).drewN nq) :=
  (((Kp.refl (One c.blk) w').drewN n2).setCell (p := ⟨c.blk, 0, none⟩) (.inl rfl) _).drewN nq
 have hcf : (((w'.drewN n2).setCell ⟨c.blk, 0, none⟩ (.slice a' (c.data.length + p.length) c')).drewN nq).heap[c.blk]? = some (.cells #[.slice a' (c.data.length + p.length) c', .int .i64 (c.lasts : Int)] 105 (0, 0)) :=
  set_at (w := w'.drewN n2) HL.out 0 _
 have hne : ∀ k, (Value.slice a' (c.data.length + p.length) c').ownBlock = some k → ¬ One c.blk k := fun k hk e => by
  obtain ⟨cur, hcur⟩ := HO.out.type k hk
  exact ne_of_type hcur HL.out (by decide) e
 have hown : Own (((w'.drewN n2).setCell ⟨c.blk, 0, none⟩ (.slice a' (c.data.length + p.length) c')).drewN nq) 5 1 (.slice a' (c.data.length + p.length) c') (c.data ++ p).length (u8s (c.data ++ p)) := by
  rw [u8s_append, List.length_append]
  exact HO.out.keep hks hne
 have htot := totF_gset (l := absL L) (k := name) (x := c.abs) (y := ⟨c.data ++ p, c.lasts⟩) (by rw [keys_absL]; exact HD.out.keys) (by rw [gget_abs, HC.out]; rfl)
 obtain ⟨h1, h2, h3⟩ := hDB.setFile (c' := { c with v := .slice a' (c.data.length + p.length) c', data := c.data ++ p }) HC.out rfl hkf
  ⟨hcf, hown, by have := hfw.2.2; simp only [List.length_append]; omega⟩ HB.out (by
   rw [gset_abs]
   simp only [FileR.abs, List.length_append] at htot ⊢
   omega)
 exact ⟨rfl, _, h1, fun k hk => (h2 k hk).imp id fun h => Nat.le_trans KB.size h, (Kp.of_no KB).trans_same h3⟩
end Go.Proofs.YtdibkdgafidjgaaGreatDoor
namespace Go.Proofs.YtdibkdgafidjgaaGreatDoor
open Go.RowKit Go.Mer
set_option maxHeartbeats 800000 in
theorem write_new (w : World) (d m room : Nat) (fused : Bool) (left : Int) (L : FilesR) (hD : DiskC w d m room fused left L) (name : ByteArray)
  (na : Option Addr) (nc : Nat) (hns : Rd w w.heap.size na [Value.string name]) (N : Int) (pa : Option Addr) (pc : Nat) (p : List UInt8) (hfull : totF (absL L) + p.length ≤ room)
  (hp : Rd w w.heap.size pa (u8s p)) (hc : gget L name = none) (hfew : L.length < 4096) :
  Calls Tryz.prog 73 #[.pointer (some ⟨d, 0, none⟩), .agg #[.slice na 1 nc, .int .i64 N, .slice pa p.length pc]] w fun e w' =>
   e = .returned (.int .i64 0) ∧ ∃ c, c.abs = ⟨p, 0⟩ ∧ DiskC w' d m room fused left (gset L name c) ∧ Foot (FP d m L) (FP d m (gset L name c)) w ∧ Kp (FP d m L) w w' := by
 obtain ⟨i0, hi, hz0, hz1, hz2⟩ := info_parts infoByte
 obtain ⟨g, off, rfl, hg, _, hcn⟩ := hns.at_ (i := 0) rfl
 simp only [Nat.add_zero] at hcn
 have FA := facts hD (nc := nc) (N := N) (pv := (.slice pa p.length pc)) hcn
 have f1 := FA.d0
 have f2 := FA.d1
 have f3 := FA.b0
 have f4 := FA.b1
 have f5 := FA.b2
 have f6 := FA.nm
 have f7 := FA.look
 have f8 := FA.many
 have f9 := FA.dr
 have hdl := get_lt hD.cell
 have H1 : Kp No w (w.alloc (.cells #[.slice (some ⟨g, off, none⟩) 1 nc, .int .i64 N, (.slice pa p.length pc)] 125)) := (Kp.refl _ _).alloc _
 have HD := Lib.hid hD
 clear FA hns hcn
 have hU := fun W (h : Kp No w W) => used_any W d m room fused left L (hD.keep_no h)
 have hfit := hD.fits
 have hroom := hD.roomy
 have hmany : (L.length : Int) ≤ 4096 := by have := hD.few; omega
 have hgd : decide ((room : Int) - (totF (absL L) : Int) < (p.length : Int)) = false := by simp; omega
 have hge : decide ((4096 : Int) ≤ (L.length : Int)) = false := by simp; omega
 rw [hc] at f7
 simp only [Option.map_none, Option.getD_none] at f7
 have HC := Lib.hid hc
 have HP := Lib.hid hp
 have HI := Lib.hid (And.intro hi (And.intro hz0 (And.intro hz1 hz2)))
 clear hc hp hi hz0 hz1 hz2
 go_enter Tryz.func73, Tryz.ntmps73
 go_wp2_with fail
 obtain ⟨W1, hW1⟩ : ∃ W, W = w.alloc (.cells #[.slice (some ⟨g, off, none⟩) 1 nc, .int .i64 N, .slice pa p.length pc] 125) := ⟨_, rfl⟩
 rw [← hW1] at f1 f2 f3 f4 f5 f6 f7 f8 f9 H1 ⊢
 have HU := Lib.hid hU
 clear hW1 hU hD
 refine wp_region_ord [0,0,0,1,0,1,0,1,1,0] [0,1,2,4,3,5,6,7,8,9] (by kernel_rfl) (by kernel_rfl) ?_
 repeat (first
  | (apply wpOrd_skip rfl (by decide) rfl; (focus (go_simp; rfl)))
  | (apply wpOrd_pure rfl rfl rfl; (focus (intro _ _; go_simp; (try go_ints); rfl)); (focus (go_simp; rfl)))
  | (apply wpOrd_read rfl rfl rfl; (focus (intro _; go_simp; (try go_ints); rfl)); (focus (go_simp; rfl))))
 refine wpOrd_nil (fun nq => ?_)
 go_wp2_with fail
 have f0 : ∀ W, Kp No (W1.drewN nq) W → Kp No W1 W := fun W h => h.of_drewN
 refine wp_region_held' (Kp No _) [0,0,0,0,0,0,0,0,2,0,0,0,0,0,0,0,0,0,0,0,0,0,0] [0,1,2,3,4,5,6,7,8,9,10,11,12,13,14,15,16,17,18,19,20,21,22] (by kernel_rfl) (by kernel_rfl) (fun _ n h => h.drewN n) (Kp.refl _ _) ?_
 repeat (first
  | (apply wpOrd_skip rfl (by decide) rfl; (focus (go_simp; rfl)))
  | (apply wpOrd_pure rfl rfl rfl; (focus (intro _ _; go_simp; (try go_ints); rfl)); (focus (go_simp; rfl)))
  | (apply wpOrd_read rfl rfl rfl; (focus (intro _; go_simp; (try go_ints); rfl)); (focus (go_simp; rfl))))
 refine wpOrd_eff rfl rfl (fun nu => ?_)
 go_wp2_with fail
 refine (HU.out _ (H1.drewN _)).mono ?_
 rintro e W3 ⟨rfl, hk3⟩
 go_wp2_with fail
 refine ⟨hk3.of_drewN.from_drewN _, ?_⟩
 have K3 : Kp No W1 W3 := hk3.of_drewN
 repeat (first
  | (apply wpOrd_skip rfl (by decide) rfl; (focus (go_simp; rfl)))
  | (apply wpOrd_pure rfl rfl rfl; (focus (intro _ _; go_simp; (try go_ints); rfl)); (focus (go_simp; rfl)))
  | (apply wpOrd_read rfl rfl rfl; (focus (intro _; go_simp; (try go_ints); rfl)); (focus (go_simp; rfl))))
 refine wpOrd_nil (fun nq => ?_)
 clear hk3
 go_wp2_with fail
 have hB0 : (W3.drewN nq).heap.size = W3.heap.size := rfl
 have hBs : w.heap.size ≤ W3.heap.size := Nat.le_trans H1.size K3.size
 have KQ : Kp No w (W3.drewN nq) := (H1.trans_same K3).drewN nq
 have K1 : Kp No W1 ((W3.drewN nq).alloc (.cells #[.slice none 0 0, .int .i64 0] 105)) := (K3.drewN nq).alloc _
 have hBg : ((W3.drewN nq).alloc (.cells #[.slice none 0 0, .int .i64 0] 105)).heap[W3.heap.size]? = some (.cells #[.slice none 0 0, .int .i64 0] 105 (0, 0)) := heap_alloc_new (W3.drewN nq) _
 have KA : Kp No (W3.drewN nq) ((W3.drewN nq).alloc (.cells #[.slice none 0 0, .int .i64 0] 105)) := (Kp.refl _ _).alloc _
 obtain ⟨WA, hWA⟩ : ∃ W, W = (W3.drewN nq).alloc (.cells #[.slice none 0 0, .int .i64 0] 105) := ⟨_, rfl⟩
 obtain ⟨WQ, hWQ⟩ : ∃ W, W = W3.drewN nq := ⟨_, rfl⟩
 obtain ⟨B, hB⟩ : ∃ B, B = W3.heap.size := ⟨_, rfl⟩
 rw [← hWQ, ← hB] at hB0
 rw [← hB] at hBs hBg ⊢
 rw [← hWA] at K1 KA hBg ⊢
 rw [← hWQ] at KQ KA
 clear hWA hWQ hB f0
 have KW : Kp No w WA := KQ.trans_same KA
 have KD : ∀ n, Kp No W1 (WA.drewN n) := fun n => K1.drewN n
 refine wp_region_ord [0,0,0,1,0,1,0,1,0,2] [0,1,2,4,8,3,5,6,7,9] (by kernel_rfl) (by kernel_rfl) ?_
 repeat (first
  | (apply wpOrd_skip rfl (by decide) rfl; (focus (go_simp; rfl)))
  | (apply wpOrd_pure rfl rfl rfl; (focus (intro _ _; go_simp; (try go_ints); rfl)); (focus (go_simp; rfl)))
  | (apply wpOrd_read rfl rfl rfl; (focus (intro _; go_simp; (try go_ints); rfl)); (focus (go_simp; rfl))))
 refine wpOrd_eff rfl rfl (fun ng => ?_)
 have hDA := HD.out.keep_no (KW.drewN ng)
 obtain ⟨o, hupd, hG⟩ := run_update_g (P := Tryz.prog) (w := WA.drewN ng) Tryz.underlying78 kindStr strKey strInj hDA.map name (.pointer (some ⟨B, 0, none⟩))
 have hml := hDA.map.lt
 obtain ⟨es, ck, hmm, _⟩ := hDA.map
 have hmw := HD.out.map.lt
 have HG := Lib.hid hG
 clear hG hDA
 go_wp2_with fail
 refine wpOrd_nil (fun nq => ?_)
 go_wp2_with fail
 have hBm : B ≠ m := ne_of_map hBg (by exact hmm)
 have kC : Kp (One m) WA ((ChangeMaps.setBlock (WA.drewN ng) m o).drewN nq) := (((Kp.refl (One m) WA).drewN ng).setBlock (.inl rfl) o).drewN nq
 have hmC : ((ChangeMaps.setBlock (WA.drewN ng) m o).drewN nq).heap[m]? = some o := setBlock_at (w := WA.drewN ng) hml o
 have fb0 := f5 WA K1
 have hbl := World.block_lt_of_cell? WA _ fb0
 have hpC := (HP.out.keep KW fun _ _ x => x).keep_map kC (fun k off hk => by rw [show k = m from hk]; exact cell_map (by exact hmm) off)
 obtain ⟨WC, hWC⟩ : ∃ W, W = (ChangeMaps.setBlock (WA.drewN ng) m o).drewN nq := ⟨_, rfl⟩
 rw [← hWC] at kC hmC hpC ⊢
 clear hWC hupd
 have fb : ∀ n, (WC.drewN n).cell? ⟨w.heap.size, 2, none⟩ = some (.slice pa p.length pc) := fun n =>
  ((kC.drewN n).cell (p := ⟨w.heap.size, 2, none⟩) hbl (by show ¬ (w.heap.size = m); omega)).trans fb0
 have hgB := kC.get hBg (fun h => hBm h)
 have fB : ∀ n, (WC.drewN n).cell? ⟨B, 0, none⟩ = some (.slice none 0 0) := fun n => by rw [cell_at (w := WC.drewN n) hgB]; rfl
 clear f1 f2 f3 f4 f5 f6 f7 f8 f9 HU fb0 hmm K3
 refine wp_region_ord [0,0,0,0,1,0,1,2,0,0,2] [0,1,2,3,5,4,6,7,8,9,10] (by kernel_rfl) (by kernel_rfl) ?_
 repeat (first
  | (apply wpOrd_skip rfl (by decide) rfl; (focus (go_simp; rfl)))
  | (apply wpOrd_pure rfl rfl rfl; (focus (intro _ _; go_simp; (try go_ints); rfl)); (focus (go_simp; rfl)))
  | (apply wpOrd_read rfl rfl rfl; (focus (intro _; go_simp; (try go_ints); rfl)); (focus (go_simp; rfl))))
 refine wpOrd_eff rfl rfl (fun na => ?_)
 obtain ⟨hi, hz0, hz1, hz2⟩ := HI.out
 obtain ⟨v', w', hrun, hown, hkp, hblk⟩ := run_append_Own (P := Tryz.prog) (w := WC.drewN na) 23 23 23 5 i0 (.int .u8 0) 1 1 Tryz.underlying23 ⟨_, Tryz.underlying23⟩ hi hz0 hz1 hz2 rfl
  (.slice none 0 0) 0 [] (Own.nil _ _ _) (.slice pa p.length pc) p.length (u8s p) ⟨by simp [u8s_length], pa, pc, rfl, (hpC.drewN na).mono (Nat.le_trans KW.size kC.size) (Nat.le_refl _)⟩ (u8s_one p)
  (by simp only [maxLen]; omega) (by omega)
 have hkn : Kp No WC w' := (hkp.of_drewN).mono fun k _ h => by cases h
 have hcell := hkn.get hgB fun x => x
 refine wpList_append_run rfl rfl rfl rfl hrun (wpList_nil ⟨rfl, trivial, ?_⟩)
 obtain ⟨a', c', hv'⟩ : ∃ a' c', v' = .slice a' (0 + p.length) c' := by obtain ⟨_, a', c', h, _⟩ := hown; exact ⟨a', c', h⟩
 subst hv'
 have cs : ∀ n, (w'.drewN n).cell? ⟨B, 0, none⟩ = some (.slice none 0 0) := fun n => by
  rw [cell_at (w := w'.drewN n) hcell]; rfl
 have fs : ∀ n, (w'.drewN n).frozen? ⟨B, 0, none⟩ = false := fun n => free_at (w := w'.drewN n) hcell 0
 have HO := Lib.hid hown
 have HB := Lib.hid hblk
 have HL := Lib.hid hcell
 clear hown hkp hblk hcell hrun hi hz0 hz1 hz2 HI hgB fB fb hpC hBg
 repeat (first
  | (apply wpOrd_skip rfl (by decide) rfl; (focus (go_simp; rfl)))
  | (apply wpOrd_pure rfl rfl rfl; (focus (intro _ _; go_simp; (try go_ints); rfl)); (focus (go_simp; rfl)))
  | (apply wpOrd_read rfl rfl rfl; (focus (intro _; go_simp; (try go_ints); rfl)); (focus (go_simp; rfl))))
 refine wpOrd_eff rfl rfl (fun n2 => ?_)
 go_wp2_with fail
 refine wpOrd_nil (fun nq => ?_)
 go_wp2_with fail
 go_ret
 have hks : Kp (One B) w' (((w'.drewN n2).setCell ⟨B, 0, none⟩ (.slice a' (0 + p.length) c')).drewN nq) :=
  (((Kp.refl (One B) w').drewN n2).setCell (p := ⟨B, 0, none⟩) (.inl rfl) _).drewN nq
 have hkf : Kp (One m) WQ (((w'.drewN n2).setCell ⟨B, 0, none⟩ (.slice a' (0 + p.length) c')).drewN nq) := by
  have h1 : Kp (One m) WQ w' := ((Kp.of_no KA).trans_same kC).trans_no hkn
  exact h1.trans hks fun k hk hB => by rw [show k = B from hB] at hk; omega
 have hcf : (((w'.drewN n2).setCell ⟨B, 0, none⟩ (.slice a' (0 + p.length) c')).drewN nq).heap[B]? = some (.cells #[.slice a' (0 + p.length) c', .int .i64 0] 105 (0, 0)) :=
  set_at (w := w'.drewN n2) HL.out 0 _
 have hne : ∀ k, (Value.slice a' (0 + p.length) c').ownBlock = some k → ¬ One B k := fun k hk e => by
  obtain ⟨cur, hcur⟩ := HO.out.type k hk
  exact ne_of_type hcur HL.out (by decide) e
 have hown := HO.out.keep hks hne
 rw [Nat.zero_add, List.nil_append] at hown
 have htot := totF_gset_new (l := absL L) (k := name) (y := ⟨p, 0⟩) (by rw [gget_abs, HC.out]; rfl)
 simp only [Nat.zero_add] at hks hkf hcf hne hown ⊢
 obtain ⟨h1, h2, h3⟩ := (HD.out.keep_no KQ).addFile (c' := ⟨B, .slice a' p.length c', p, 0⟩) HC.out hkf (HG.out _ (hks.get (hkn.get hmC fun x => x) fun h => hBm (Eq.symm h)))
  ⟨hcf, hown, Nat.zero_le _⟩ (by show WQ.heap.size ≤ B; omega) (fun k hk => by
   have hk' : (Value.slice a' p.length c').ownBlock = some k := hk
   have HB' := HB.out
   simp only [Nat.zero_add] at HB'
   rcases HB' with h | ⟨g', h, h'⟩
   ·rw [h] at hk'; simp [Value.ownBlock] at hk'
   ·rw [h] at hk'
    injection hk' with hk'
    have hs1 := KA.size
    have hs2 := kC.size
    simp at h'
    omega) (by
   rw [gset_abs]
   simp only [FileR.abs] at htot ⊢
   omega) hfew
 exact ⟨rfl, _, rfl, h1, fun k hk => (h2 k hk).imp id fun h => Nat.le_trans KQ.size h, (Kp.of_no KQ).trans_same h3⟩
end Go.Proofs.YtdibkdgafidjgaaGreatDoor

