/-
  Texts laid together: RLogM, RD1, RD2, RD5.
-/
import Derived.Test.YtgnkmjeoaoongaaGreatDoorSb2
import Derived.Test.YtgnkmjeoaoongaaGreatDoorSa4
import Derived.Test.YtgnkmjeoaoongaaGreatDoorSa7
import Derived.WalkKit
import Derived.WalkSpells
import Derived.WalkLawsBesides
import Derived.Outline
namespace Go.Proofs.YtgnkmjeoaoongaaGreatDoor
open Go.RowKit Go.Mer
def numC (n : Nat) : List Value := [.int .i64 (n : Int)]
theorem numC_len (n : Nat) : (numC n).length = 1 := rfl
structure RLogC (w : World) (l d : Nat) (P : ByteArray) (sv ev : Value) (S : List Nat) (E : List Row) (synced : Nat) (dead : Bool) : Prop where
 cell : w.heap[l]? = some (.cells #[.pointer (some ⟨d, 0, none⟩), .string P, ev, sv, .int .i64 (synced : Int), .bool dead] 190 (0, 0))
 segs : Own w 3 1 sv S.length (S.flatMap numC)
 ents : Own w 42 1 ev E.length (E.flatMap rowC)
 each : ∀ r ∈ E, EntOk w r
def RLFP (l : Nat) (sv ev : Value) (E : List Row) : Nat → Prop := fun k => k = l ∨ sv.ownBlock = some k ∨ ev.ownBlock = some k ∨ ∃ r ∈ E, r.val.ownBlock = some k
def RLogAt (w : World) (l d : Nat) (P : ByteArray) (st : LSt) (G : Nat → Prop) : Prop :=
 ∃ sv ev E, RLogC w l d P sv ev (st.segs.map (·.1)) E (st.synced + 1) st.dead ∧ st.ents = E.map Row.data ∧ (∀ k, RLFP l sv ev E k → G k) ∧ ∀ k, G k → k < w.heap.size
section
variable {w w' W W' : World} {l d : Nat} {P : ByteArray} {sv ev sv' ev' : Value} {S S' : List Nat} {E E' : List Row} {synced synced' : Nat} {dead dead' : Bool} {G : Nat → Prop} {r : Row}
theorem RLogC.keep {T : Nat → Prop} (h : RLogC w l d P sv ev S E synced dead) (hk : Kp T w w') (hT : ∀ k, RLFP l sv ev E k → ¬ T k) : RLogC w' l d P sv ev S E synced dead :=
 ⟨hk.get h.cell (hT l (.inl rfl)), h.segs.keep hk fun g hg => hT g (.inr (.inl hg)), h.ents.keep hk fun g hg => hT g (.inr (.inr (.inl hg))), fun r hr => (h.each r hr).keep hk fun g hg => hT g (.inr (.inr (.inr ⟨r, hr, hg⟩)))⟩
theorem RLogC.keep_no (h : RLogC w l d P sv ev S E synced dead) (hk : Kp No w w') : RLogC w' l d P sv ev S E synced dead := h.keep hk fun _ _ x => x
theorem RLogC.lt (h : RLogC w l d P sv ev S E synced dead) : ∀ k, RLFP l sv ev E k → k < w.heap.size := by
 rintro k (rfl | hk | hk | ⟨r, hr, hk⟩)
 ·exact get_lt h.cell
 ·exact h.segs.lt k hk
 ·exact h.ents.lt k hk
 ·exact (h.each r hr).1.lt k hk
theorem RLogAt.keep {T : Nat → Prop} {st : LSt} (h : RLogAt w l d P st G) (hk : Kp T w w') (hT : ∀ k, G k → ¬ T k) : RLogAt w' l d P st G := by
 obtain ⟨sv, ev, E, h1, h2, h3, h4⟩ := h
 exact ⟨sv, ev, E, h1.keep hk (fun k hf => hT k (h3 k hf)), h2, h3, fun k hf => hk.lt (h4 k hf)⟩
theorem RLogAt.keep_no {st : LSt} (h : RLogAt w l d P st G) (hk : Kp No w w') : RLogAt w' l d P st G := h.keep hk fun _ _ x => x
theorem RLogC.seg_ne (h : RLogC w l d P sv ev S E synced dead) {g : Nat} (hg : sv.ownBlock = some g) : g ≠ l ∧ ev.ownBlock ≠ some g ∧ ∀ r ∈ E, r.val.ownBlock ≠ some g := by
 obtain ⟨cur, hc⟩ := h.segs.type g hg
 refine ⟨ne_of_type hc h.cell (by decide), fun e => ?_, fun r hr e => ?_⟩
 ·obtain ⟨cur', hc'⟩ := h.ents.type g e
  exact ne_of_type hc hc' (by decide) rfl
 ·obtain ⟨cur', hc'⟩ := (h.each r hr).1.type g e
  exact ne_of_type hc hc' (by decide) rfl
theorem RLogC.ent_ne (h : RLogC w l d P sv ev S E synced dead) {g : Nat} (hg : ev.ownBlock = some g) : g ≠ l ∧ sv.ownBlock ≠ some g ∧ ∀ r ∈ E, r.val.ownBlock ≠ some g := by
 obtain ⟨cur, hc⟩ := h.ents.type g hg
 refine ⟨ne_of_type hc h.cell (by decide), fun e => ?_, fun r hr e => ?_⟩
 ·obtain ⟨cur', hc'⟩ := h.segs.type g e
  exact ne_of_type hc hc' (by decide) rfl
 ·obtain ⟨cur', hc'⟩ := (h.each r hr).1.type g e
  exact ne_of_type hc hc' (by decide) rfl
theorem RLogC.row_ne (h : RLogC w l d P sv ev S E synced dead) (hr : r ∈ E) {g : Nat} (hg : r.val.ownBlock = some g) : g ≠ l := by
 obtain ⟨cur, hc⟩ := (h.each r hr).1.type g hg
 exact ne_of_type hc h.cell (by decide)
theorem RLogC.turn (h : RLogC w l d P sv ev S E synced dead) (hk : Kp (One l) w w') (hc : w'.heap[l]? = some (.cells #[.pointer (some ⟨d, 0, none⟩), .string P, ev, sv, .int .i64 (synced' : Int), .bool dead'] 190 (0, 0))) : RLogC w' l d P sv ev S E synced' dead' :=
 ⟨hc, h.segs.keep hk fun g hg (e : g = l) => (h.seg_ne hg).1 e, h.ents.keep hk fun g hg (e : g = l) => (h.ent_ne hg).1 e, fun r hr => (h.each r hr).keep hk fun g hg (e : g = l) => h.row_ne hr hg e⟩
structure XLRun (w W : World) (l d : Nat) (P : ByteArray) (sv ev : Value) (S : List Nat) (E : List Row) (synced : Nat) (dead : Bool) (G : Nat → Prop) : Prop where
 c : RLogC W l d P sv ev S E synced dead
 foot : ∀ k, RLFP l sv ev E k → G k ∨ w.heap.size ≤ k
 kp : Kp G w W
theorem XLRun.start {st : LSt} (h : RLogAt w l d P st G) : ∃ sv ev E, XLRun w w l d P sv ev (st.segs.map (·.1)) E (st.synced + 1) st.dead G ∧ st.ents = E.map Row.data ∧ ∀ k, G k → k < w.heap.size := by
 obtain ⟨sv, ev, E, h1, h2, h3, h4⟩ := h
 exact ⟨sv, ev, E, ⟨h1, fun k hk => .inl (h3 k hk), Kp.refl _ _⟩, h2, h4⟩
theorem XLRun.stop {S : List (Nat × Nat)} {k : Nat} (h : XLRun w W l d P sv ev (S.map (·.1)) E k dead G) (hk : k = synced + 1) : ∃ G', RLogAt W l d P ⟨E.map Row.data, S, synced, dead⟩ G' ∧ Foot G G' w ∧ Kp G w W :=
 ⟨RLFP l sv ev E, ⟨sv, ev, E, by subst hk; exact h.c, rfl, fun _ x => x, h.c.lt⟩, h.foot, h.kp⟩
theorem XLRun.step {T : Nat → Prop} (h : XLRun w W l d P sv ev S E synced dead G) (hk : Kp T W W') (hT : ∀ k, T k → RLFP l sv ev E k ∨ W.heap.size ≤ k) (hc : RLogC W' l d P sv' ev' S' E' synced' dead') (hf : ∀ k, RLFP l sv' ev' E' k → RLFP l sv ev E k ∨ W.heap.size ≤ k) :
  XLRun w W' l d P sv' ev' S' E' synced' dead' G := by
 have hsz := h.kp.size
 refine ⟨hc, fun k hk' => ?_, h.kp.trans hk fun i hi hs => ?_⟩
 ·rcases hf k hk' with h1 | h1
  ·exact h.foot k h1
  ·exact .inr (Nat.le_trans hsz h1)
 ·rcases hT i hs with h1 | h1
  ·rcases h.foot i h1 with h2 | h2
   ·exact h2
   ·omega
  ·omega
theorem XLRun.no (h : XLRun w W l d P sv ev S E synced dead G) (hk : Kp No W W') : XLRun w W' l d P sv ev S E synced dead G := h.step hk (fun _ x => x.elim) (h.c.keep_no hk) fun _ x => .inl x
theorem XLRun.ent (h : XLRun w W l d P sv ev S E synced dead G) (hr : EntOk W r) (hrf : ∀ g, r.val.ownBlock = some g → G g ∨ w.heap.size ≤ g) (hk : Kp (fun k => ev.ownBlock = some k) W W') (ho : Own W' 42 1 ev' (E ++ [r]).length ((E ++ [r]).flatMap rowC)) (hf : ev'.ownBlock = ev.ownBlock ∨ ∃ g, ev'.ownBlock = some g ∧ W.heap.size ≤ g) :
  XLRun w (W'.setCell ⟨l, 2, none⟩ ev') l d P sv ev' S (E ++ [r]) synced dead G := by
 have hc := h.c
 have hcell := hk.get hc.cell fun e => (hc.ent_ne e).1 rfl
 have hs : Kp (One l) W' (W'.setCell ⟨l, 2, none⟩ ev') := (Kp.refl (One l) _).setCell (p := ⟨l, 2, none⟩) (.inl rfl) _
 have hll := get_lt hc.cell
 have hrn : ∀ g, r.val.ownBlock = some g → g ≠ l ∧ ev.ownBlock ≠ some g := fun g hg => by
  obtain ⟨cur, hcu⟩ := hr.1.type g hg
  refine ⟨ne_of_type hcu hc.cell (by decide), fun e => ?_⟩
  obtain ⟨cur', hc'⟩ := hc.ents.type g e
  exact ne_of_type hcu hc' (by decide) rfl
 have hall : Kp (fun k => k = l ∨ ev.ownBlock = some k) W (W'.setCell ⟨l, 2, none⟩ ev') := (hk.mono fun _ _ x => .inr x).trans hs fun i _ (e : i = l) => .inl e
 have hsz := h.kp.size
 have hE : ∀ q ∈ E ++ [r], EntOk (W'.setCell ⟨l, 2, none⟩ ev') q := fun q hq => by
  rcases List.mem_append.1 hq with hq | hq
  ·refine (hc.each q hq).keep hall fun g hg hT => ?_
   rcases hT with hT | hT
   ·exact hc.row_ne hq hg hT
   ·exact (hc.ent_ne hT).2.2 q hq hg
  ·rw [List.mem_singleton] at hq
   subst hq
   exact hr.keep hall fun g hg hT => hT.elim (hrn g hg).1 (hrn g hg).2
 have hfo : ∀ k, RLFP l sv ev' (E ++ [r]) k → G k ∨ w.heap.size ≤ k := by
  rintro k (rfl | hk' | hk' | ⟨q, hq, hk'⟩)
  ·exact h.foot _ (.inl rfl)
  ·exact h.foot _ (.inr (.inl hk'))
  ·rcases hf with e | ⟨g, e, hg⟩
   ·exact h.foot _ (.inr (.inr (.inl (e ▸ hk'))))
   ·rw [e] at hk'
    injection hk' with hk'
    right; omega
  ·rcases List.mem_append.1 hq with hq | hq
   ·exact h.foot _ (.inr (.inr (.inr ⟨q, hq, hk'⟩)))
   ·rw [List.mem_singleton] at hq
    subst hq
    exact hrf k hk'
 refine ⟨⟨by have := set_at hcell 2 ev'; simpa using this, hc.segs.keep hall fun g hg hT => hT.elim (hc.seg_ne hg).1 (hc.seg_ne hg).2.1, ?_, hE⟩, hfo, h.kp.trans hall fun i hi hT => ?_⟩
 ·refine ho.keep hs fun g hg (e : g = l) => ?_
  rcases hf with e' | ⟨g', e', hg'⟩
  ·exact (hc.ent_ne (e' ▸ hg)).1 e
  ·rw [e'] at hg
   injection hg with hg
   omega
 ·rcases hT with rfl | hT
  ·rcases h.foot _ (.inl rfl) with h1 | h1
   ·exact h1
   ·omega
  ·rcases h.foot _ (.inr (.inr (.inl hT))) with h1 | h1
   ·exact h1
   ·omega
theorem XLRun.seg (h : XLRun w W l d P sv ev S E synced dead G) (hk : Kp (fun k => sv.ownBlock = some k) W W') (ho : Own W' 3 1 sv' S'.length (S'.flatMap numC)) (hf : sv'.ownBlock = sv.ownBlock ∨ ∃ g, sv'.ownBlock = some g ∧ W.heap.size ≤ g) :
  XLRun w (W'.setCell ⟨l, 3, none⟩ sv') l d P sv' ev S' E synced dead G := by
 have hc := h.c
 have hcell := hk.get hc.cell fun e => (hc.seg_ne e).1 rfl
 have hs : Kp (One l) W' (W'.setCell ⟨l, 3, none⟩ sv') := (Kp.refl (One l) _).setCell (p := ⟨l, 3, none⟩) (.inl rfl) _
 have hll := get_lt hc.cell
 have hall : Kp (fun k => k = l ∨ sv.ownBlock = some k) W (W'.setCell ⟨l, 3, none⟩ sv') := (hk.mono fun _ _ x => .inr x).trans hs fun i _ (e : i = l) => .inl e
 refine h.step hall (fun k hT => hT.elim (fun e => .inl (.inl e)) fun e => .inl (.inr (.inl e))) ⟨by have := set_at hcell 3 sv'; simpa using this, ?_, hc.ents.keep hall fun g hg hT => hT.elim (hc.ent_ne hg).1 (hc.ent_ne hg).2.1, fun q hq => (hc.each q hq).keep hall fun g hg hT => hT.elim (hc.row_ne hq hg) fun e => (hc.seg_ne e).2.2 q hq hg⟩ ?_
 ·refine ho.keep hs fun g hg (e : g = l) => ?_
  rcases hf with e' | ⟨g', e', hg'⟩
  ·exact (hc.seg_ne (e' ▸ hg)).1 e
  ·rw [e'] at hg
   injection hg with hg
   omega
 ·rintro k (rfl | hk' | hk' | hk')
  ·exact .inl (.inl rfl)
  ·rcases hf with e | ⟨g, e, hg⟩
   ·exact .inl (.inr (.inl (e ▸ hk')))
   ·rw [e] at hk'
    injection hk' with hk'
    right; omega
  ·exact .inl (.inr (.inr (.inl hk')))
  ·exact .inl (.inr (.inr (.inr hk')))
theorem XLRun.flag (h : XLRun w W l d P sv ev S E synced dead G) (hk : Kp (One l) W W') (hc : W'.heap[l]? = some (.cells #[.pointer (some ⟨d, 0, none⟩), .string P, ev, sv, .int .i64 (synced' : Int), .bool dead'] 190 (0, 0))) : XLRun w W' l d P sv ev S E synced' dead' G :=
 h.step hk (fun k (e : k = l) => .inl (.inl e)) (h.c.turn hk hc) fun _ x => .inl x
end
end Go.Proofs.YtgnkmjeoaoongaaGreatDoor
namespace Go.Proofs.YtgnkmjeoaoongaaGreatDoor
open Go.RowKit Go.Mer
end Go.Proofs.YtgnkmjeoaoongaaGreatDoor
namespace Go.Proofs.YtgnkmjeoaoongaaGreatDoor
open Go.RowKit Go.Mer
end Go.Proofs.YtgnkmjeoaoongaaGreatDoor
namespace Go.Proofs.YtgnkmjeoaoongaaGreatDoor
open Go.RowKit Go.Mer
set_option maxRecDepth 100000 in
set_option maxHeartbeats 1000000 in
theorem rspot_any (w : World) (r room : Nat) (left : Int) (rv : Value) (L : List RFile) (h : RC w r room left rv L) (k : ByteArray) :
  Calls Tryz.prog 219 #[.pointer (some ⟨r, 0, none⟩), .string k] w fun e w' => ∃ (i : Nat) (b : Bool), e = .returned (.tuple #[.int .i64 (i : Int), .bool b]) ∧ Spot L k i b ∧ Kp No w w' := by
 obtain ⟨ra, rcap, rfl, hrc, hrd⟩ := h.row.rd
 have HC1 := Lib.hid (show ∀ W, Kp No w W → W.cell? ⟨r, 1, none⟩ = some (.slice ra L.length rcap) ∧ r < W.heap.size from fun W hW => ⟨by rw [cell_at (hW.get h.cell fun x => x)]; rfl, get_lt (hW.get h.cell fun x => x)⟩)
 have HRD := Lib.hid hrd
 have HS := Lib.hid h.sorted
 have hfew := h.few
 clear h hrd
 go_enter Tryz.func219, Tryz.ntmps219
 go_wp2_with fail
 rename World => w0
 go_loopw [6] (fun i wr => ∃ j : Nat, j ≤ L.length ∧ i = .int .i64 (j : Int) ∧ Hid (∀ f ∈ L.take j, NLt f.name k) ∧ Hid (Kp No w0 wr)) (fun i _ => L.length - (intOf i).toNat)
 case atStart => exact ⟨0, Nat.zero_le _, rfl, Lib.hid (by simp), Lib.hid (Kp.refl _ _)⟩
 case round =>
  obtain ⟨j, hj, rfl, HL, HKP⟩ := hrel
  obtain ⟨c1, hrl⟩ := HC1.out _ HKP.out
  by_cases hlt : j < L.length
  ·obtain ⟨g, off, rfl, l0⟩ := rd_chunk (f := RFile.cells) (c := 3) RFile.cells_len (by decide) HRD.out hlt
   have d0 := l0 _ HKP.out 0 _ rfl
   rw [Nat.add_zero] at d0
   have hgl : g < wr.heap.size := World.block_lt_of_cell? wr _ d0
   have HT := Lib.hid (List.take_succ_eq_append_getElem hlt)
   rcases nlt_tri L[j].name k with hn | hn | hn
   ·have f1 := less_yes hn
    have HL2 : Hid (∀ f ∈ L.take (j + 1), NLt f.name k) := Lib.hid fun f hf => by
     rw [HT.out, List.mem_append, List.mem_singleton] at hf
     rcases hf with hf | rfl
     ·exact HL.out f hf
     ·exact hn
    clear l0 hn
    go_wp2_with fail
    go_roundw
    case rel => exact ⟨j + 1, by omega, by go_num, HL2, HKP⟩
    case measure => simp [intOf]; omega
   ·have f1 := less_no (by rw [hn]; exact nlt_irr k : ¬ NLt L[j].name k)
    have f2 : (L[j].name.toList == k.toList) = true := by rw [hn]; exact beq_self_eq_true _
    have HSP := Lib.hid (spot_is hlt hn)
    clear l0 hn
    go_wp2_with fail
    refine wp_region_ord [0,0,0,0,0,1,1,0,0,0,0,0,1,0,0,0,1,0,0,0,0,0] [0,1,2,3,4,5,6,7,8,9,10,11,13,17,20,12,14,15,16,18,19,21] (by kernel_rfl) (by kernel_rfl) ?_
    repeat (first
     | (apply wpOrd_skip rfl (by decide) rfl; (focus (go_simp; rfl)))
     | (apply wpOrd_pure rfl rfl rfl; (focus (intro _ _; go_simp; (try go_ints); rfl)); (focus (go_simp; rfl)))
     | (apply wpOrd_read rfl rfl rfl; (focus (intro _; go_simp; (try go_ints); rfl)); (focus (go_simp; rfl))))
    refine wpOrd_nil (fun nq => ?_)
    have HK2 := Lib.hid (HKP.out.drewN nq)
    go_wp2_with fail
    go_ret2
    exact ⟨j, true, rfl, HSP.out, HK2.out⟩
   ·have f1 := less_no (fun h => nlt_irr _ (nlt_trans h hn) : ¬ NLt L[j].name k)
    have f2 : (L[j].name.toList == k.toList) = false := by
     rw [← beq_toListBytes]
     exact beq_false_of_ne (fun e => by rw [e] at hn; exact nlt_irr _ hn)
    have HSP := Lib.hid (spot_no HS.out hj HL.out (fun _ => hn))
    clear l0 hn
    go_wp2_with fail
    refine wp_region_ord [0,0,0,0,0,1,1,0,0,0,0,0,1,0,0,0,1,0,0,0,0,0] [0,1,2,3,4,5,6,7,8,9,10,11,13,17,20,12,14,15,16,18,19,21] (by kernel_rfl) (by kernel_rfl) ?_
    repeat (first
     | (apply wpOrd_skip rfl (by decide) rfl; (focus (go_simp; rfl)))
     | (apply wpOrd_pure rfl rfl rfl; (focus (intro _ _; go_simp; (try go_ints); rfl)); (focus (go_simp; rfl)))
     | (apply wpOrd_read rfl rfl rfl; (focus (intro _; go_simp; (try go_ints); rfl)); (focus (go_simp; rfl))))
    refine wpOrd_nil (fun nq => ?_)
    have HK2 := Lib.hid (HKP.out.drewN nq)
    go_wp2_with fail
    go_ret2
    exact ⟨j, false, rfl, HSP.out, HK2.out⟩
  ·obtain rfl : j = L.length := by omega
   have HSP := Lib.hid (spot_no HS.out hj HL.out (fun h => absurd h hlt))
   clear hlt
   go_wp2_with fail
   refine wp_region_ord [0,0,0,0,0,1,1,0,0,0,0,0,1,0,0,0,1,0,0,0,0,0] [0,1,2,3,4,5,6,7,8,9,10,11,13,17,20,12,14,15,16,18,19,21] (by kernel_rfl) (by kernel_rfl) ?_
   repeat (first
    | (apply wpOrd_skip rfl (by decide) rfl; (focus (go_simp; rfl)))
    | (apply wpOrd_pure rfl rfl rfl; (focus (intro _ _; go_simp; (try go_ints); rfl)); (focus (go_simp; rfl)))
    | (apply wpOrd_read rfl rfl rfl; (focus (intro _; go_simp; (try go_ints); rfl)); (focus (go_simp; rfl))))
   refine wpOrd_nil (fun nq => ?_)
   have HK2 := Lib.hid (HKP.out.drewN nq)
   go_wp2_with fail
   go_ret2
   exact ⟨L.length, false, rfl, HSP.out, HK2.out⟩
end Go.Proofs.YtgnkmjeoaoongaaGreatDoor

