/-
  Texts laid together: WLogM, RDisk, RLogM.
-/
import Derived.Test.YtdibkdgafidjgaaGreatDoorWa4
import Derived.Test.YtdibkdgafidjgaaGreatDoorWa6
import Derived.Test.YtdibkdgafidjgaaGreatDoorWa7
import Derived.Test.YtdibkdgafidjgaaGreatDoorWa1
import Derived.Sort.Walk0
namespace Go.Proofs.YtdibkdgafidjgaaGreatDoor
open Go.RowKit Go.Mer
theorem Pow.keepS {w w' : World} {S : Nat → Prop} (h : Pow w) (hk : Kp S w w') (hS : ¬ S 1) : Pow w' := by
 unfold Pow Lib.TabIs World.var? at h ⊢
 rw [gPow] at h ⊢
 simp only [Option.bind_some] at h ⊢
 cases hg : w.heap[1]? with
 | none => rw [hg] at h; simp at h
 | some o => rw [hk.get hg hS]; rw [hg] at h; exact h
theorem Pow.lt {w : World} (h : Pow w) : 1 < w.heap.size := by
 unfold Pow Lib.TabIs World.var? at h
 rw [gPow] at h
 simp only [Option.bind_some] at h
 cases hg : w.heap[1]? with
 | none => rw [hg] at h; simp at h
 | some o => exact get_lt hg
def segC (P : ByteArray) (z : Nat × Nat) : List Value := [.string (bnm P z.1), .int .i64 (z.2 : Int)]
theorem segC_len (P : ByteArray) (z : Nat × Nat) : (segC P z).length = 2 := rfl
theorem segC_one (P : ByteArray) (z : Nat × Nat) : ∀ u ∈ segC P z, u.oneCell' = true := by
 intro u hu
 simp only [segC, List.mem_cons, List.not_mem_nil, or_false] at hu
 rcases hu with rfl | rfl <;> rfl
def rowC (r : Row) : List Value := [r.val]
theorem rowC_len (r : Row) : (rowC r).length = 1 := rfl
theorem rowC_one (r : Row) : ∀ u ∈ rowC r, u.oneCell' = true := by
 intro u hu
 simp only [rowC, List.mem_cons, List.not_mem_nil, or_false] at hu
 subst hu
 rfl
def EntOk (w : World) (r : Row) : Prop := Own w 5 1 r.val r.data.length (u8s r.data) ∧ r.data.length ≤ r.cap ∧ r.data.length ≤ 1000000000
theorem infoSeg : (Tryz.prog.info? 90).map (fun i => ((i.zero.map fun z => z.cells.size), i.size, i.bytes)) = some (some 2, 2, 24) := by kernel_rfl
theorem infoRowB : (Tryz.prog.info? 23).map (fun i => ((i.zero.map fun z => z.cells.size), i.size, i.bytes)) = some (some 1, 1, 24) := by kernel_rfl
structure LogC (w : World) (l d : Nat) (P : ByteArray) (sv ev : Value) (S : List (Nat × Nat)) (E : List Row) (synced : Nat) (dead : Bool) : Prop where
 cell : w.heap[l]? = some (.cells #[.pointer (some ⟨d, 0, none⟩), .string P, sv, ev, .int .i64 (synced : Int), .bool dead] 86 (0, 0))
 segs : Own w 90 2 sv S.length (S.flatMap (segC P))
 ents : Own w 23 1 ev E.length (E.flatMap rowC)
 each : ∀ r ∈ E, EntOk w r
def LFP (l : Nat) (sv ev : Value) (E : List Row) : Nat → Prop := fun k => k = l ∨ sv.ownBlock = some k ∨ ev.ownBlock = some k ∨ ∃ r ∈ E, r.val.ownBlock = some k
def LogAt (w : World) (l d : Nat) (P : ByteArray) (st : LSt) (G : Nat → Prop) : Prop :=
 ∃ sv ev E, LogC w l d P sv ev st.segs E st.synced st.dead ∧ st.ents = E.map Row.data ∧ (∀ k, LFP l sv ev E k → G k) ∧ ∀ k, G k → k < w.heap.size
section
variable {w w' W W' : World} {l d : Nat} {P : ByteArray} {sv ev sv' ev' : Value} {S S' : List (Nat × Nat)} {E E' : List Row} {synced synced' : Nat} {dead dead' : Bool} {G : Nat → Prop} {r : Row}
theorem EntOk.keep {T : Nat → Prop} (h : EntOk w r) (hk : Kp T w w') (hT : ∀ g, r.val.ownBlock = some g → ¬ T g) : EntOk w' r := ⟨h.1.keep hk hT, h.2⟩
theorem LogC.keep {T : Nat → Prop} (h : LogC w l d P sv ev S E synced dead) (hk : Kp T w w') (hT : ∀ k, LFP l sv ev E k → ¬ T k) : LogC w' l d P sv ev S E synced dead :=
 ⟨hk.get h.cell (hT l (.inl rfl)), h.segs.keep hk fun g hg => hT g (.inr (.inl hg)), h.ents.keep hk fun g hg => hT g (.inr (.inr (.inl hg))), fun r hr => (h.each r hr).keep hk fun g hg => hT g (.inr (.inr (.inr ⟨r, hr, hg⟩)))⟩
theorem LogC.keep_no (h : LogC w l d P sv ev S E synced dead) (hk : Kp No w w') : LogC w' l d P sv ev S E synced dead := h.keep hk fun _ _ x => x
theorem LogC.lt (h : LogC w l d P sv ev S E synced dead) : ∀ k, LFP l sv ev E k → k < w.heap.size := by
 rintro k (rfl | hk | hk | ⟨r, hr, hk⟩)
 ·exact get_lt h.cell
 ·exact h.segs.lt k hk
 ·exact h.ents.lt k hk
 ·exact (h.each r hr).1.lt k hk
theorem LogAt.keep {T : Nat → Prop} {st : LSt} (h : LogAt w l d P st G) (hk : Kp T w w') (hT : ∀ k, G k → ¬ T k) : LogAt w' l d P st G := by
 obtain ⟨sv, ev, E, h1, h2, h3, h4⟩ := h
 exact ⟨sv, ev, E, h1.keep hk (fun k hf => hT k (h3 k hf)), h2, h3, fun k hf => hk.lt (h4 k hf)⟩
theorem LogAt.keep_no {st : LSt} (h : LogAt w l d P st G) (hk : Kp No w w') : LogAt w' l d P st G := h.keep hk fun _ _ x => x
theorem LogC.seg_ne (h : LogC w l d P sv ev S E synced dead) {g : Nat} (hg : sv.ownBlock = some g) : g ≠ l ∧ ev.ownBlock ≠ some g ∧ ∀ r ∈ E, r.val.ownBlock ≠ some g := by
 obtain ⟨cur, hc⟩ := h.segs.type g hg
 refine ⟨ne_of_type hc h.cell (by decide), fun e => ?_, fun r hr e => ?_⟩
 ·obtain ⟨cur', hc'⟩ := h.ents.type g e
  exact ne_of_type hc hc' (by decide) rfl
 ·obtain ⟨cur', hc'⟩ := (h.each r hr).1.type g e
  exact ne_of_type hc hc' (by decide) rfl
theorem LogC.ent_ne (h : LogC w l d P sv ev S E synced dead) {g : Nat} (hg : ev.ownBlock = some g) : g ≠ l ∧ sv.ownBlock ≠ some g ∧ ∀ r ∈ E, r.val.ownBlock ≠ some g := by
 obtain ⟨cur, hc⟩ := h.ents.type g hg
 refine ⟨ne_of_type hc h.cell (by decide), fun e => ?_, fun r hr e => ?_⟩
 ·obtain ⟨cur', hc'⟩ := h.segs.type g e
  exact ne_of_type hc hc' (by decide) rfl
 ·obtain ⟨cur', hc'⟩ := (h.each r hr).1.type g e
  exact ne_of_type hc hc' (by decide) rfl
theorem LogC.row_ne (h : LogC w l d P sv ev S E synced dead) (hr : r ∈ E) {g : Nat} (hg : r.val.ownBlock = some g) : g ≠ l := by
 obtain ⟨cur, hc⟩ := (h.each r hr).1.type g hg
 exact ne_of_type hc h.cell (by decide)
theorem LogC.turn (h : LogC w l d P sv ev S E synced dead) (hk : Kp (One l) w w') (hc : w'.heap[l]? = some (.cells #[.pointer (some ⟨d, 0, none⟩), .string P, sv, ev, .int .i64 (synced' : Int), .bool dead'] 86 (0, 0))) : LogC w' l d P sv ev S E synced' dead' :=
 ⟨hc, h.segs.keep hk fun g hg (e : g = l) => (h.seg_ne hg).1 e, h.ents.keep hk fun g hg (e : g = l) => (h.ent_ne hg).1 e, fun r hr => (h.each r hr).keep hk fun g hg (e : g = l) => h.row_ne hr hg e⟩
structure LRun (w W : World) (l d : Nat) (P : ByteArray) (sv ev : Value) (S : List (Nat × Nat)) (E : List Row) (synced : Nat) (dead : Bool) (G : Nat → Prop) : Prop where
 c : LogC W l d P sv ev S E synced dead
 foot : ∀ k, LFP l sv ev E k → G k ∨ w.heap.size ≤ k
 kp : Kp G w W
theorem LRun.start {st : LSt} (h : LogAt w l d P st G) : ∃ sv ev E, LRun w w l d P sv ev st.segs E st.synced st.dead G ∧ st.ents = E.map Row.data ∧ ∀ k, G k → k < w.heap.size := by
 obtain ⟨sv, ev, E, h1, h2, h3, h4⟩ := h
 exact ⟨sv, ev, E, ⟨h1, fun k hk => .inl (h3 k hk), Kp.refl _ _⟩, h2, h4⟩
theorem LRun.stop (h : LRun w W l d P sv ev S E synced dead G) : ∃ G', LogAt W l d P ⟨E.map Row.data, S, synced, dead⟩ G' ∧ Foot G G' w ∧ Kp G w W :=
 ⟨LFP l sv ev E, ⟨sv, ev, E, h.c, rfl, fun _ x => x, h.c.lt⟩, h.foot, h.kp⟩
theorem LRun.step {T : Nat → Prop} (h : LRun w W l d P sv ev S E synced dead G) (hk : Kp T W W') (hT : ∀ k, T k → LFP l sv ev E k ∨ W.heap.size ≤ k) (hc : LogC W' l d P sv' ev' S' E' synced' dead') (hf : ∀ k, LFP l sv' ev' E' k → LFP l sv ev E k ∨ W.heap.size ≤ k) :
  LRun w W' l d P sv' ev' S' E' synced' dead' G := by
 have hsz := h.kp.size
 refine ⟨hc, fun k hk' => ?_, h.kp.trans hk fun i hi hs => ?_⟩
 ·rcases hf k hk' with h1 | h1
  ·exact h.foot k h1
  ·exact .inr (Nat.le_trans hsz h1)
 ·rcases hT i hs with h1 | h1
  ·rcases h.foot i h1 with h2 | h2
   ·exact h2
   ·omega
  ·omega
theorem LRun.no (h : LRun w W l d P sv ev S E synced dead G) (hk : Kp No W W') : LRun w W' l d P sv ev S E synced dead G := h.step hk (fun _ x => x.elim) (h.c.keep_no hk) fun _ x => .inl x
theorem LRun.ent (h : LRun w W l d P sv ev S E synced dead G) (hr : EntOk W r) (hrf : ∀ g, r.val.ownBlock = some g → G g ∨ w.heap.size ≤ g) (hk : Kp (fun k => ev.ownBlock = some k) W W') (ho : Own W' 23 1 ev' (E ++ [r]).length ((E ++ [r]).flatMap rowC)) (hf : ev'.ownBlock = ev.ownBlock ∨ ∃ g, ev'.ownBlock = some g ∧ W.heap.size ≤ g) :
  LRun w (W'.setCell ⟨l, 3, none⟩ ev') l d P sv ev' S (E ++ [r]) synced dead G := by
 have hc := h.c
 have hcell := hk.get hc.cell fun e => (hc.ent_ne e).1 rfl
 have hs : Kp (One l) W' (W'.setCell ⟨l, 3, none⟩ ev') := (Kp.refl (One l) _).setCell (p := ⟨l, 3, none⟩) (.inl rfl) _
 have hll := get_lt hc.cell
 have hrn : ∀ g, r.val.ownBlock = some g → g ≠ l ∧ ev.ownBlock ≠ some g := fun g hg => by
  obtain ⟨cur, hcu⟩ := hr.1.type g hg
  refine ⟨ne_of_type hcu hc.cell (by decide), fun e => ?_⟩
  obtain ⟨cur', hc'⟩ := hc.ents.type g e
  exact ne_of_type hcu hc' (by decide) rfl
 have hall : Kp (fun k => k = l ∨ ev.ownBlock = some k) W (W'.setCell ⟨l, 3, none⟩ ev') := (hk.mono fun _ _ x => .inr x).trans hs fun i _ (e : i = l) => .inl e
 have hsz := h.kp.size
 have hE : ∀ q ∈ E ++ [r], EntOk (W'.setCell ⟨l, 3, none⟩ ev') q := fun q hq => by
  rcases List.mem_append.1 hq with hq | hq
  ·refine (hc.each q hq).keep hall fun g hg hT => ?_
   rcases hT with hT | hT
   ·exact hc.row_ne hq hg hT
   ·exact (hc.ent_ne hT).2.2 q hq hg
  ·rw [List.mem_singleton] at hq
   subst hq
   exact hr.keep hall fun g hg hT => hT.elim (hrn g hg).1 (hrn g hg).2
 have hfo : ∀ k, LFP l sv ev' (E ++ [r]) k → G k ∨ w.heap.size ≤ k := by
  rintro k (rfl | hk' | hk' | ⟨q, hq, hk'⟩)
  ·exact h.foot _ (.inl rfl)
  ·exact h.foot _ (.inr (.inl hk'))
  ·rcases hf with e | ⟨g, e, hg⟩
   ·exact h.foot _ (.inr (.inr (.inl (e ▸ hk'))))
   ·rw [e] at hk'
    injection hk' with hk'
    right; omega
  ·rcases List.mem_append.1 hq with hq | hq
   ·exact h.foot _ (.inr (.inr (.inr ⟨q, hq, hk'⟩)))
   ·rw [List.mem_singleton] at hq
    subst hq
    exact hrf k hk'
 refine ⟨⟨by have := set_at hcell 3 ev'; simpa using this, hc.segs.keep hall fun g hg hT => hT.elim (hc.seg_ne hg).1 (hc.seg_ne hg).2.1, ?_, hE⟩, hfo, h.kp.trans hall fun i hi hT => ?_⟩
 ·refine ho.keep hs fun g hg (e : g = l) => ?_
  rcases hf with e' | ⟨g', e', hg'⟩
  ·exact (hc.ent_ne (e' ▸ hg)).1 e
  ·rw [e'] at hg
   injection hg with hg
   omega
 ·rcases hT with rfl | hT
  ·rcases h.foot _ (.inl rfl) with h1 | h1
   ·exact h1
   ·omega
  ·rcases h.foot _ (.inr (.inr (.inl hT))) with h1 | h1
   ·exact h1
   ·omega
theorem LRun.seg (h : LRun w W l d P sv ev S E synced dead G) (hk : Kp (fun k => sv.ownBlock = some k) W W') (ho : Own W' 90 2 sv' S'.length (S'.flatMap (segC P))) (hf : sv'.ownBlock = sv.ownBlock ∨ ∃ g, sv'.ownBlock = some g ∧ W.heap.size ≤ g) :
  LRun w (W'.setCell ⟨l, 2, none⟩ sv') l d P sv' ev S' E synced dead G := by
 have hc := h.c
 have hcell := hk.get hc.cell fun e => (hc.seg_ne e).1 rfl
 have hs : Kp (One l) W' (W'.setCell ⟨l, 2, none⟩ sv') := (Kp.refl (One l) _).setCell (p := ⟨l, 2, none⟩) (.inl rfl) _
 have hll := get_lt hc.cell
 have hall : Kp (fun k => k = l ∨ sv.ownBlock = some k) W (W'.setCell ⟨l, 2, none⟩ sv') := (hk.mono fun _ _ x => .inr x).trans hs fun i _ (e : i = l) => .inl e
 refine h.step hall (fun k hT => hT.elim (fun e => .inl (.inl e)) fun e => .inl (.inr (.inl e))) ⟨by have := set_at hcell 2 sv'; simpa using this, ?_, hc.ents.keep hall fun g hg hT => hT.elim (hc.ent_ne hg).1 (hc.ent_ne hg).2.1, fun q hq => (hc.each q hq).keep hall fun g hg hT => hT.elim (hc.row_ne hq hg) fun e => (hc.seg_ne e).2.2 q hq hg⟩ ?_
 ·refine ho.keep hs fun g hg (e : g = l) => ?_
  rcases hf with e' | ⟨g', e', hg'⟩
  ·exact (hc.seg_ne (e' ▸ hg)).1 e
  ·rw [e'] at hg
   injection hg with hg
   omega
 ·rintro k (rfl | hk' | hk' | hk')
  ·exact .inl (.inl rfl)
  ·rcases hf with e | ⟨g, e, hg⟩
   ·exact .inl (.inr (.inl (e ▸ hk')))
   ·rw [e] at hk'
    injection hk' with hk'
    right; omega
  ·exact .inl (.inr (.inr (.inl hk')))
  ·exact .inl (.inr (.inr (.inr hk')))
theorem LRun.flag (h : LRun w W l d P sv ev S E synced dead G) (hk : Kp (One l) W W') (hc : W'.heap[l]? = some (.cells #[.pointer (some ⟨d, 0, none⟩), .string P, sv, ev, .int .i64 (synced' : Int), .bool dead'] 86 (0, 0))) : LRun w W' l d P sv ev S E synced' dead' G :=
 h.step hk (fun k (e : k = l) => .inl (.inl e)) (h.c.turn hk hc) fun _ x => .inl x
end
theorem own_two {T E sz bytes : Nat} (hT : Tryz.prog.underlying T = some (.slice E)) (hE : (Tryz.prog.info? E).map (fun i => ((i.zero.map fun z => z.cells.size), i.size, i.bytes)) = some (some sz, sz, bytes)) {V : World} {v : Value} {n : Nat} {xs news : List Value} (ho : Own V E sz v n xs)
  (hone : ∀ u ∈ news, u.oneCell' = true) (hl : news.length = sz) {g : Nat} {cs : Array Value} (hg : V.heap[g]? = some (.cells cs E (0, 0))) (hcs : cs.toList = news) (hn : n ≤ 1100000000) (hb : (n + 1) * bytes ≤ 140737488355328) :
  ∃ a' c' W', (Builtin.append_ #[T, T] T #[v, .slice (some ⟨g, 0, none⟩) 1 1]).run Tryz.prog V = .ok (.slice a' (n + 1) c') W' ∧ Own W' E sz (.slice a' (n + 1) c') (n + 1) (xs ++ news) ∧ Kp (fun k => v.ownBlock = some k) V W' ∧
   ((Value.slice a' (n + 1) c').ownBlock = v.ownBlock ∨ ∃ g, (Value.slice a' (n + 1) c').ownBlock = some g ∧ V.heap.size ≤ g) := by
 obtain ⟨i0, hi, hz⟩ := Option.map_eq_some_iff.1 hE
 injection hz with hz0 hz
 injection hz with hz1 hz2
 obtain ⟨z, hz, hz3⟩ := Option.map_eq_some_iff.1 hz0
 have hsrc : Src V sz (.slice (some ⟨g, 0, none⟩) 1 1) 1 news := by
  refine ⟨by omega, some ⟨g, 0, none⟩, 1, rfl, Rd.row (n := sz) hg ?_ (get_lt hg) (Nat.le_refl _)⟩
  rw [List.drop_zero, hcs]
  exact List.take_of_length_le (by omega)
 obtain ⟨v', w', hrun, ho', hkp, hblk⟩ := run_append_Own (P := Tryz.prog) T T T E i0 z sz bytes hT ⟨_, hT⟩ hi hz hz1 hz2 hz3 v n xs ho (.slice (some ⟨g, 0, none⟩) 1 1) 1 news hsrc hone (by simp only [maxLen]; omega) hb
 obtain ⟨_, a', c', rfl, _⟩ := id ho'
 exact ⟨a', c', w', hrun, ho', hkp, hblk⟩
theorem own_one {T E sz bytes : Nat} (hT : Tryz.prog.underlying T = some (.slice E)) (hE : (Tryz.prog.info? E).map (fun i => ((i.zero.map fun z => z.cells.size), i.size, i.bytes)) = some (some sz, sz, bytes)) {W : World} {v : Value} {n : Nat} {xs news : List Value} (ho : Own W E sz v n xs)
  (hone : ∀ u ∈ news, u.oneCell' = true) (hl : news.length = sz) {cs : Array Value} (hcs : cs.toList = news) (hn : n ≤ 1100000000) (hb : (n + 1) * bytes ≤ 140737488355328) :
  ∃ a' c' W', (Builtin.append_ #[T, T] T #[v, .slice (some ⟨W.heap.size, 0, none⟩) 1 1]).run Tryz.prog (W.alloc (.cells cs E)) = .ok (.slice a' (n + 1) c') W' ∧ Own W' E sz (.slice a' (n + 1) c') (n + 1) (xs ++ news) ∧ Kp (fun k => v.ownBlock = some k) W W' ∧
   ((Value.slice a' (n + 1) c').ownBlock = v.ownBlock ∨ ∃ g, (Value.slice a' (n + 1) c').ownBlock = some g ∧ W.heap.size ≤ g) := by
 have hk : Kp No W (W.alloc (.cells cs E)) := (Kp.refl _ _).alloc _
 obtain ⟨a', c', w', hrun, ho', hkp, hblk⟩ := own_two hT hE (ho.keep hk fun _ _ x => x) hone hl (heap_alloc_new W _) hcs hn hb
 refine ⟨a', c', w', hrun, ho', (Kp.of_no hk).trans_same hkp, ?_⟩
 rcases hblk with h | ⟨g, h, h'⟩
 ·exact .inl h
 ·exact .inr ⟨g, h, Nat.le_trans hk.size h'⟩
theorem rd_len {w : World} {d : Nat} {s : DSt} {F : Nat → Prop} (h : DiskAt w d s F) (x : ByteArray) : (rdS s.files x).1.length ≤ 1073741824 := by
 obtain ⟨m, fused, left, L, hC, hf, hs, hF, hFs⟩ := h
 have h1 := hC.fits
 have h2 := hC.roomy
 unfold rdS
 cases hg : gget s.files x with
 | none => simp
 | some c =>
  have := mem_len (l := s.files) (p := (x, c)) (gget_mem hg)
  rw [hs] at this
  simp only at this ⊢
  omega
theorem wName_bnm (P : ByteArray) (hP : P.size ≤ 1000) (n : Nat) (hn : n < 1000000) (w : World) (ht : Pow w) :
  Calls Tryz.prog 40 #[.string P, .int .i64 (n : Int)] w fun e w' => e = .returned (.string (bnm P n)) ∧ Kp No w w' := wName_any P hP n hn w ht
theorem rName_bnm (P : ByteArray) (hP : P.size ≤ 1000) (n : Nat) (hn : n < 1000000) (w : World) :
  Calls Tryz.prog 29 #[.string P, .int .i64 (n : Int)] w fun e w' => e = .returned (.string (bnm P n)) ∧ Kp No w w' := rName_any P hP n hn w
end Go.Proofs.YtdibkdgafidjgaaGreatDoor
namespace Go.Mer
open Go Go.RowKit
def NLt (x y : ByteArray) : Prop := x.data.toList < y.data.toList
instance decNLt (x y : ByteArray) : Decidable (NLt x y) := inferInstanceAs (Decidable (x.data.toList < y.data.toList))
theorem bytes_inj {x y : ByteArray} (h : x.data.toList = y.data.toList) : x = y := by
 obtain ⟨x⟩ := x
 obtain ⟨y⟩ := y
 exact congrArg ByteArray.mk (Array.toList_inj.1 h)
theorem nlt_irr (x : ByteArray) : ¬ NLt x x := List.lt_irrefl _
theorem nlt_trans {x y z : ByteArray} (h : NLt x y) (h' : NLt y z) : NLt x z := List.lt_trans h h'
theorem nlt_tri (x y : ByteArray) : NLt x y ∨ x = y ∨ NLt y x := by
 by_cases h : x.data.toList < y.data.toList
 ·exact .inl h
 ·have h1 : y.data.toList ≤ x.data.toList := List.not_lt.1 h
  by_cases h2 : y.data.toList < x.data.toList
  ·exact .inr (.inr h2)
  ·exact .inr (.inl (bytes_inj (List.le_antisymm (List.not_lt.1 h2) h1)))
theorem less_nlt (x y : ByteArray) : Op.bytesLess x.toList y.toList = decide (NLt x y) := by
 rw [Go.Proofs.bytesLess_eq, Lib.toList_data, Lib.toList_data]
 rfl
theorem less_yes {x y : ByteArray} (h : NLt x y) : Op.bytesLess x.toList y.toList = true := by rw [less_nlt]; exact decide_eq_true h
theorem less_no {x y : ByteArray} (h : ¬ NLt x y) : Op.bytesLess x.toList y.toList = false := by rw [less_nlt]; exact decide_eq_false h
section
variable {K β : Type} [DecidableEq K]
theorem gget_perm {T S : List (K × β)} (hp : T.Perm S) (hn : (T.map (·.1)).Nodup) (k : K) : gget T k = gget S k := by
 have hn' : (S.map (·.1)).Nodup := (hp.map _).nodup_iff.1 hn
 cases h : gget S k with
 | none =>
  refine gget_none fun hm => gget_none_iff.1 h ?_
  exact (hp.map _).mem_iff.1 hm
 | some v => exact gget_some hn (hp.mem_iff.2 (gget_mem h))
theorem gset_perm {T S : List (K × β)} (hp : T.Perm S) (k : K) (v : β) : (gset T k v).Perm (gset S k v) := by
 unfold gset
 by_cases h : k ∈ T.map (·.1)
 ·rw [if_pos h, if_pos ((hp.map _).mem_iff.1 h)]
  exact hp.map _
 ·rw [if_neg h, if_neg (fun h' => h ((hp.map _).mem_iff.2 h'))]
  exact hp.append_right _
theorem gdel_perm {T S : List (K × β)} (hp : T.Perm S) (k : K) : (gdel T k).Perm (gdel S k) := hp.filter _
theorem gset_mid {l1 l2 : List (K × β)} {k : K} (v : β) (h : k ∉ (l1 ++ l2).map (·.1)) : (l1 ++ (k, v) :: l2).Perm (gset (l1 ++ l2) k v) := by
 rw [gset_new h, List.append_assoc]
 exact List.Perm.append_left _ ((List.perm_append_singleton (k, v) l2).symm)
end
end Go.Mer
namespace Go.Proofs.YtdibkdgafidjgaaGreatDoor
open Go.RowKit Go.Mer
structure RFile where
 name : ByteArray
 a : Option Addr
 cap : Nat
 data : List UInt8
 lasts : Nat
def RFile.val (f : RFile) : Value := .slice f.a f.data.length f.cap
def RFile.cells (f : RFile) : List Value := [.string f.name, .slice f.a f.data.length f.cap, .int .i64 (f.lasts : Int)]
def RFile.pair (f : RFile) : ByteArray × FileS := (f.name, ⟨f.data, f.lasts⟩)
theorem RFile.cells_len (f : RFile) : f.cells.length = 3 := rfl
theorem RFile.cells_one (f : RFile) : ∀ u ∈ f.cells, u.oneCell' = true := by
 intro u hu
 simp only [RFile.cells, List.mem_cons, List.not_mem_nil, or_false] at hu
 rcases hu with rfl | rfl | rfl <;> rfl
def absR (L : List RFile) : Files := L.map RFile.pair
def SortedR (L : List RFile) : Prop := L.Pairwise fun f g => NLt f.name g.name
def leftOf : Option Nat → Int
 | none => -1
 | some n => (n : Int)
def RFileOk (w : World) (f : RFile) : Prop := Own w 5 1 f.val f.data.length (u8s f.data) ∧ f.lasts ≤ f.data.length
structure RC (w : World) (r room : Nat) (left : Int) (rv : Value) (L : List RFile) : Prop where
 cell : w.heap[r]? = some (.cells #[.int .i64 (room : Int), rv, .int .i64 left] 83 (0, 0))
 row : Own w 108 3 rv L.length (L.flatMap RFile.cells)
 files : ∀ f ∈ L, RFileOk w f
 sorted : SortedR L
 fits : totF (absR L) ≤ room
 roomy : room ≤ 1073741824
 few : L.length ≤ 4096
 left0 : -1 ≤ left
 leftM : left ≤ 9223372036854775807
def RFP (r : Nat) (rv : Value) (L : List RFile) : Nat → Prop := fun k => k = r ∨ rv.ownBlock = some k ∨ ∃ f ∈ L, f.val.ownBlock = some k
def RAt (w : World) (r : Nat) (s : DSt) (G : Nat → Prop) : Prop :=
 ∃ rv L, RC w r s.room (leftOf s.fuse) rv L ∧ (absR L).Perm s.files ∧ (∀ k, RFP r rv L k → G k) ∧ ∀ k, G k → k < w.heap.size
section
variable {w w' : World} {r room : Nat} {left : Int} {rv : Value} {L : List RFile}
theorem keys_absR (L : List RFile) : (absR L).map (·.1) = L.map (·.name) := by simp [absR, RFile.pair, List.map_map, Function.comp_def]
theorem SortedR.keys (h : SortedR L) : ((absR L).map (·.1)).Nodup := by
 rw [keys_absR]
 exact List.pairwise_map.2 (h.imp fun hlt e => by rw [e] at hlt; exact nlt_irr _ hlt)
theorem RFileOk.keep {S : Nat → Prop} {f : RFile} (h : RFileOk w f) (hk : Kp S w w') (hS : ∀ g, f.val.ownBlock = some g → ¬ S g) : RFileOk w' f := ⟨h.1.keep hk hS, h.2⟩
theorem RC.keep {S : Nat → Prop} (h : RC w r room left rv L) (hk : Kp S w w') (hS : ∀ k, RFP r rv L k → ¬ S k) : RC w' r room left rv L :=
 { h with
  cell := hk.get h.cell (hS r (.inl rfl))
  row := h.row.keep hk fun g hg => hS g (.inr (.inl hg))
  files := fun f hf => (h.files f hf).keep hk fun g hg => hS g (.inr (.inr ⟨f, hf, hg⟩)) }
theorem RC.keep_no (h : RC w r room left rv L) (hk : Kp No w w') : RC w' r room left rv L := h.keep hk fun _ _ x => x
theorem RC.lt (h : RC w r room left rv L) : ∀ k, RFP r rv L k → k < w.heap.size := by
 rintro k (rfl | hk | ⟨f, hf, hk⟩)
 ·exact get_lt h.cell
 ·exact h.row.lt k hk
 ·exact (h.files f hf).1.lt k hk
theorem RAt.keep {S G : Nat → Prop} {s : DSt} (h : RAt w r s G) (hk : Kp S w w') (hS : ∀ k, G k → ¬ S k) : RAt w' r s G := by
 obtain ⟨rv, L, h1, h2, h3, h4⟩ := h
 exact ⟨rv, L, h1.keep hk (fun k hf => hS k (h3 k hf)), h2, h3, fun k hf => hk.lt (h4 k hf)⟩
theorem RAt.keep_no {G : Nat → Prop} {s : DSt} (h : RAt w r s G) (hk : Kp No w w') : RAt w' r s G := h.keep hk fun _ _ x => x
theorem RC.row_ne (h : RC w r room left rv L) {g : Nat} (hg : rv.ownBlock = some g) : g ≠ r := by
 obtain ⟨cur, hc⟩ := h.row.type g hg
 exact ne_of_type hc h.cell (by decide)
theorem RC.data_ne (h : RC w r room left rv L) {f : RFile} (hf : f ∈ L) {g : Nat} (hg : f.val.ownBlock = some g) : g ≠ r ∧ rv.ownBlock ≠ some g := by
 obtain ⟨cur, hc⟩ := (h.files f hf).1.type g hg
 refine ⟨ne_of_type hc h.cell (by decide), fun e => ?_⟩
 obtain ⟨cur', hc'⟩ := h.row.type g e
 exact ne_of_type hc hc' (by decide) rfl
theorem RC.setLeft (h : RC w r room left rv L) (left' : Int) (h0 : -1 ≤ left') (h1 : left' ≤ 9223372036854775807) (hk : Kp (One r) w w')
  (hc : w'.heap[r]? = some (.cells #[.int .i64 (room : Int), rv, .int .i64 left'] 83 (0, 0))) : RC w' r room left' rv L :=
 { h with
  cell := hc
  row := h.row.keep hk fun _ hg e => h.row_ne hg e
  files := fun f hf => (h.files f hf).keep hk fun _ hg e => (h.data_ne hf hg).1 e
  left0 := h0
  leftM := h1 }
inductive Spot (L : List RFile) (k : ByteArray) : Nat → Bool → Prop
 | is (L1 : List RFile) (f : RFile) (L2 : List RFile) (hL : L = L1 ++ f :: L2) (hk : f.name = k) : Spot L k L1.length true
 | no (L1 L2 : List RFile) (hL : L = L1 ++ L2) (h1 : ∀ f ∈ L1, NLt f.name k) (h2 : ∀ f ∈ L2, NLt k f.name) : Spot L k L1.length false
theorem Spot.le {k : ByteArray} {i : Nat} {b : Bool} (h : Spot L k i b) : i ≤ L.length := by
 cases h with
 | is L1 f L2 hL _ => rw [hL]; simp
 | no L1 L2 hL _ _ => rw [hL]; simp
theorem spot_is {i : Nat} (hi : i < L.length) {k : ByteArray} (hk : L[i].name = k) : Spot L k i true := by
 have e : L = L.take i ++ L[i] :: L.drop (i + 1) := by
  rw [← List.drop_eq_getElem_cons hi, List.take_append_drop]
 have h := Spot.is (k := k) (L.take i) L[i] (L.drop (i + 1)) e hk
 rwa [List.length_take, Nat.min_eq_left (by omega)] at h
theorem spot_no (hs : SortedR L) {i : Nat} (hi : i ≤ L.length) {k : ByteArray} (h1 : ∀ f ∈ L.take i, NLt f.name k) (h2 : ∀ h : i < L.length, NLt k L[i].name) : Spot L k i false := by
 have h := Spot.no (k := k) (L.take i) (L.drop i) (List.take_append_drop i L).symm h1 (fun f hf => by
  by_cases hl : i < L.length
  ·rw [List.drop_eq_getElem_cons hl] at hf
   rcases List.mem_cons.1 hf with rfl | hf
   ·exact h2 hl
   ·refine nlt_trans (h2 hl) ?_
    have hp : (L[i] :: L.drop (i + 1)).Pairwise fun f g => NLt f.name g.name := by
     rw [← List.drop_eq_getElem_cons hl]
     exact List.Pairwise.sublist (List.drop_sublist _ _) hs
    exact (List.pairwise_cons.1 hp).1 f hf
  ·rw [List.drop_eq_nil_of_le (by omega)] at hf
   cases hf)
 rwa [List.length_take, Nat.min_eq_left hi] at h
theorem get_is (hs : SortedR L) {L1 L2 : List RFile} {f : RFile} (hL : L = L1 ++ f :: L2) : gget (absR L) f.name = some ⟨f.data, f.lasts⟩ :=
 gget_some hs.keys (by rw [hL]; simp [absR, RFile.pair])
theorem get_no {L1 L2 : List RFile} {k : ByteArray} (h1 : ∀ f ∈ L1, NLt f.name k) (h2 : ∀ f ∈ L2, NLt k f.name) : gget (absR (L1 ++ L2)) k = none := gget_none (by
 rw [keys_absR, List.mem_map]
 rintro ⟨f, hf, rfl⟩
 rcases List.mem_append.1 hf with hf | hf
 ·exact nlt_irr _ (h1 f hf)
 ·exact nlt_irr _ (h2 f hf))
theorem sorted_put {L1 L2 : List RFile} (hs : SortedR (L1 ++ L2)) {f : RFile} (h1 : ∀ g ∈ L1, NLt g.name f.name) (h2 : ∀ g ∈ L2, NLt f.name g.name) : SortedR (L1 ++ f :: L2) := by
 unfold SortedR at hs ⊢
 rw [List.pairwise_append] at hs ⊢
 refine ⟨hs.1, List.pairwise_cons.2 ⟨h2, hs.2.1⟩, fun a ha b hb => ?_⟩
 rcases List.mem_cons.1 hb with rfl | hb
 ·exact h1 a ha
 ·exact hs.2.2 a ha b hb
theorem sorted_del {L1 L2 : List RFile} {f : RFile} (hs : SortedR (L1 ++ f :: L2)) : SortedR (L1 ++ L2) := List.Pairwise.sublist (List.Sublist.append_left (List.sublist_cons_self f L2) L1) hs
theorem sorted_turn {L1 L2 : List RFile} {f g : RFile} (hs : SortedR (L1 ++ f :: L2)) (hn : g.name = f.name) : SortedR (L1 ++ g :: L2) := by
 unfold SortedR at hs ⊢
 rw [List.pairwise_append, List.pairwise_cons] at hs ⊢
 rw [hn]
 refine ⟨hs.1, hs.2.1, fun a ha b hb => ?_⟩
 rcases List.mem_cons.1 hb with rfl | hb
 ·rw [hn]
  exact hs.2.2 a ha f (List.mem_cons_self ..)
 ·exact hs.2.2 a ha b (List.mem_cons_of_mem _ hb)
def SaidR (w : World) (r : Nat) (G : Nat → Prop) (q : Int × DSt) (e : Ending) (w' : World) : Prop :=
 e = .returned (.int .i64 q.1) ∧ ∃ G', RAt w' r q.2 G' ∧ Foot G G' w ∧ Kp G w w'
end
end Go.Proofs.YtdibkdgafidjgaaGreatDoor
namespace Go.Proofs.YtdibkdgafidjgaaGreatDoor
open Go.RowKit Go.Mer
def numC (n : Nat) : List Value := [.int .i64 (n : Int)]
theorem numC_len (n : Nat) : (numC n).length = 1 := rfl
theorem numC_one (n : Nat) : ∀ u ∈ numC n, u.oneCell' = true := by
 intro u hu
 simp only [numC, List.mem_cons, List.not_mem_nil, or_false] at hu
 subst hu
 rfl
theorem infoInt : (Tryz.prog.info? 3).map (fun i => ((i.zero.map fun z => z.cells.size), i.size, i.bytes)) = some (some 1, 1, 8) := by kernel_rfl
structure RLogC (w : World) (l d : Nat) (P : ByteArray) (sv ev : Value) (S : List Nat) (E : List Row) (synced : Nat) (dead : Bool) : Prop where
 cell : w.heap[l]? = some (.cells #[.pointer (some ⟨d, 0, none⟩), .string P, ev, sv, .int .i64 (synced : Int), .bool dead] 53 (0, 0))
 segs : Own w 3 1 sv S.length (S.flatMap numC)
 ents : Own w 23 1 ev E.length (E.flatMap rowC)
 each : ∀ r ∈ E, EntOk w r
def RLFP (l : Nat) (sv ev : Value) (E : List Row) : Nat → Prop := fun k => k = l ∨ sv.ownBlock = some k ∨ ev.ownBlock = some k ∨ ∃ r ∈ E, r.val.ownBlock = some k
def RLogAt (w : World) (l d : Nat) (P : ByteArray) (st : LSt) (G : Nat → Prop) : Prop :=
 ∃ sv ev E, RLogC w l d P sv ev (st.segs.map (·.1)) E (st.synced + 1) st.dead ∧ st.ents = E.map Row.data ∧ (∀ k, RLFP l sv ev E k → G k) ∧ ∀ k, G k → k < w.heap.size
section
variable {w w' W W' : World} {l d : Nat} {P : ByteArray} {sv ev sv' ev' : Value} {S S' : List Nat} {E E' : List Row} {synced synced' : Nat} {dead dead' : Bool} {G : Nat → Prop} {r : Row}
theorem RLogC.keep {T : Nat → Prop} (h : RLogC w l d P sv ev S E synced dead) (hk : Kp T w w') (hT : ∀ k, RLFP l sv ev E k → ¬ T k) : RLogC w' l d P sv ev S E synced dead :=
 ⟨hk.get h.cell (hT l (.inl rfl)), h.segs.keep hk fun g hg => hT g (.inr (.inl hg)), h.ents.keep hk fun g hg => hT g (.inr (.inr (.inl hg))), fun r hr => (h.each r hr).keep hk fun g hg => hT g (.inr (.inr (.inr ⟨r, hr, hg⟩)))⟩
theorem RLogC.keep_no (h : RLogC w l d P sv ev S E synced dead) (hk : Kp No w w') : RLogC w' l d P sv ev S E synced dead := h.keep hk fun _ _ x => x
theorem RLogC.lt (h : RLogC w l d P sv ev S E synced dead) : ∀ k, RLFP l sv ev E k → k < w.heap.size := by
 rintro k (rfl | hk | hk | ⟨r, hr, hk⟩)
 ·exact get_lt h.cell
 ·exact h.segs.lt k hk
 ·exact h.ents.lt k hk
 ·exact (h.each r hr).1.lt k hk
theorem RLogAt.keep {T : Nat → Prop} {st : LSt} (h : RLogAt w l d P st G) (hk : Kp T w w') (hT : ∀ k, G k → ¬ T k) : RLogAt w' l d P st G := by
 obtain ⟨sv, ev, E, h1, h2, h3, h4⟩ := h
 exact ⟨sv, ev, E, h1.keep hk (fun k hf => hT k (h3 k hf)), h2, h3, fun k hf => hk.lt (h4 k hf)⟩
theorem RLogAt.keep_no {st : LSt} (h : RLogAt w l d P st G) (hk : Kp No w w') : RLogAt w' l d P st G := h.keep hk fun _ _ x => x
theorem RLogC.seg_ne (h : RLogC w l d P sv ev S E synced dead) {g : Nat} (hg : sv.ownBlock = some g) : g ≠ l ∧ ev.ownBlock ≠ some g ∧ ∀ r ∈ E, r.val.ownBlock ≠ some g := by
 obtain ⟨cur, hc⟩ := h.segs.type g hg
 refine ⟨ne_of_type hc h.cell (by decide), fun e => ?_, fun r hr e => ?_⟩
 ·obtain ⟨cur', hc'⟩ := h.ents.type g e
  exact ne_of_type hc hc' (by decide) rfl
 ·obtain ⟨cur', hc'⟩ := (h.each r hr).1.type g e
  exact ne_of_type hc hc' (by decide) rfl
theorem RLogC.ent_ne (h : RLogC w l d P sv ev S E synced dead) {g : Nat} (hg : ev.ownBlock = some g) : g ≠ l ∧ sv.ownBlock ≠ some g ∧ ∀ r ∈ E, r.val.ownBlock ≠ some g := by
 obtain ⟨cur, hc⟩ := h.ents.type g hg
 refine ⟨ne_of_type hc h.cell (by decide), fun e => ?_, fun r hr e => ?_⟩
 ·obtain ⟨cur', hc'⟩ := h.segs.type g e
  exact ne_of_type hc hc' (by decide) rfl
 ·obtain ⟨cur', hc'⟩ := (h.each r hr).1.type g e
  exact ne_of_type hc hc' (by decide) rfl
theorem RLogC.row_ne (h : RLogC w l d P sv ev S E synced dead) (hr : r ∈ E) {g : Nat} (hg : r.val.ownBlock = some g) : g ≠ l := by
 obtain ⟨cur, hc⟩ := (h.each r hr).1.type g hg
 exact ne_of_type hc h.cell (by decide)
theorem RLogC.turn (h : RLogC w l d P sv ev S E synced dead) (hk : Kp (One l) w w') (hc : w'.heap[l]? = some (.cells #[.pointer (some ⟨d, 0, none⟩), .string P, ev, sv, .int .i64 (synced' : Int), .bool dead'] 53 (0, 0))) : RLogC w' l d P sv ev S E synced' dead' :=
 ⟨hc, h.segs.keep hk fun g hg (e : g = l) => (h.seg_ne hg).1 e, h.ents.keep hk fun g hg (e : g = l) => (h.ent_ne hg).1 e, fun r hr => (h.each r hr).keep hk fun g hg (e : g = l) => h.row_ne hr hg e⟩
structure XLRun (w W : World) (l d : Nat) (P : ByteArray) (sv ev : Value) (S : List Nat) (E : List Row) (synced : Nat) (dead : Bool) (G : Nat → Prop) : Prop where
 c : RLogC W l d P sv ev S E synced dead
 foot : ∀ k, RLFP l sv ev E k → G k ∨ w.heap.size ≤ k
 kp : Kp G w W
theorem XLRun.start {st : LSt} (h : RLogAt w l d P st G) : ∃ sv ev E, XLRun w w l d P sv ev (st.segs.map (·.1)) E (st.synced + 1) st.dead G ∧ st.ents = E.map Row.data ∧ ∀ k, G k → k < w.heap.size := by
 obtain ⟨sv, ev, E, h1, h2, h3, h4⟩ := h
 exact ⟨sv, ev, E, ⟨h1, fun k hk => .inl (h3 k hk), Kp.refl _ _⟩, h2, h4⟩
theorem XLRun.stop {S : List (Nat × Nat)} {k : Nat} (h : XLRun w W l d P sv ev (S.map (·.1)) E k dead G) (hk : k = synced + 1) : ∃ G', RLogAt W l d P ⟨E.map Row.data, S, synced, dead⟩ G' ∧ Foot G G' w ∧ Kp G w W :=
 ⟨RLFP l sv ev E, ⟨sv, ev, E, by subst hk; exact h.c, rfl, fun _ x => x, h.c.lt⟩, h.foot, h.kp⟩
theorem XLRun.step {T : Nat → Prop} (h : XLRun w W l d P sv ev S E synced dead G) (hk : Kp T W W') (hT : ∀ k, T k → RLFP l sv ev E k ∨ W.heap.size ≤ k) (hc : RLogC W' l d P sv' ev' S' E' synced' dead') (hf : ∀ k, RLFP l sv' ev' E' k → RLFP l sv ev E k ∨ W.heap.size ≤ k) :
  XLRun w W' l d P sv' ev' S' E' synced' dead' G := by
 have hsz := h.kp.size
 refine ⟨hc, fun k hk' => ?_, h.kp.trans hk fun i hi hs => ?_⟩
 ·rcases hf k hk' with h1 | h1
  ·exact h.foot k h1
  ·exact .inr (Nat.le_trans hsz h1)
 ·rcases hT i hs with h1 | h1
  ·rcases h.foot i h1 with h2 | h2
   ·exact h2
   ·omega
  ·omega
theorem XLRun.no (h : XLRun w W l d P sv ev S E synced dead G) (hk : Kp No W W') : XLRun w W' l d P sv ev S E synced dead G := h.step hk (fun _ x => x.elim) (h.c.keep_no hk) fun _ x => .inl x
theorem XLRun.ent (h : XLRun w W l d P sv ev S E synced dead G) (hr : EntOk W r) (hrf : ∀ g, r.val.ownBlock = some g → G g ∨ w.heap.size ≤ g) (hk : Kp (fun k => ev.ownBlock = some k) W W') (ho : Own W' 23 1 ev' (E ++ [r]).length ((E ++ [r]).flatMap rowC)) (hf : ev'.ownBlock = ev.ownBlock ∨ ∃ g, ev'.ownBlock = some g ∧ W.heap.size ≤ g) :
  XLRun w (W'.setCell ⟨l, 2, none⟩ ev') l d P sv ev' S (E ++ [r]) synced dead G := by
 have hc := h.c
 have hcell := hk.get hc.cell fun e => (hc.ent_ne e).1 rfl
 have hs : Kp (One l) W' (W'.setCell ⟨l, 2, none⟩ ev') := (Kp.refl (One l) _).setCell (p := ⟨l, 2, none⟩) (.inl rfl) _
 have hll := get_lt hc.cell
 have hrn : ∀ g, r.val.ownBlock = some g → g ≠ l ∧ ev.ownBlock ≠ some g := fun g hg => by
  obtain ⟨cur, hcu⟩ := hr.1.type g hg
  refine ⟨ne_of_type hcu hc.cell (by decide), fun e => ?_⟩
  obtain ⟨cur', hc'⟩ := hc.ents.type g e
  exact ne_of_type hcu hc' (by decide) rfl
 have hall : Kp (fun k => k = l ∨ ev.ownBlock = some k) W (W'.setCell ⟨l, 2, none⟩ ev') := (hk.mono fun _ _ x => .inr x).trans hs fun i _ (e : i = l) => .inl e
 have hsz := h.kp.size
 have hE : ∀ q ∈ E ++ [r], EntOk (W'.setCell ⟨l, 2, none⟩ ev') q := fun q hq => by
  rcases List.mem_append.1 hq with hq | hq
  ·refine (hc.each q hq).keep hall fun g hg hT => ?_
   rcases hT with hT | hT
   ·exact hc.row_ne hq hg hT
   ·exact (hc.ent_ne hT).2.2 q hq hg
  ·rw [List.mem_singleton] at hq
   subst hq
   exact hr.keep hall fun g hg hT => hT.elim (hrn g hg).1 (hrn g hg).2
 have hfo : ∀ k, RLFP l sv ev' (E ++ [r]) k → G k ∨ w.heap.size ≤ k := by
  rintro k (rfl | hk' | hk' | ⟨q, hq, hk'⟩)
  ·exact h.foot _ (.inl rfl)
  ·exact h.foot _ (.inr (.inl hk'))
  ·rcases hf with e | ⟨g, e, hg⟩
   ·exact h.foot _ (.inr (.inr (.inl (e ▸ hk'))))
   ·rw [e] at hk'
    injection hk' with hk'
    right; omega
  ·rcases List.mem_append.1 hq with hq | hq
   ·exact h.foot _ (.inr (.inr (.inr ⟨q, hq, hk'⟩)))
   ·rw [List.mem_singleton] at hq
    subst hq
    exact hrf k hk'
 refine ⟨⟨by have := set_at hcell 2 ev'; simpa using this, hc.segs.keep hall fun g hg hT => hT.elim (hc.seg_ne hg).1 (hc.seg_ne hg).2.1, ?_, hE⟩, hfo, h.kp.trans hall fun i hi hT => ?_⟩
 ·refine ho.keep hs fun g hg (e : g = l) => ?_
  rcases hf with e' | ⟨g', e', hg'⟩
  ·exact (hc.ent_ne (e' ▸ hg)).1 e
  ·rw [e'] at hg
   injection hg with hg
   omega
 ·rcases hT with rfl | hT
  ·rcases h.foot _ (.inl rfl) with h1 | h1
   ·exact h1
   ·omega
  ·rcases h.foot _ (.inr (.inr (.inl hT))) with h1 | h1
   ·exact h1
   ·omega
theorem XLRun.seg (h : XLRun w W l d P sv ev S E synced dead G) (hk : Kp (fun k => sv.ownBlock = some k) W W') (ho : Own W' 3 1 sv' S'.length (S'.flatMap numC)) (hf : sv'.ownBlock = sv.ownBlock ∨ ∃ g, sv'.ownBlock = some g ∧ W.heap.size ≤ g) :
  XLRun w (W'.setCell ⟨l, 3, none⟩ sv') l d P sv' ev S' E synced dead G := by
 have hc := h.c
 have hcell := hk.get hc.cell fun e => (hc.seg_ne e).1 rfl
 have hs : Kp (One l) W' (W'.setCell ⟨l, 3, none⟩ sv') := (Kp.refl (One l) _).setCell (p := ⟨l, 3, none⟩) (.inl rfl) _
 have hll := get_lt hc.cell
 have hall : Kp (fun k => k = l ∨ sv.ownBlock = some k) W (W'.setCell ⟨l, 3, none⟩ sv') := (hk.mono fun _ _ x => .inr x).trans hs fun i _ (e : i = l) => .inl e
 refine h.step hall (fun k hT => hT.elim (fun e => .inl (.inl e)) fun e => .inl (.inr (.inl e))) ⟨by have := set_at hcell 3 sv'; simpa using this, ?_, hc.ents.keep hall fun g hg hT => hT.elim (hc.ent_ne hg).1 (hc.ent_ne hg).2.1, fun q hq => (hc.each q hq).keep hall fun g hg hT => hT.elim (hc.row_ne hq hg) fun e => (hc.seg_ne e).2.2 q hq hg⟩ ?_
 ·refine ho.keep hs fun g hg (e : g = l) => ?_
  rcases hf with e' | ⟨g', e', hg'⟩
  ·exact (hc.seg_ne (e' ▸ hg)).1 e
  ·rw [e'] at hg
   injection hg with hg
   omega
 ·rintro k (rfl | hk' | hk' | hk')
  ·exact .inl (.inl rfl)
  ·rcases hf with e | ⟨g, e, hg⟩
   ·exact .inl (.inr (.inl (e ▸ hk')))
   ·rw [e] at hk'
    injection hk' with hk'
    right; omega
  ·exact .inl (.inr (.inr (.inl hk')))
  ·exact .inl (.inr (.inr (.inr hk')))
theorem XLRun.flag (h : XLRun w W l d P sv ev S E synced dead G) (hk : Kp (One l) W W') (hc : W'.heap[l]? = some (.cells #[.pointer (some ⟨d, 0, none⟩), .string P, ev, sv, .int .i64 (synced' : Int), .bool dead'] 53 (0, 0))) : XLRun w W' l d P sv ev S E synced' dead' G :=
 h.step hk (fun k (e : k = l) => .inl (.inl e)) (h.c.turn hk hc) fun _ x => .inl x
end
end Go.Proofs.YtdibkdgafidjgaaGreatDoor

