/-
  Texts laid together: Mem, Chunk, Region, Wide.
-/
import Derived.WalkKit
import Derived.ArgAppend
import Derived.Laws.OwnMore
import Derived.Maps.RangeRun
import Derived.Lib.Hide
import Derived.Deep.Draws
import Derived.Deep.Quiet
import Derived.OrdersHeld
import Derived.Tactics2
import Derived.KernelRfl
import Derived.Deep.MidRow
import Derived.Deep.WholeRow
namespace Go.Mer
open Go Go.RowKit
open Go.ChangeMaps (setBlock)
structure Kp (S : Nat → Prop) (w w' : World) : Prop where
 os : w'.os = w.os
 tape : w'.tape = w.tape
 output : w'.output = w.output
 size : w.heap.size ≤ w'.heap.size
 block : ∀ k, k < w.heap.size → ¬ S k → w'.heap[k]? = w.heap[k]?
def No : Nat → Prop := fun _ => False
def One (b : Nat) : Nat → Prop := fun k => k = b
def Foot (F F' : Nat → Prop) (w : World) : Prop := ∀ k, F' k → F k ∨ w.heap.size ≤ k
section
variable {S T U : Nat → Prop} {w a b c w' : World}
theorem Kp.refl (S : Nat → Prop) (w : World) : Kp S w w := ⟨rfl, rfl, rfl, Nat.le_refl _, fun _ _ _ => rfl⟩
theorem Kp.trans (h : Kp S a b) (k : Kp T b c) (hT : ∀ i, i < a.heap.size → T i → S i) : Kp S a c :=
 ⟨k.os.trans h.os, k.tape.trans h.tape, k.output.trans h.output, Nat.le_trans h.size k.size, fun i hi hn => (k.block i (Nat.lt_of_lt_of_le hi h.size) (fun ht => hn (hT i hi ht))).trans (h.block i hi hn)⟩
theorem Kp.trans_same (h : Kp S a b) (k : Kp S b c) : Kp S a c := h.trans k fun _ _ x => x
theorem Kp.trans_no (h : Kp S a b) (k : Kp No b c) : Kp S a c := h.trans k fun _ _ x => x.elim
theorem Kp.mono (h : Kp S a b) (hS : ∀ i, i < a.heap.size → S i → T i) : Kp T a b :=
 ⟨h.os, h.tape, h.output, h.size, fun i hi hn => h.block i hi fun hs => hn (hS i hi hs)⟩
theorem Kp.of_no (h : Kp No a b) : Kp S a b := h.mono fun _ _ x => x.elim
theorem Kp.drewN (h : Kp S a b) (n : Nat) : Kp S a (b.drewN n) := ⟨h.os, h.tape, h.output, h.size, h.block⟩
theorem Kp.drew (h : Kp S a b) : Kp S a b.drew := ⟨h.os, h.tape, h.output, h.size, h.block⟩
theorem Kp.of_drewN {n : Nat} (h : Kp S (a.drewN n) b) : Kp S a b := ⟨h.os, h.tape, h.output, h.size, h.block⟩
theorem Kp.from_drewN (h : Kp S a b) (n : Nat) : Kp S (a.drewN n) b := ⟨h.os, h.tape, h.output, h.size, h.block⟩
theorem Kp.alloc (h : Kp S a b) (o : Obj) : Kp S a (b.alloc o) :=
 h.trans_no ⟨rfl, rfl, rfl, by simp, fun k hk _ => Below.heap_alloc b o k hk⟩
theorem Kp.setCell (h : Kp S a b) {p : Addr} (hp : S p.block ∨ a.heap.size ≤ p.block) (u : Value) : Kp S a (b.setCell p u) :=
 h.trans (T := One p.block) ⟨rfl, rfl, rfl, by simp [World.setCell], fun k _ hn => Below.heap_setCell _ _ _ _ (fun e => hn e)⟩
  (fun i hi hT => by
   rw [show i = p.block from hT] at hi ⊢
   rcases hp with hp | hp
   ·exact hp
   ·omega)
theorem Kp.setBlock (h : Kp S a b) {k : Nat} (hp : S k ∨ a.heap.size ≤ k) (o : Obj) : Kp S a (setBlock b k o) :=
 h.trans (T := One k) ⟨rfl, rfl, rfl, by simp [ChangeMaps.setBlock], fun i _ hn => by
   show (b.heap.setIfInBounds k o)[i]? = _
   rw [Array.getElem?_setIfInBounds_ne (fun e => hn e.symm)]⟩
  (fun i hi hT => by
   rw [show i = k from hT] at hi ⊢
   rcases hp with hp | hp
   ·exact hp
   ·omega)
theorem Kp.cell (h : Kp S w w') {p : Addr} (hp : p.block < w.heap.size) (hn : ¬ S p.block) : w'.cell? p = w.cell? p := World.cell?_of_block (w := w) (h.block p.block hp hn)
theorem Kp.frozen (h : Kp S w w') {p : Addr} (hp : p.block < w.heap.size) (hn : ¬ S p.block) : w'.frozen? p = w.frozen? p := World.frozen?_of_block (w := w) (h.block p.block hp hn)
theorem Kp.get (h : Kp S w w') {k : Nat} {o : Obj} (hk : w.heap[k]? = some o) (hn : ¬ S k) : w'.heap[k]? = some o :=
 (h.block k (Array.getElem?_eq_some_iff.1 hk).1 hn).trans hk
theorem Kp.below (h : Kp S w w') {B : Nat} (hB : B ≤ w.heap.size) (hS : ∀ k, k < B → ¬ S k) : Below B w w' :=
 ⟨h.os, h.tape, h.output, h.size, fun k hk => h.block k (by omega) (hS k hk)⟩
theorem Kp.of_below {B : Nat} (h : Below B w w') (hS : ∀ k, k < w.heap.size → B ≤ k → S k) : Kp S w w' :=
 ⟨h.os, h.tape, h.output, h.size, fun k hk hn => h.block k (by
  rcases Nat.lt_or_ge k B with h' | h'
  ·exact h'
  ·exact absurd (hS k hk h') hn)⟩
theorem Kp.lt (h : Kp S w w') {k : Nat} (hk : k < w.heap.size) : k < w'.heap.size := Nat.lt_of_lt_of_le hk h.size
theorem get_lt {k : Nat} {o : Obj} (hk : w.heap[k]? = some o) : k < w.heap.size := (Array.getElem?_eq_some_iff.1 hk).1
theorem Foot.refl (F : Nat → Prop) (w : World) : Foot F F w := fun _ h => .inl h
theorem Foot.trans {F F' F'' : Nat → Prop} (h : Foot F F' w) (k : Foot F' F'' w') (hs : w.heap.size ≤ w'.heap.size) : Foot F F'' w := fun i hi => by
 rcases k i hi with hi | hi
 ·exact h i hi
 ·exact .inr (by omega)
theorem Foot.apart {F F' G : Nat → Prop} (h : Foot F F' w) (hG : ∀ k, G k → k < w.heap.size) (hd : ∀ k, F k → ¬ G k) : ∀ k, F' k → ¬ G k := fun k hk hg => by
 rcases h k hk with hk | hk
 ·exact hd k hk hg
 ·exact absurd (hG k hg) (by omega)
end
theorem cell_at {w : World} {g : Nat} {cs : Array Value} {t : TypeId} (h : w.heap[g]? = some (.cells cs t (0, 0))) (i : Nat) : w.cell? ⟨g, i, none⟩ = cs[i]? := cell_of_row w g i cs t (0, 0) h
theorem free_at {w : World} {g : Nat} {cs : Array Value} {t : TypeId} (h : w.heap[g]? = some (.cells cs t (0, 0))) (i : Nat) : w.frozen? ⟨g, i, none⟩ = false := by simp [World.frozen?, h]
theorem set_at {w : World} {g : Nat} {cs : Array Value} {t : TypeId} (h : w.heap[g]? = some (.cells cs t (0, 0))) (i : Nat) (u : Value) : (w.setCell ⟨g, i, none⟩ u).heap[g]? = some (.cells (cs.setIfInBounds i u) t (0, 0)) := by
 simp [World.setCell, Array.getElem?_modify, h]
theorem set_far {w : World} {g : Nat} {o : Obj} (h : w.heap[g]? = some o) {p : Addr} (hp : g ≠ p.block) (u : Value) : (w.setCell p u).heap[g]? = some o := (Below.heap_setCell w p u g hp).trans h
theorem alloc_far {w : World} {g : Nat} {o : Obj} (h : w.heap[g]? = some o) (o' : Obj) : (w.alloc o').heap[g]? = some o := (Below.heap_alloc w o' g (get_lt h)).trans h
theorem setBlock_at {w : World} {k : Nat} (hk : k < w.heap.size) (o : Obj) : (setBlock w k o).heap[k]? = some o := by simp [setBlock, hk]
theorem ne_of_type {w : World} {g g' : Nat} {cs cs' : Array Value} {t t' : TypeId} {f f' : Nat × Nat} (h : w.heap[g]? = some (.cells cs t f)) (h' : w.heap[g']? = some (.cells cs' t' f')) (hne : t ≠ t') : g ≠ g' := by
 rintro rfl
 rw [h] at h'
 injection h' with h'
 injection h' with _ ht
 exact hne ht
theorem ne_of_map {w : World} {g g' : Nat} {cs : Array Value} {t : TypeId} {f : Nat × Nat} {es : Array MapEntry} {c : Nat} (h : w.heap[g]? = some (.cells cs t f)) (h' : w.heap[g']? = some (.map es c)) : g ≠ g' := by
 rintro rfl
 rw [h] at h'
 cases h'
def u8 (b : UInt8) : Value := .int .u8 (b.toNat : Int)
def u8s (l : List UInt8) : List Value := l.map u8
theorem u8s_length (l : List UInt8) : (u8s l).length = l.length := by simp [u8s]
theorem u8s_append (l k : List UInt8) : u8s (l ++ k) = u8s l ++ u8s k := by simp [u8s]
theorem u8s_get? (l : List UInt8) (i : Nat) : (u8s l)[i]? = (l[i]?).map u8 := by simp [u8s]
theorem u8s_one (l : List UInt8) : ∀ u ∈ u8s l, u.oneCell' = true := by
 intro u hu
 obtain ⟨b, _, rfl⟩ := List.mem_map.1 hu
 rfl
def Rd (w : World) (B : Nat) (a : Option Addr) (xs : List Value) : Prop :=
 0 < xs.length → ∃ g off, a = some ⟨g, off, none⟩ ∧ g < B ∧ B ≤ w.heap.size ∧ ∀ j u, xs[j]? = some u → w.cell? ⟨g, off + j, none⟩ = some u
section
variable {w w' : World} {B : Nat} {a : Option Addr} {xs : List Value}
theorem Rd.nil (w : World) (B : Nat) (a : Option Addr) : Rd w B a [] := fun h => absurd h (by simp)
theorem Rd.keep {S : Nat → Prop} (h : Rd w B a xs) (hk : Kp S w w') (hS : ∀ k, k < B → ¬ S k) : Rd w' B a xs := fun hx => by
 obtain ⟨g, off, ha, hg, hB, hc⟩ := h hx
 exact ⟨g, off, ha, hg, Nat.le_trans hB hk.size, fun j u hu => (hk.cell (p := ⟨g, off + j, none⟩) (by show g < _; omega) (hS g hg)).trans (hc j u hu)⟩
theorem Rd.keep_map {S : Nat → Prop} (h : Rd w B a xs) (hk : Kp S w w') (hS : ∀ k o, S k → w.cell? ⟨k, o, none⟩ = none) : Rd w' B a xs := fun hx => by
 obtain ⟨g, off, ha, hg, hB, hc⟩ := h hx
 have hgS : ¬ S g := fun hs => by
  have h0 := hc 0 xs[0] (by simp)
  rw [hS g _ hs] at h0
  cases h0
 exact ⟨g, off, ha, hg, Nat.le_trans hB hk.size, fun j u hu => (hk.cell (p := ⟨g, off + j, none⟩) (by show g < _; omega) hgS).trans (hc j u hu)⟩
theorem cell_map {w : World} {m : Nat} {es : Array MapEntry} {c : Nat} (h : w.heap[m]? = some (.map es c)) (o : Nat) : w.cell? ⟨m, o, none⟩ = none := by simp [World.cell?, h]
theorem Rd.drewN (h : Rd w B a xs) (n : Nat) : Rd (w.drewN n) B a xs := h
theorem Rd.mono (h : Rd w B a xs) {B' : Nat} (hB : B ≤ B') (hs : B' ≤ w.heap.size) : Rd w B' a xs := fun hx => by
 obtain ⟨g, off, ha, hg, _, hc⟩ := h hx
 exact ⟨g, off, ha, by omega, hs, hc⟩
theorem Rd.at_ (h : Rd w B a xs) {i : Nat} {u : Value} (hu : xs[i]? = some u) : ∃ g off, a = some ⟨g, off, none⟩ ∧ g < B ∧ B ≤ w.heap.size ∧ w.cell? ⟨g, off + i, none⟩ = some u := by
 have hi := (List.getElem?_eq_some_iff.1 hu).1
 obtain ⟨g, off, ha, hg, hB, hc⟩ := h (by omega)
 exact ⟨g, off, ha, hg, hB, hc i u hu⟩
theorem Rd.byte {l : List UInt8} (h : Rd w B a (u8s l)) {i : Nat} (hi : i < l.length) :
  ∃ g off, a = some ⟨g, off, none⟩ ∧ g < B ∧ B ≤ w.heap.size ∧ w.cell? ⟨g, off + i, none⟩ = some (.int .u8 (l[i].toNat : Int)) :=
 h.at_ (by simp [u8s, u8, hi])
theorem Rd.drop (h : Rd w B a xs) (i : Nat) : Rd w B (a.map (·.add i)) (xs.drop i) := fun hx => by
 rw [List.length_drop] at hx
 obtain ⟨g, off, rfl, hg, hB, hc⟩ := h (by omega)
 refine ⟨g, off + i, ?_, hg, hB, fun j u hu => ?_⟩
 ·simp only [Option.map_some, Addr.add]
  split
  ·rename_i e; subst e; rfl
  ·rfl
 ·rw [List.getElem?_drop] at hu
  have := hc _ u hu
  rwa [← Nat.add_assoc] at this
theorem Rd.take (h : Rd w B a xs) (i : Nat) : Rd w B a (xs.take i) := fun hx => by
 rw [List.length_take] at hx
 obtain ⟨g, off, ha, hg, hB, hc⟩ := h (by omega)
 refine ⟨g, off, ha, hg, hB, fun j u hu => hc j u ?_⟩
 rw [List.getElem?_take] at hu
 split at hu
 ·exact hu
 ·cases hu
theorem Rd.row {cs : Array Value} {t : TypeId} {g off n : Nat} (hg : w.heap[g]? = some (.cells cs t (0, 0))) (hx : (cs.toList.drop off).take n = xs) (hgB : g < B) (hB : B ≤ w.heap.size) : Rd w B (some ⟨g, off, none⟩) xs := fun _ =>
 ⟨g, off, rfl, hgB, hB, fun j u hu => by
  rw [cell_at hg]
  subst hx
  rw [List.getElem?_take] at hu
  split at hu
  ·rw [List.getElem?_drop] at hu
   simpa using hu
  ·cases hu⟩
end
def Own (w : World) (e : TypeId) (sz : Nat) (v : Value) (n : Nat) (xs : List Value) : Prop :=
 xs.length = n * sz ∧ ∃ a cap, v = .slice a n cap ∧ n ≤ cap ∧ cap ≤ maxLen ∧ (a = none → cap = 0) ∧
  ∀ ad, a = some ad → ∃ g off cur, ad = ⟨g, off, none⟩ ∧ w.heap[g]? = some (.cells cur e (0, 0)) ∧ off + cap * sz ≤ cur.size ∧ (cur.toList.drop off).take (n * sz) = xs
section
variable {w w' : World} {e : TypeId} {sz n : Nat} {v : Value} {xs : List Value}
theorem Own.nil (w : World) (e : TypeId) (sz : Nat) : Own w e sz (.slice none 0 0) 0 [] :=
 ⟨by simp, none, 0, rfl, Nat.le_refl _, by simp [maxLen], fun _ => rfl, fun _ h => by cases h⟩
theorem Own.keep {S : Nat → Prop} (h : Own w e sz v n xs) (hk : Kp S w w') (hS : ∀ g, v.ownBlock = some g → ¬ S g) : Own w' e sz v n xs := by
 obtain ⟨hl, a, cap, rfl, h1, h2, h3, h4⟩ := h
 refine ⟨hl, a, cap, rfl, h1, h2, h3, fun ad had => ?_⟩
 subst had
 obtain ⟨g, off, cur, rfl, hg, hr⟩ := h4 ad rfl
 exact ⟨g, off, cur, rfl, hk.get hg (hS g rfl), hr⟩
theorem Own.drewN (h : Own w e sz v n xs) (k : Nat) : Own (w.drewN k) e sz v n xs := h
theorem Own.lt (h : Own w e sz v n xs) : ∀ g, v.ownBlock = some g → g < w.heap.size := by
 obtain ⟨_, a, cap, rfl, _, _, _, h4⟩ := h
 intro g hg
 cases a with
 | none => simp [Value.ownBlock] at hg
 | some ad =>
  obtain ⟨g', off, cur, rfl, hgg, _⟩ := h4 ad rfl
  simp [Value.ownBlock] at hg
  subst hg
  exact get_lt hgg
theorem Own.type (h : Own w e sz v n xs) : ∀ g, v.ownBlock = some g → ∃ cur, w.heap[g]? = some (.cells cur e (0, 0)) := by
 obtain ⟨_, a, cap, rfl, _, _, _, h4⟩ := h
 intro g hg
 cases a with
 | none => simp [Value.ownBlock] at hg
 | some ad =>
  obtain ⟨g', off, cur, rfl, hgg, _⟩ := h4 ad rfl
  simp [Value.ownBlock] at hg
  subst hg
  exact ⟨cur, hgg⟩
theorem Own.rd (h : Own w e sz v n xs) : ∃ a cap, v = .slice a n cap ∧ n ≤ cap ∧ Rd w w.heap.size a xs := by
 obtain ⟨hl, a, cap, rfl, h1, h2, h3, h4⟩ := h
 refine ⟨a, cap, rfl, h1, fun hx => ?_⟩
 cases a with
 | none =>
  have := h3 rfl
  have : n = 0 := by omega
  subst this
  simp at hl
  rw [hl] at hx
  simp at hx
 | some ad =>
  obtain ⟨g, off, cur, rfl, hg, _, hr⟩ := h4 ad rfl
  exact Rd.row hg hr (get_lt hg) (Nat.le_refl _) hx
theorem Own.rd' {a : Option Addr} {cap m : Nat} (h : Own w e sz (.slice a m cap) n xs) : Rd w w.heap.size a xs := by
 obtain ⟨a', c', e', _, hr⟩ := h.rd
 injection e' with e1 _ _
 rw [e1]
 exact hr
theorem Own.made (w : World) (e : TypeId) (sz : Nat) (cur : Array Value) (n cap : Nat) (hn : n ≤ cap) (hm : cap ≤ maxLen) (hs : cap * sz ≤ cur.size) (hx : cur.toList.take (n * sz) = xs) :
  Own (w.alloc (.cells cur e)) e sz (.slice (some ⟨w.heap.size, 0, none⟩) n cap) n xs := by
 refine ⟨?_, some ⟨w.heap.size, 0, none⟩, cap, rfl, hn, hm, fun h => (by cases h), fun ad h => ?_⟩
 ·rw [← hx, List.length_take, Array.length_toList]
  have : n * sz ≤ cap * sz := Nat.mul_le_mul_right _ hn
  omega
 ·injection h with h
  subst h
  exact ⟨w.heap.size, 0, cur, rfl, heap_alloc_new w _, by omega, by simpa using hx⟩
end
def Src (w : World) (sz : Nat) (x : Value) (m : Nat) (news : List Value) : Prop :=
 news.length = m * sz ∧ ∃ a c, x = .slice a m c ∧ Rd w w.heap.size a news
section
variable {P : Program} {w : World}
theorem Src.first {sz : Nat} {x : Value} {m : Nat} {news : List Value} (h : Src w sz x m news) : (Builtin.firstCells sz m x).run P w = .ok news.toArray w ∧ (Builtin.lenOf x).run P w = .ok m w := by
 obtain ⟨hl, a, c, rfl, hr⟩ := h
 refine ⟨?_, rfl⟩
 rcases Nat.eq_zero_or_pos news.length with h0 | h0
 ·have hn : news = [] := List.eq_nil_of_length_eq_zero h0
  subst hn
  have hm : m * sz = 0 := by simpa using hl.symm
  cases a with
  | none => rfl
  | some ad => simp [Builtin.firstCells, hm, loadCells, loadCellsFrom]
 ·obtain ⟨g, off, rfl, _, _, hc⟩ := hr h0
  refine run_firstCells_some w sz m ⟨g, off, none⟩ m c news hl fun j u hu => ?_
  have := hc j u hu
  have hadd : (⟨g, off, none⟩ : Addr).add j = ⟨g, off + j, none⟩ := by unfold Addr.add; split <;> simp_all
  rwa [hadd]
theorem add_lit' (g off j : Nat) : (⟨g, off, none⟩ : Addr).add j = ⟨g, off + j, none⟩ := by unfold Addr.add; split <;> simp_all
theorem setCells_block (g : Nat) (e : TypeId) : ∀ (news : List Value) (w : World) (off : Nat) (cur : Array Value), w.heap[g]? = some (.cells cur e (0, 0)) → off + news.length ≤ cur.size →
  ∃ cur', (w.setCells g off news).heap[g]? = some (.cells cur' e (0, 0)) ∧ cur'.size = cur.size ∧ cur'.toList = cur.toList.take off ++ news ++ cur.toList.drop (off + news.length)
 | [], w, off, cur, hg, _ => ⟨cur, by simpa [World.setCells] using hg, rfl, by simp⟩
 | x :: r, w, off, cur, hg, hs => by
  simp only [List.length_cons] at hs
  obtain ⟨cur', h1, h2, h3⟩ := setCells_block g e r (w.setCell ⟨g, off, none⟩ x) (off + 1) (cur.setIfInBounds off x) (set_at hg off x) (by simp; omega)
  refine ⟨cur', by simpa [World.setCells] using h1, by simpa using h2, ?_⟩
  rw [h3]
  have hlt : off < cur.toList.length := by simp; omega
  simp only [Array.toList_setIfInBounds, List.length_cons]
  rw [List.take_add_one, List.getElem?_set_self hlt, List.take_set_of_le (Nat.le_refl _), List.drop_set_of_lt (by omega)]
  simp [Nat.add_assoc, Nat.add_comm 1]
theorem run_append_Own (t t' ty e : TypeId) (i : TypeInfo) (z : Value) (sz bytes : Nat) (ht : P.underlying t = some (.slice e)) (ht' : ∃ e', P.underlying t' = some (.slice e'))
  (hi : P.info? e = some i) (hz : i.zero = some z) (hsize : i.size = sz) (hby : i.bytes = bytes) (hzs : z.cells.size = sz)
  (v : Value) (n : Nat) (xs : List Value) (hown : Own w e sz v n xs) (x : Value) (m : Nat) (news : List Value) (hx : Src w sz x m news) (h1 : ∀ u ∈ news, u.oneCell' = true)
  (h63 : n + m ≤ maxLen) (hbytes : (n + m) * bytes ≤ 140737488355328) :
  ∃ v' w', (Builtin.append_ #[t, t'] ty #[v, x]).run P w = .ok v' w' ∧ Own w' e sz v' (n + m) (xs ++ news) ∧ Kp (fun k => v.ownBlock = some k) w w' ∧
   (v'.ownBlock = v.ownBlock ∨ ∃ g, v'.ownBlock = some g ∧ w.heap.size ≤ g) := by
 obtain ⟨hl, a, cap, rfl, hnc, hcm, hnil, hblk⟩ := hown
 obtain ⟨hfc, hln⟩ := hx.first (P := P)
 have hnl := hx.1
 obtain ⟨e', ht'⟩ := ht'
 by_cases hroom : n + m ≤ cap
 ·cases a with
  | none =>
   have h0 := hnil rfl
   have hn : n = 0 := by omega
   have hm : m = 0 := by omega
   subst hn; subst hm
   have hne : news = [] := List.eq_nil_of_length_eq_zero (by simpa using hnl)
   subst hne
   refine ⟨.slice none 0 cap, w, ?_, ⟨by simpa using hl, none, cap, by simp, by omega, hcm, hnil, fun _ h => by cases h⟩, Kp.refl _ _, .inl rfl⟩
   simp [Builtin.append_, run_underlying ht, run_underlying ht', sizeOf, typeInfo, hi, hln, hsize, hfc]
  | some ad =>
   obtain ⟨g, off, cur, rfl, hg, hfit, hcur⟩ := hblk ad rfl
   have hle : off + n * sz + news.length ≤ cur.size := by
    rw [hnl]
    have : (n + m) * sz ≤ cap * sz := Nat.mul_le_mul_right _ hroom
    rw [Nat.add_mul] at this
    omega
   have hst := run_storeCells_cells (P := P) g (off + n * sz) news 0 w (by
     intro j hj
     rw [Nat.add_zero, cell_at hg]
     simp; omega) (by intro j _; exact free_at hg _) h1
   obtain ⟨cur', hg', hsz', hcur'⟩ := setCells_block g e news w (off + n * sz) cur hg hle
   have hkp : Kp (fun k => (Value.slice (some ⟨g, off, none⟩) n cap).ownBlock = some k) w (w.setCells g (off + n * sz) news) := by
    have key : ∀ (l : List Value) (o : Nat) (a : World), Kp (One g) a (a.setCells g o l) := by
     intro l
     induction l with
     | nil => intro o a; exact Kp.refl _ _
     | cons u l ih =>
      intro o a
      have h1 : Kp (One g) a (a.setCell ⟨g, o, none⟩ u) := (Kp.refl (One g) a).setCell (p := ⟨g, o, none⟩) (.inl rfl) u
      have h2 := h1.trans_same (ih (o + 1) (a.setCell ⟨g, o, none⟩ u))
      simpa [World.setCells] using h2
    exact (key news _ w).mono fun k _ hk => by rw [show k = g from hk]; rfl
   refine ⟨.slice (some ⟨g, off, none⟩) (n + m) cap, w.setCells g (off + n * sz) news, ?_, ⟨?_, some ⟨g, off, none⟩, cap, rfl, hroom, hcm, fun h => (by cases h), fun ad h => ?_⟩, hkp, .inl rfl⟩
   ·simp only [Nat.add_zero] at hst
    simp [Builtin.append_, run_underlying ht, run_underlying ht', sizeOf, typeInfo, hi, hln, hsize, hfc, hroom, add_lit', hst]
   ·rw [List.length_append, hl, hnl, Nat.add_mul]
   ·injection h with h
    subst h
    refine ⟨g, off, cur', rfl, hg', by rw [hsz']; exact hfit, ?_⟩
    rw [hcur', ← hcur]
    have e1 : (cur.toList.take (off + n * sz) ++ news ++ cur.toList.drop (off + n * sz + news.length)).drop off = (cur.toList.drop off).take (n * sz) ++ news ++ cur.toList.drop (off + n * sz + news.length) := by
     have hlt : off ≤ (cur.toList.take (off + n * sz)).length := by simp; omega
     rw [List.append_assoc, List.drop_append_of_le_length hlt, List.append_assoc]
     congr 1
     rw [List.drop_take]
     congr 1
     omega
    rw [e1]
    have e2 : ((cur.toList.drop off).take (n * sz) ++ news).length = (n + m) * sz := by rw [hcur, List.length_append, hl, hnl, Nat.add_mul]
    rw [← e2, List.take_left]
 ·have hge := grownCap_ge w (n + m) cap e
  have hcm' : grownCap w (n + m) cap e ≤ maxLen := grownCap_le_maxLen w (n + m) cap e h63
  have hold : (Builtin.firstCells sz n (.slice a n cap)).run P w.drew = .ok xs.toArray w.drew := by
   cases a with
   | none =>
    have h0 := hnil rfl
    have hn : n = 0 := by omega
    subst hn
    have : xs = [] := List.eq_nil_of_length_eq_zero (by simpa using hl)
    subst this
    rfl
   | some ad =>
    obtain ⟨g, off, cur, rfl, hg, hfit, hcur⟩ := hblk ad rfl
    refine run_firstCells_some w.drew sz n ⟨g, off, none⟩ n cap xs hl fun j u hu => ?_
    rw [add_lit', World.cell?_drew, cell_at hg]
    rw [← hcur, List.getElem?_take] at hu
    split at hu
    ·rw [List.getElem?_drop] at hu
     simpa using hu
    ·cases hu
  have hfc' : (Builtin.firstCells sz m x).run P w.drew = .ok news.toArray w.drew := (Src.first (w := w.drew) (P := P) ⟨hx.1, hx.2⟩).1
  have h63' : ¬ (9223372036854775807 < ((n + m : Nat) : Int)) := by simp only [maxLen] at h63; omega
  have hfit : Builtin.nextslicecap (n + m) cap * bytes ≤ 281474976710656 := growslice_fits (by omega) hbytes
  refine ⟨.slice (some ⟨w.heap.size, 0, none⟩) (n + m) (grownCap w (n + m) cap e), w.drew.alloc (.cells (xs.toArray ++ news.toArray ++ Builtin.zeroCells z.cells (grownCap w (n + m) cap e - (n + m))) e), ?_, ?_, ?_, .inr ⟨w.heap.size, rfl, Nat.le_refl _⟩⟩
  ·have hfit' : ¬ (281474976710656 < Builtin.nextslicecap (n + m) cap * bytes) := by omega
   have hn1 : ¬ ((n : Int) + m > 9223372036854775807) := by simp only [maxLen] at h63; omega
   simp [Builtin.append_, run_underlying ht, run_underlying ht', sizeOf, typeInfo, hi, hln, hsize, hby, hroom, hfit', hold, hfc', zeroValue, hz, IntKind.max, IntKind.signed, IntKind.bits, hn1, Question.forced, newRow]
   refine ⟨rfl, ?_⟩
   have hta : (xs ++ news).toArray = xs.toArray ++ news.toArray := by simp
   rw [hta, Array.append_assoc]
   rfl
  ·refine Own.made w.drew e sz _ (n + m) (grownCap w (n + m) cap e) hge hcm' ?_ ?_
   ·simp only [Array.size_append, List.size_toArray, size_zeroCells, hzs, hl, hnl, ← Nat.add_mul]
    exact Nat.mul_le_mul_right _ (by omega)
   ·simp only [Array.toList_append, List.append_assoc]
    rw [← List.append_assoc, show (n + m) * sz = (xs ++ news).length from by rw [List.length_append, hl, hnl, Nat.add_mul]]
    exact List.take_left
  ·exact ((Kp.refl _ w).drew).alloc _
theorem wpList_append_run {ops : Array Oper} {rest : List Oper} {o : Oper} {a : Act} {Q : Exit → Act → World → Prop} {w' : World} {s x : Operand} {t t' : TypeId} {v xv v' : Value} (hgd : o.guard = none)
  (ho : o.op = .call { callee := .builtin .append, args := #[s, x], argTypes := #[t, t'] }) (hs : a.eval s = v) (hx : a.eval x = xv)
  (hrun : (Builtin.append_ #[t, t'] o.type #[v, xv]).run P w = .ok v' w') (h : wpList P ops Q rest (a.put o.dst v') w') : wpList P ops Q (o :: rest) a w :=
 wpList_plain hgd fun _ hK => by
  unfold Oper.wp execOp
  simp only [ho, resolve, invoke, builtin, Sem.run_bind, Sem.run_pure, Result.andThen_ok, List.map_toArray, List.map_cons, List.map_nil, hs, hx, hrun]
  exact hK _ _ h
end
end Go.Mer
namespace Go.Mer
open Go Go.RowKit
theorem Rd.kp {w w' : World} {a : Option Addr} {xs : List Value} (h : Rd w w.heap.size a xs) (hk : Kp No w w') : Rd w' w'.heap.size a xs := (h.keep hk fun _ _ x => x).mono hk.size (Nat.le_refl _)
theorem chunk_get {α : Type} (f : α → List Value) (c : Nat) (hf : ∀ x, (f x).length = c) : ∀ (L : List α) {k j : Nat} (h : k < L.length), j < c → (L.flatMap f)[k * c + j]? = (f L[k])[j]?
 | [], k, j, h, _ => by simp at h
 | x :: L, k, j, h, hj => by
  rw [List.flatMap_cons]
  cases k with
  | zero =>
   rw [List.getElem?_append_left (by rw [hf]; omega)]
   simp
  | succ k =>
   rw [List.getElem?_append_right (by rw [hf, Nat.add_mul]; omega), hf, show (k + 1) * c + j - c = k * c + j from by rw [Nat.add_mul]; omega]
   exact chunk_get f c hf L (by simpa using h) hj
theorem rd_chunk {α : Type} {w : World} {a : Option Addr} {f : α → List Value} {c : Nat} (hf : ∀ x, (f x).length = c) (h0 : 0 < c) {L : List α} (h : Rd w w.heap.size a (L.flatMap f)) {k : Nat} (hk : k < L.length) :
  ∃ g off, a = some ⟨g, off, none⟩ ∧ ∀ W, Kp No w W → ∀ j u, (f L[k])[j]? = some u → W.cell? ⟨g, off + k * c + j, none⟩ = some u := by
 have hpos : 0 < (L.flatMap f).length := by
  have h1 := chunk_get f c hf L hk (j := 0) h0
  have h2 : (f L[k])[0]? = some ((f L[k])[0]'(by rw [hf]; exact h0)) := List.getElem?_eq_getElem _
  rw [h2] at h1
  have := (List.getElem?_eq_some_iff.1 h1).1
  omega
 obtain ⟨g, off, ha, hg, _, hc⟩ := h hpos
 refine ⟨g, off, ha, fun W hW j u hu => ?_⟩
 have hj : j < c := by rw [← hf L[k]]; exact (List.getElem?_eq_some_iff.1 hu).1
 rw [hW.cell (p := ⟨g, off + k * c + j, none⟩) hg (fun x => x), Nat.add_assoc]
 exact hc _ u (by rw [chunk_get f c hf L hk hj]; exact hu)
theorem chunk_take {α : Type} (f : α → List Value) (c : Nat) (hf : ∀ x, (f x).length = c) : ∀ (L : List α) (k : Nat), (L.flatMap f).take (k * c) = (L.take k).flatMap f
 | [], k => by simp
 | x :: L, 0 => by simp
 | x :: L, k + 1 => by
  rw [List.flatMap_cons, List.take_succ_cons, List.flatMap_cons, List.take_append, hf, List.take_of_length_le (by rw [hf, Nat.add_mul]; omega), show (k + 1) * c - c = k * c from by rw [Nat.add_mul]; omega, chunk_take f c hf L k]
theorem chunk_drop {α : Type} (f : α → List Value) (c : Nat) (hf : ∀ x, (f x).length = c) : ∀ (L : List α) (k : Nat), (L.flatMap f).drop (k * c) = (L.drop k).flatMap f
 | [], k => by simp
 | x :: L, 0 => by simp
 | x :: L, k + 1 => by
  rw [List.flatMap_cons, List.drop_succ_cons, List.drop_append, hf, List.drop_of_length_le (by rw [hf, Nat.add_mul]; omega), show (k + 1) * c - c = k * c from by rw [Nat.add_mul]; omega, chunk_drop f c hf L k]
  rfl
theorem chunk_len {α : Type} (f : α → List Value) (c : Nat) (hf : ∀ x, (f x).length = c) : ∀ (L : List α), (L.flatMap f).length = L.length * c
 | [] => by simp
 | x :: L => by rw [List.flatMap_cons, List.length_append, hf, chunk_len f c hf L, List.length_cons, Nat.add_mul]; omega
theorem chunk_set {α : Type} (f : α → List Value) (c : Nat) (hf : ∀ x, (f x).length = c) : ∀ (L : List α) {k j : Nat} (h : k < L.length) (_ : j < c) {x : α} {u : Value} (_ : (f L[k]).set j u = f x), (L.flatMap f).set (k * c + j) u = (L.set k x).flatMap f
 | [], k, j, h, _, _, _, _ => by simp at h
 | y :: L, 0, j, h, hj, x, u, hx => by
  rw [List.flatMap_cons, List.set_cons_zero, List.flatMap_cons, Nat.zero_mul, Nat.zero_add, List.set_append_left _ _ (by rw [hf]; exact hj)]
  rw [show (f y).set j u = f x from hx]
 | y :: L, k + 1, j, h, hj, x, u, hx => by
  rw [List.flatMap_cons, List.set_cons_succ, List.flatMap_cons, List.set_append_right _ _ (by rw [hf, Nat.add_mul]; omega), hf, show (k + 1) * c + j - c = k * c + j from by rw [Nat.add_mul]; omega, chunk_set f c hf L (by simpa using h) hj hx]
theorem own_set {w : World} {e : TypeId} {g off n cap sz : Nat} {xs : List Value} (h : Own w e sz (.slice (some ⟨g, off, none⟩) n cap) n xs) (i : Nat) (hi : i < n * sz) (u : Value) :
  Own (w.setCell ⟨g, off + i, none⟩ u) e sz (.slice (some ⟨g, off, none⟩) n cap) n (xs.set i u) := by
 obtain ⟨hl, a, cap', hv, h1, h2, h3, h4⟩ := h
 injection hv with hv1 hv2 hv3
 subst hv3
 obtain ⟨g', off', cur, had, hg, hfit, hx⟩ := h4 ⟨g, off, none⟩ hv1.symm
 injection had with e1 e2
 subst e1; subst e2
 have hle : n * sz ≤ cap * sz := Nat.mul_le_mul_right _ h1
 refine ⟨by simpa using hl, some ⟨g, off, none⟩, cap, rfl, h1, h2, fun h => (by cases h), fun ad had => ?_⟩
 injection had with had
 subst had
 refine ⟨g, off, cur.setIfInBounds (off + i) u, rfl, set_at hg (off + i) u, by simpa using hfit, ?_⟩
 rw [← hx]
 apply List.ext_getElem?
 intro j
 rw [List.getElem?_take, List.getElem?_set, List.getElem?_take]
 by_cases hj : j < n * sz
 ·simp only [hj, if_true]
  rw [List.getElem?_drop, List.getElem?_drop, Array.toList_setIfInBounds, List.getElem?_set]
  have hsz : off + i < cur.toList.length := by simp; omega
  have hlen : i < ((cur.toList.drop off).take (n * sz)).length := by simp; omega
  by_cases hij : i = j
  ·subst hij
   simp only [if_pos hsz, if_pos hlen]
  ·rw [if_neg (by omega), if_neg hij]
 ·rw [if_neg hj, if_neg hj]
  by_cases hij : i = j
  ·subst hij; omega
  ·rw [if_neg hij]
section
variable {α : Type} {f : α → List Value} {E sz : Nat}
def RowRel (E sz : Nat) (f : α → List Value) (w0 wr : World) (v : Value) (n : Nat) (Q : List α) : Prop :=
 n = Q.length ∧ Own wr E sz v n (Q.flatMap f) ∧ (∀ g, v.ownBlock = some g → w0.heap.size ≤ g) ∧ Kp No w0 wr
theorem RowRel.keep {w0 wr W : World} {v : Value} {n : Nat} {Q : List α} (h : RowRel E sz f w0 wr v n Q) (hk : Kp No wr W) : RowRel E sz f w0 W v n Q := ⟨h.1, h.2.1.keep hk fun _ _ x => x, h.2.2.1, h.2.2.2.trans_same hk⟩
theorem RowRel.nil (E sz : Nat) (f : α → List Value) (w : World) : RowRel E sz f w w (.slice none 0 0) 0 [] := ⟨rfl, by simpa using Own.nil w E sz, fun g h => by simp [Value.ownBlock] at h, Kp.refl _ _⟩
theorem RowRel.made {w0 W : World} (h : Kp No w0 W) : RowRel E sz f w0 (W.alloc (.cells #[] E)) (.slice (some ⟨W.heap.size, 0, none⟩) 0 0) 0 [] :=
 ⟨rfl, Own.made W E sz #[] 0 0 (Nat.le_refl _) (by simp [maxLen]) (by simp) (by simp), fun g hg => by
  have hg : W.heap.size = g := by simpa [Value.ownBlock] using hg
  have := h.size
  omega, h.alloc _⟩
theorem RowRel.app {P : Program} {T bytes : Nat} (hT : P.underlying T = some (.slice E)) (hE : (P.info? E).map (fun i => ((i.zero.map fun z => z.cells.size), i.size, i.bytes)) = some (some sz, sz, bytes)) (hone : ∀ x, ∀ u ∈ f x, u.oneCell' = true)
  {w0 W : World} {v : Value} {n : Nat} {Q : List α} (h : RowRel E sz f w0 W v n Q) (N : List α) {x : Value} {m : Nat} (hsrc : Src W sz x m (N.flatMap f)) (hm : m = N.length) (hn : n + m ≤ maxLen) (hb : (n + m) * bytes ≤ 140737488355328) :
  ∃ a' c' W', (Builtin.append_ #[T, T] T #[v, x]).run P W = .ok (.slice a' (n + m) c') W' ∧ RowRel E sz f w0 W' (.slice a' (n + m) c') (n + m) (Q ++ N) ∧ Kp (fun k => v.ownBlock = some k) W W' := by
 obtain ⟨rfl, h3, h4, h6⟩ := h
 obtain ⟨i0, hi, hz⟩ := Option.map_eq_some_iff.1 hE
 injection hz with hz0 hz
 injection hz with hz1 hz2
 obtain ⟨z, hz, hz3⟩ := Option.map_eq_some_iff.1 hz0
 obtain ⟨v', w', hrun, ho, hkp, hblk⟩ := run_append_Own (P := P) T T T E i0 z sz bytes hT ⟨_, hT⟩ hi hz hz1 hz2 hz3 v Q.length _ h3 x m _ hsrc
  (fun u hu => by obtain ⟨y, _, hy⟩ := List.mem_flatMap.1 hu; exact hone y u hy) hn hb
 obtain ⟨_, a', c', rfl, _⟩ := id ho
 refine ⟨a', c', w', hrun, ⟨by rw [List.length_append]; omega, by rw [List.flatMap_append]; exact ho, fun g' hg' => ?_, h6.trans hkp fun i hi hs => by
  have := h4 i hs
  omega⟩, hkp⟩
 rcases hblk with hb | ⟨g2, hb, hb2⟩
 ·exact h4 g' (hb.symm.trans hg')
 ·obtain rfl := Option.some.inj (hb.symm.trans hg')
  have h7 := h6.size
  omega
theorem one_src (hf : ∀ x, (f x).length = sz) {W : World} {g : Nat} {x : α} {cs : Array Value} {t : TypeId} (hg : W.heap[g]? = some (.cells cs t (0, 0))) (hcs : cs.toList = f x) : Src W sz (.slice (some ⟨g, 0, none⟩) 1 1) 1 ([x].flatMap f) := by
 refine ⟨by rw [chunk_len f sz hf]; rfl, some ⟨g, 0, none⟩, 1, rfl, Rd.row (n := sz) hg ?_ (get_lt hg) (Nat.le_refl _)⟩
 rw [List.drop_zero, hcs, List.flatMap_cons, List.flatMap_nil, List.append_nil]
 exact List.take_of_length_le (by rw [hf]; omega)
end
theorem Own.place {w : World} {e : TypeId} {sz n cap : Nat} {a : Option Addr} {xs : List Value} (h : Own w e sz (.slice a n cap) n xs) (hn : 0 < n * sz) : ∃ g off, a = some ⟨g, off, none⟩ ∧ g < w.heap.size ∧ (∀ i, w.frozen? ⟨g, i, none⟩ = false) := by
 obtain ⟨hl, a', cap', hv, h1, h2, h3, h4⟩ := h
 injection hv with hv1 hv2 hv3
 subst hv1; subst hv3
 cases a with
 | none =>
  have := h3 rfl
  subst this
  have : n = 0 := by omega
  subst this
  simp at hn
 | some ad =>
  obtain ⟨g, off, cur, rfl, hg, _⟩ := h4 ad rfl
  exact ⟨g, off, rfl, get_lt hg, fun i => free_at hg i⟩
end Go.Mer
namespace Go.Mer
open Go
def depsOn (ops : Array Oper) (i : Nat) : Array Bool :=
 (List.range ops.size).foldl (fun acc j => acc.push (match ops[j]? with
  | some o => o.after.any fun e => Region.binds .any e && (e.on == i || acc.getD e.on false)
  | none => false)) #[]
def depsOk (ops : Array Oper) (ks : List Nat) (listed dep : Array Bool) (i : Nat) : Bool :=
 (List.range ops.size).all fun j =>
  (!dep.getD j false || (j != i && !listed.getD j true && match ops[j]? with
   | some o => o.after.any fun e => Region.binds .any e && (e.on == i || dep.getD e.on false)
   | none => false)) &&
  (dep.getD j false || j == i || listed.getD j true || ks.getD j 2 != 2)
def ordFrom (ops : Array Oper) (ks : List Nat) : List Nat → Array Bool → Bool
 | [], listed => (Region.ready .any ops listed).isEmpty
 | i :: rest, listed =>
  (Region.ready .any ops listed).contains i && Region.free .any ops listed i &&
  (match ks.getD i 2 with
   | 0 => true
   | 1 => depsOk ops ks listed (depsOn ops i) i
   | 2 => Region.ready .any ops listed == [i]
   | _ => false) &&
  ordFrom ops ks rest (listed.setIfInBounds i true)
def ordB (ops : Array Oper) (ks ord : List Nat) : Bool := Region.noSelect ops && ord.length == ops.size && ordFrom ops ks ord (Array.replicate ops.size false)
def Dr (w : World) : World → Prop := fun w' => ∃ n, w' = w.drewN n
section
variable {P : Program} {ops : Array Oper} {Q : Exit → Act → World → Prop} {S : World → Prop} {ks : List Nat}
def anyK (P : Program) (ops : Array Oper) (ks : List Nat) (S : World → Prop) (Q : Exit → Act → World → Prop) : Nat → Array Bool → Act → World → Prop
 | 0, listed, a, w => Region.ready .any ops listed = [] ∧ ∀ n, Q .normal a (w.drewN n)
 | fuel + 1, listed, a, w =>
  (Region.ready .any ops listed = [] → ∀ n, Q .normal a (w.drewN n)) ∧
  ∀ i ∈ Region.ready .any ops listed, ∀ o, ops[i]? = some o →
   if ks.getD i 2 = 2 then ∀ n, wpOp P ops Q i (fun a' w' => S w' ∧ anyK P ops ks S Q fuel (listed.setIfInBounds i true) a' w') a (w.drewN n)
   else ∃ v, YieldsIn P ops (Dr w) o v a ∧ anyK P ops ks S Q fuel (listed.setIfInBounds i true) (a.put o.dst v) w
theorem wpAny_of_anyK : ∀ (fuel : Nat) (listed : Array Bool) (a : Act) (w : World) (n : Nat), anyK P ops ks S Q fuel listed a w → wpAny P .any ops Q fuel listed a (w.drewN n)
 | 0, _, _, _, n, h => ⟨h.1, h.2 n⟩
 | fuel + 1, listed, a, w, n, h => by
  refine ⟨fun h0 => h.1 h0 n, fun i hi => ?_⟩
  obtain ⟨_, o, ho, _⟩ := mem_ready.1 hi
  have h2 := h.2 i hi o ho
  split at h2
  ·exact wpOp_mono (fun a w hh => wpAny_of_anyK fuel _ a w 0 hh.2) (h2 n)
  ·obtain ⟨v, hy, hk⟩ := h2
   exact wpOp_of_qOp (C := Dr w) (K := fun a => anyK P ops ks S Q fuel (listed.setIfInBounds i true) a w) ⟨n, rfl⟩ (fun a' w' ⟨m, hw'⟩ hh => by subst hw'; exact wpAny_of_anyK fuel _ a' w m hh) (hy.qOp ho hk)
theorem yieldsIn_of_if {w : World} {o : Oper} {v : Value} {a : Act} (hS : ∀ n, S (w.drewN n)) (h : YieldsIf P ops S o v a) : YieldsIn P ops (Dr w) o v a :=
 h.imp (fun ⟨x, y⟩ => ⟨x, fun w' ⟨n, hn⟩ => by subst hn; unfold Oper.quietAt; rw [y _ (hS n)]; exact ⟨rfl, rfl⟩⟩) id
theorem anyK_held {i : Nat} {oi : Oper} {v : Value} (hSd : ∀ w n, S w → S (w.drewN n)) (hi : ops[i]? = some oi) (hki : ks.getD i 2 ≠ 2) (hsel : ∀ (j : Nat) (o : Oper) cs b, ops[j]? = some o → o.op ≠ .select cs b)
  (hQ : ∀ c a w, Q (.panic c) (a.put oi.dst v) w → Q (.panic c) a w) :
  ∀ (fuel : Nat) (listed : Array Bool) (a : Act) (w : World), S w →
   (∀ j oj, ops[j]? = some oj → j ≠ i → listed.getD j true = false → (∀ e ∈ oj.after, Region.binds .any e = true → e.on ≠ i) → oi.apart ops oj = true) →
   i ∈ Region.ready .any ops listed → YieldsIf P ops S oi v a →
   anyK P ops ks S Q fuel (listed.setIfInBounds i true) (a.put oi.dst v) w → anyK P ops ks S Q (fuel + 1) listed a w := by
 intro fuel
 induction fuel with
 | zero =>
  intro listed a w hS _ hr hy H
  refine ⟨fun h => (by rw [h] at hr; cases hr), fun j hj o ho => ?_⟩
  by_cases hji : j = i
  ·subst hji
   rw [hi] at ho; injection ho with ho; subst ho
   rw [if_neg hki]
   exact ⟨v, yieldsIn_of_if (fun n => hSd w n hS) hy, H⟩
  ·have := ready_mono hj hji
   rw [H.1] at this
   cases this
 | succ fuel ih =>
  intro listed a w hS hfree hr hy H
  refine ⟨fun h => (by rw [h] at hr; cases hr), fun j hj o ho => ?_⟩
  by_cases hji : j = i
  ·subst hji
   rw [hi] at ho; injection ho with ho; subst ho
   rw [if_neg hki]
   exact ⟨v, yieldsIn_of_if (fun n => hSd w n hS) hy, H⟩
  ·have h1 := H.2 j (ready_mono hj hji) o ho
   obtain ⟨hjun, oj, hoj, hall⟩ := mem_ready.1 hj
   rw [ho] at hoj; injection hoj with hoj; subst hoj
   have hnot : ∀ e ∈ o.after, Region.binds .any e = true → e.on ≠ i := fun e he hb heq => by
    have h1 := hall e he hb
    have h0 := (mem_ready.1 hr).1
    rw [heq] at h1
    rcases Nat.lt_or_ge i listed.size with h' | h'
    ·simp [h'] at h0 h1; rw [h0] at h1; cases h1
    ·simp [Array.getElem?_eq_none h'] at h1
   have hap := hfree j o ho hji hjun hnot
   have hfree' : ∀ k ok, ops[k]? = some ok → k ≠ i → (listed.setIfInBounds j true).getD k true = false →
     (∀ e ∈ ok.after, Region.binds .any e = true → e.on ≠ i) → oi.apart ops ok = true := fun k ok hk hki hun hno => by
    refine hfree k ok hk hki ?_ hno
    by_cases hjk : j = k
    ·subst hjk; exact hjun
    ·rw [getD_set_ne true hjk] at hun; exact hun
   have hcm : (listed.setIfInBounds i true).setIfInBounds j true = (listed.setIfInBounds j true).setIfInBounds i true := Array.setIfInBounds_comm _ _ (fun e => hji e.symm)
   by_cases hk2 : ks.getD j 2 = 2
   ·rw [if_pos hk2] at h1 ⊢
    intro n
    have h2 := wpOp_putIf ho hap (fun cs b => hsel i oi cs b hi) (fun cs b => hsel j o cs b ho) hQ hy (h1 n)
    refine wpOp_mono (fun a' w' h3 => ⟨h3.2.1, ih (listed.setIfInBounds j true) a' w' h3.2.1 hfree' (ready_mono hr (Ne.symm hji)) h3.1 ?_⟩) h2
    rw [← hcm]
    exact h3.2.2
   ·rw [if_neg hk2] at h1 ⊢
    obtain ⟨u, hu, hK⟩ := h1
    obtain ⟨a1, a2, a3⟩ := Oper.apart_spec hap
    refine ⟨u, hu.of_same (execOp_put o (fun cs b => hsel j o cs b ho) a oi.dst v a1).symm (wanted_put o a oi.dst v a1).symm, ?_⟩
    refine ih (listed.setIfInBounds j true) _ w hS hfree' (ready_mono hr (Ne.symm hji))
     (hy.of_same (execOp_put oi (fun cs b => hsel i oi cs b hi) a o.dst u a3) (wanted_put oi a o.dst u a3)) ?_
    rw [← hcm, ← Act.put_comm a v u a2]
    exact hK
theorem anyK_quiet {w : World} {i : Nat} {oi : Oper} {v : Value} {dep : Array Bool} (hi : ops[i]? = some oi) (hki : ks.getD i 2 ≠ 2) (hsel : ∀ (j : Nat) (o : Oper) cs b, ops[j]? = some o → o.op ≠ .select cs b) :
  ∀ (fuel : Nat) (listed : Array Bool) (a : Act),
   (∀ j oj, ops[j]? = some oj → j ≠ i → listed.getD j true = false → (∀ e ∈ oj.after, Region.binds .any e = true → e.on ≠ i) → oi.apart ops oj = true) →
   (∀ j, dep.getD j false = true → j ≠ i ∧ listed.getD j true = false ∧ ∃ o, ops[j]? = some o ∧ ∃ e ∈ o.after, Region.binds .any e = true ∧ (e.on = i ∨ dep.getD e.on false = true)) →
   (∀ j oj, ops[j]? = some oj → dep.getD j false = false → j ≠ i → listed.getD j true = false → ks.getD j 2 ≠ 2) →
   i ∈ Region.ready .any ops listed → YieldsIn P ops (Dr w) oi v a →
   anyK P ops ks S Q fuel (listed.setIfInBounds i true) (a.put oi.dst v) w → anyK P ops ks S Q (fuel + 1) listed a w := by
 intro fuel
 induction fuel with
 | zero =>
  intro listed a _ _ _ hr hy H
  refine ⟨fun h => (by rw [h] at hr; cases hr), fun j hj o ho => ?_⟩
  by_cases hji : j = i
  ·subst hji
   rw [hi] at ho; injection ho with ho; subst ho
   rw [if_neg hki]
   exact ⟨v, hy, H⟩
  ·have := ready_mono hj hji
   rw [H.1] at this
   cases this
 | succ fuel ih =>
  intro listed a hfree hdep hkind hr hy H
  refine ⟨fun h => (by rw [h] at hr; cases hr), fun j hj o ho => ?_⟩
  by_cases hji : j = i
  ·subst hji
   rw [hi] at ho; injection ho with ho; subst ho
   rw [if_neg hki]
   exact ⟨v, hy, H⟩
  ·have h1 := H.2 j (ready_mono hj hji) o ho
   obtain ⟨hjun, oj, hoj, hall⟩ := mem_ready.1 hj
   rw [ho] at hoj; injection hoj with hoj; subst hoj
   have unl : ∀ k, listed.getD k true = false → listed.getD k false = true → False := fun k h0 h1 => by
    rcases Nat.lt_or_ge k listed.size with h' | h'
    ·simp [h'] at h0 h1; rw [h0] at h1; cases h1
    ·simp [Array.getElem?_eq_none h'] at h1
   have hnot : ∀ e ∈ o.after, Region.binds .any e = true → e.on ≠ i := fun e he hb heq =>
    unl i (mem_ready.1 hr).1 (heq ▸ hall e he hb)
   have hnd : dep.getD j false = false := by
    cases hd : dep.getD j false with
    | false => rfl
    | true =>
     obtain ⟨_, _, o', ho', e, he, hb, h⟩ := hdep j hd
     rw [ho] at ho'; injection ho' with ho'; subst ho'
     rcases h with h | h
     ·exact absurd h (hnot e he hb)
     ·exact (unl e.on (hdep e.on h).2.1 (hall e he hb)).elim
   have hap := hfree j o ho hji hjun hnot
   have hset : ∀ k, (listed.setIfInBounds j true).getD k true = false → listed.getD k true = false := fun k hun => by
    by_cases hjk : j = k
    ·subst hjk; exact hjun
    ·rw [getD_set_ne true hjk] at hun; exact hun
   have hfree' : ∀ k ok, ops[k]? = some ok → k ≠ i → (listed.setIfInBounds j true).getD k true = false →
     (∀ e ∈ ok.after, Region.binds .any e = true → e.on ≠ i) → oi.apart ops ok = true := fun k ok hk hki hun hno => hfree k ok hk hki (hset k hun) hno
   have hcm : (listed.setIfInBounds i true).setIfInBounds j true = (listed.setIfInBounds j true).setIfInBounds i true := Array.setIfInBounds_comm _ _ (fun e => hji e.symm)
   have hk2 := hkind j o ho hnd hji hjun
   rw [if_neg hk2] at h1 ⊢
   obtain ⟨u, hu, hK⟩ := h1
   obtain ⟨a1, a2, a3⟩ := Oper.apart_spec hap
   refine ⟨u, hu.of_same (execOp_put o (fun cs b => hsel j o cs b ho) a oi.dst v a1).symm (wanted_put o a oi.dst v a1).symm, ?_⟩
   refine ih (listed.setIfInBounds j true) _ hfree' (fun k hk => ?_) (fun k ok hk h1 h2 h3 => hkind k ok hk h1 h2 (hset k h3)) (ready_mono hr (Ne.symm hji))
    (hy.of_same (execOp_put oi (fun cs b => hsel i oi cs b hi) a o.dst u a3) (wanted_put oi a o.dst u a3)) ?_
   ·obtain ⟨k1, k2, k3⟩ := hdep k hk
    refine ⟨k1, ?_, k3⟩
    rw [getD_set_ne true (fun e => by subst e; rw [hnd] at hk; cases hk)]
    exact k2
   ·rw [← hcm, ← Act.put_comm a v u a2]
    exact hK
def only (Q : Exit → Act → World → Prop) : Exit → Act → World → Prop
 | .normal, a, w => Q .normal a w
 | _, _, _ => False
def wpOrd (P : Program) (ops : Array Oper) (ks : List Nat) (S : World → Prop) (Q : Exit → Act → World → Prop) : List Nat → Act → World → Prop
 | [], a, w => ∀ n, Q .normal a (w.drewN n)
 | i :: rest, a, w => ∃ o, ops[i]? = some o ∧
  match ks.getD i 2 with
  | 0 => ∃ v, YieldsIf P ops S o v a ∧ wpOrd P ops ks S Q rest (a.put o.dst v) w
  | 1 => ∃ v, YieldsIn P ops (Dr w) o v a ∧ wpOrd P ops ks S Q rest (a.put o.dst v) w
  | _ => ∀ n, wpOp P ops (only Q) i (fun a' w' => S w' ∧ wpOrd P ops ks S Q rest a' w') a (w.drewN n)
theorem anyK_of_ord (hSd : ∀ w n, S w → S (w.drewN n)) (hs : Region.noSelect ops = true) : ∀ (ord : List Nat) (listed : Array Bool) (a : Act) (w : World), S w →
  ordFrom ops ks ord listed = true → wpOrd P ops ks S Q ord a w → anyK P ops ks S (only Q) ord.length listed a w
 | [], listed, a, w, _, hB, h => ⟨by simpa [ordFrom] using hB, h⟩
 | i :: rest, listed, a, w, hS, hB, h => by
  obtain ⟨o, ho, h⟩ := h
  simp only [ordFrom, Bool.and_eq_true] at hB
  obtain ⟨⟨⟨hr, hf⟩, hk⟩, hB'⟩ := hB
  have hready : i ∈ Region.ready .any ops listed := by simpa using hr
  have hko : ks.getD i 2 = 0 ∨ ks.getD i 2 = 1 ∨ ks.getD i 2 = 2 := by
   split at hk
   ·rename_i h; exact .inl h
   ·rename_i h; exact .inr (.inl h)
   ·rename_i h; exact .inr (.inr h)
   ·cases hk
  rcases hko with hko | hko | hko
  ·rw [hko] at h
   obtain ⟨v, hy, hK⟩ := h
   exact anyK_held hSd ho (by omega) (Region.noSelect_spec hs) (fun _ _ _ h => h.elim) rest.length listed a w hS (Region.free_spec ho hf) hready hy (anyK_of_ord hSd hs rest _ _ _ hS hB' hK)
  ·rw [hko] at h hk
   obtain ⟨v, hy, hK⟩ := h
   simp only [depsOk, List.all_eq_true, List.mem_range, Bool.and_eq_true] at hk
   have hlt : ∀ j oj, ops[j]? = some oj → j < ops.size := fun j oj h => (Array.getElem?_eq_some_iff.1 h).1
   refine anyK_quiet (dep := depsOn ops i) ho (by omega) (Region.noSelect_spec hs) rest.length listed a (Region.free_spec ho hf) (fun j hj => ?_) (fun j oj hoj hd hne hun => ?_) hready hy (anyK_of_ord hSd hs rest _ _ _ hS hB' hK)
   ·have hjs : j < ops.size := by
     rcases Nat.lt_or_ge j (depsOn ops i).size with h' | h'
     ·have : (depsOn ops i).size = ops.size := by
       unfold depsOn
       have key : ∀ (l : List Nat) (acc : Array Bool) (f : Array Bool → Nat → Bool), (l.foldl (fun acc j => acc.push (f acc j)) acc).size = acc.size + l.length := by
        intro l
        induction l with
        | nil => intro acc f; simp
        | cons x l ih => intro acc f; simp only [List.foldl_cons, ih, Array.size_push, List.length_cons]; omega
       rw [key (List.range ops.size) #[] (fun acc j => match ops[j]? with
        | some o => o.after.any fun e => Region.binds .any e && (e.on == i || acc.getD e.on false)
        | none => false)]
       simp
      omega
     ·simp [Array.getElem?_eq_none h'] at hj
    have h1 := (hk j hjs).1
    rw [hj] at h1
    simp only [Bool.not_true, Bool.false_or, Bool.and_eq_true, bne_iff_ne, Bool.not_eq_true'] at h1
    obtain ⟨⟨h1, h2⟩, h3⟩ := h1
    refine ⟨h1, h2, ?_⟩
    split at h3
    ·rename_i oj hoj
     obtain ⟨e, he, hb⟩ := Array.any_eq_true'.1 h3
     simp only [Bool.and_eq_true, Bool.or_eq_true, beq_iff_eq] at hb
     exact ⟨oj, hoj, e, he, hb.1, hb.2⟩
    ·cases h3
   ·have h1 := (hk j (hlt j oj hoj)).2
    rw [hd] at h1
    simp only [Bool.false_or, Bool.or_eq_true, beq_iff_eq, bne_iff_ne] at h1
    rcases h1 with (h1 | h1) | h1
    ·exact absurd h1 hne
    ·rw [hun] at h1; cases h1
    ·exact h1
  ·rw [hko] at h hk
   have hk' : Region.ready .any ops listed = [i] := by simpa using hk
   refine ⟨fun h0 => (by rw [h0] at hk'; cases hk'), fun j hj oj hoj => ?_⟩
   rw [hk'] at hj
   simp only [List.mem_singleton] at hj
   subst hj
   rw [ho] at hoj; injection hoj with hoj; subst hoj
   rw [if_pos hko]
   exact fun n => wpOp_mono (fun a w hh => ⟨hh.1, anyK_of_ord hSd hs rest _ a w hh.1 hB' hh.2⟩) (h n)
theorem wp_only {o : Oper} {a : Act} {w : World} {K : Act → World → Prop} (h : o.wp P a w K (only Q)) : o.wp P a w K Q := by
 unfold Oper.wp at *
 generalize (execOp a.eval o).run P w = r at *
 cases r with
 | ok n w' =>
  cases n <;> simp only [Oper.upon] at h ⊢
  case value => exact h
  case skip => exact h
  case defer => exact h
  case row => exact h
  case enter f args =>
   refine Calls.mono h fun e w'' he => ?_
   cases e with
   | returned v => exact he
   | panicked c => exact he.elim
   | outgrown => obtain ⟨_, _, h⟩ := he; exact h.elim
 | halt x w' => cases x <;> simp only [Oper.upon] at h ⊢; exact h.elim
theorem wpAny_only : ∀ (fuel : Nat) (listed : Array Bool) (a : Act) (w : World), wpAny P .any ops (only Q) fuel listed a w → wpAny P .any ops Q fuel listed a w
 | 0, _, _, _, h => h
 | fuel + 1, listed, a, w, h => by
  refine ⟨h.1, fun i hi => ?_⟩
  have h2 := wpOp_mono (fun a w => wpAny_only fuel _ a w) (h.2 i hi)
  unfold wpOp at *
  split
  ·rename_i hn; simp only [hn] at h2; exact h2
  ·rename_i o ho
   simp only [ho] at h2
   split
   ·rename_i hw
    simp only [hw, if_true] at h2
    exact .inl (h2.elim wp_only fun ⟨_, _, _, hh⟩ => hh.elim)
   ·rename_i hw; simp only [hw] at h2; exact h2
theorem wp_region_held' {id : Nat} {a : Act} {w : World} {l : List Oper} (S : World → Prop) (ks ord : List Nat) (hm : P.follows .mixedOrders = true) (hB : ordB l.toArray ks ord = true)
  (hSd : ∀ w n, S w → S (w.drewN n)) (hS : S w) (h : wpOrd P l.toArray ks S Q ord a w) : (Code.region id l.toArray true).wp P Q a w := by
 simp only [ordB, Bool.and_eq_true, beq_iff_eq] at hB
 refine wp_region_any hm (wpAny_only _ _ _ _ ?_)
 have := wpAny_of_anyK _ (Array.replicate l.toArray.size false) a w 1 (anyK_of_ord hSd hB.1.1 ord _ a _ hS hB.2 h)
 rw [hB.1.2] at this
 exact this
theorem wp_region_ord {id : Nat} {a : Act} {w : World} {l : List Oper} (ks ord : List Nat) (hm : P.follows .mixedOrders = true) (hB : ordB l.toArray ks ord = true)
  (h : wpOrd P l.toArray ks (fun _ => True) Q ord a w) : (Code.region id l.toArray true).wp P Q a w :=
 wp_region_held' (fun _ => True) ks ord hm hB (fun _ _ _ => trivial) trivial h
theorem wpOrd_nil {a : Act} {w : World} (h : ∀ n, Q .normal a (w.drewN n)) : wpOrd P ops ks S Q [] a w := h
theorem wpOrd_pure {i : Nat} {o : Oper} {rest : List Nat} {a : Act} {w : World} (ho : ops[i]? = some o) (hk : ks.getD i 2 = 0) (hg : Region.wanted o (yielded ops a.tmps) = true)
  {v : Value} (hv : ∀ w0 : World, S w0 → (execOp a.eval o).run P w0 = .ok (.value v) w0) {A : Act} (hA : a.put o.dst v = A) (h : wpOrd P ops ks S Q rest A w) : wpOrd P ops ks S Q (i :: rest) a w := by
 subst hA
 refine ⟨o, ho, ?_⟩
 rw [hk]
 exact ⟨v, .inl ⟨hg, hv⟩, h⟩
theorem wpOrd_read {i : Nat} {o : Oper} {rest : List Nat} {a : Act} {w : World} (ho : ops[i]? = some o) (hk : ks.getD i 2 = 1) (hg : Region.wanted o (yielded ops a.tmps) = true)
  {v : Value} (hv : ∀ n, (execOp a.eval o).run P (w.drewN n) = .ok (.value v) (w.drewN n)) {A : Act} (hA : a.put o.dst v = A) (h : wpOrd P ops ks S Q rest A w) : wpOrd P ops ks S Q (i :: rest) a w := by
 subst hA
 refine ⟨o, ho, ?_⟩
 rw [hk]
 exact ⟨v, .inl ⟨hg, fun w' ⟨n, hn⟩ => by subst hn; unfold Oper.quietAt; rw [hv n]; exact ⟨rfl, rfl⟩⟩, h⟩
theorem wpOrd_call {i : Nat} {o : Oper} {rest : List Nat} {a : Act} {w : World} (ho : ops[i]? = some o) (hk : ks.getD i 2 = 1) (hg : Region.wanted o (yielded ops a.tmps) = true)
  {f : FuncId} {args : Array Value} (hv : ∀ n, (execOp a.eval o).run P (w.drewN n) = .ok (.enter f args) (w.drewN n))
  {v : Value} (hc : ∀ n, Calls P f args (w.drewN n) fun e w' => e = .returned v ∧ ∃ m, w' = (w.drewN n).drewN m) {A : Act} (hA : a.put o.dst v = A) (h : wpOrd P ops ks S Q rest A w) : wpOrd P ops ks S Q (i :: rest) a w := by
 subst hA
 refine ⟨o, ho, ?_⟩
 rw [hk]
 refine ⟨v, .inl ⟨hg, fun w' ⟨n, hn⟩ => ?_⟩, h⟩
 subst hn
 unfold Oper.quietAt
 rw [hv n]
 exact ⟨rfl, (hc n).mono fun e w'' ⟨he, m, hm⟩ => ⟨he, n + m, by rw [hm, World.drewN_drewN]⟩⟩
theorem wpOrd_skip {i : Nat} {o : Oper} {rest : List Nat} {a : Act} {w : World} (ho : ops[i]? = some o) (hk : ks.getD i 2 < 2) (hg : Region.wanted o (yielded ops a.tmps) = false)
  {A : Act} (hA : a.put o.dst undef = A) (h : wpOrd P ops ks S Q rest A w) : wpOrd P ops ks S Q (i :: rest) a w := by
 subst hA
 refine ⟨o, ho, ?_⟩
 have : ks.getD i 2 = 0 ∨ ks.getD i 2 = 1 := by omega
 rcases this with hk | hk <;> rw [hk]
 ·exact ⟨undef, .inr ⟨hg, rfl⟩, h⟩
 ·exact ⟨undef, .inr ⟨hg, rfl⟩, h⟩
theorem wpOrd_eff {i : Nat} {o : Oper} {rest : List Nat} {a : Act} {w : World} (ho : ops[i]? = some o) (hk : ks.getD i 2 = 2)
  (h : ∀ n, wpList P ops (fun e a' w' => e = .normal ∧ S w' ∧ wpOrd P ops ks S Q rest a' w') [o] a (w.drewN n)) : wpOrd P ops ks S Q (i :: rest) a w := by
 refine ⟨o, ho, ?_⟩
 rw [hk]
 intro n
 unfold wpOp
 simp only [ho]
 have h := h n
 unfold wpList at h
 have hn : ¬ LetsOut (fun e a' w' => e = Exit.normal ∧ S w' ∧ wpOrd P ops ks S Q rest a' w') := by
  rintro ⟨_, _, h, _⟩
  cases h
 split
 ·rename_i hw
  rw [if_pos hw] at h
  refine .inl ?_
  rcases h with h | ⟨_, h⟩
  ·unfold Oper.wp at *
   generalize (execOp a.eval o).run P (w.drewN n) = r at *
   cases r with
   | ok n w' =>
    cases n <;> simp only [Oper.upon, wpList] at h ⊢
    case value => exact h.2
    case skip => exact h.2
    case defer => exact h.2
    case row => exact Rows.mono h fun _ _ h => h.2
    case enter f args =>
     refine Calls.mono h fun e w'' he => ?_
     cases e with
     | returned v => exact he.2
     | panicked c => exact absurd he.1 (by simp)
     | outgrown => obtain ⟨_, _, h, _⟩ := he; exact absurd h (by simp)
   | halt x w' => cases x <;> simp only [Oper.upon] at h ⊢; exact absurd h.1 (by simp)
  ·exact (hn h).elim
 ·rename_i hw
  rw [if_neg hw] at h
  exact h.2
end
end Go.Mer
namespace Go.Mer
open Go Go.RowKit
variable {P : Program}
theorem wpList_load_w {ops : Array Oper} {rest : List Oper} {op : Oper} {a : Act} {w : World} {Q : Exit → Act → World → Prop} (hgd : op.guard = none) (ty : TypeId) (x : Operand) (ho : op.op = .load ty x)
  (b o : Nat) (hx : a.eval x = .pointer (some ⟨b, o, none⟩)) (cs : List Value) (d : TypeDesc) (hc : Hid (w.rangeAt b o cs))
  (hu : P.underlying ty = some d) (hd : d.isRow = true) (hi : (P.info? ty).map (·.size) = some cs.length)
  (h : wpList P ops Q rest (a.put op.dst (.agg cs.toArray)) w) : wpList P ops Q (op :: rest) a w := wpList_load_mid hgd ty x ho b o hx cs d hc.out hu hd hi h
theorem wpList_store_w {ops : Array Oper} {rest : List Oper} {o : Oper} {a : Act} {W : World} {Q : Exit → Act → World → Prop} (hgd : o.guard = none) (ty : TypeId) (x y : Operand) (ho : o.op = .store ty x y)
  (g : Nat) (hg : g = W.heap.size) (cells old : Array Value) (t : TypeId) (hx : a.eval x = .pointer (some ⟨g, 0, none⟩)) (hy : a.eval y = .agg cells)
  (hi : (P.info? ty).map (·.size) = some cells.size) (hold : old.size = cells.size) (h1 : cells.toList.all (·.oneCell') = true)
  (h : wpList P ops Q rest (a.put o.dst undef) (W.alloc (.cells cells t))) : wpList P ops Q (o :: rest) a (W.alloc (.cells old t)) := by
 subst hg
 refine wpList_store_row hgd ty x y ho _ cells hx hy t old (heap_alloc_new W _) hi hold (by simpa using h1) ?_
 rw [World.setRow_alloc_new]
 exact h
theorem exec_load_w {op : Oper} {a : Act} {w : World} (ty : TypeId) (x : Operand) (ho : op.op = .load ty x) (b o : Nat) (hx : a.eval x = .pointer (some ⟨b, o, none⟩)) (cs : List Value) (d : TypeDesc) (hc : w.rangeAt b o cs)
  (hu : P.underlying ty = some d) (hd : d.isRow = true) (hi : (P.info? ty).map (·.size) = some cs.length) : (execOp a.eval op).run P w = .ok (.value (.agg cs.toArray)) w := by
 unfold execOp
 simp only [ho, hx, Instr.loadAt, Instr.sureAddr, Sem.run_bind, Sem.run_pure, Result.andThen_ok, run_loadVar_mid w b o ty cs d hc hu hd hi]
theorem wpList_store_r {ops : Array Oper} {rest : List Oper} {o : Oper} {a : Act} {w : World} {Q : Exit → Act → World → Prop} (hgd : o.guard = none) (ty : TypeId) (x y : Operand) (ho : o.op = .store ty x y)
  (g : Nat) (cells : Array Value) (hx : a.eval x = .pointer (some ⟨g, 0, none⟩)) (hy : a.eval y = .agg cells)
  (t : TypeId) (old : Array Value) (hg : Hid (w.heap[g]? = some (.cells old t (0, 0)))) (hi : (P.info? ty).map (·.size) = some cells.size)
  (hold : old.size = cells.size) (h1 : cells.toList.all (·.oneCell') = true)
  (h : wpList P ops Q rest (a.put o.dst undef) (w.setRow g cells)) : wpList P ops Q (o :: rest) a w :=
 wpList_store_row hgd ty x y ho g cells hx hy t old hg.out hi hold (by simpa using h1) h
theorem Kp.setRow {S : Nat → Prop} {a b : World} (h : Kp S a b) {g : Nat} (hp : S g ∨ a.heap.size ≤ g) (cs : Array Value) : Kp S a (b.setRow g cs) :=
 h.trans (T := One g) ⟨rfl, rfl, rfl, by simp [World.setRow], fun k _ hn => by
   show (b.heap.modify g _)[k]? = _
   rw [Array.getElem?_modify, if_neg (fun e => hn e.symm)]⟩
  (fun i hi hT => by
   rw [show i = g from hT] at hi ⊢
   rcases hp with hp | hp
   ·exact hp
   ·omega)
theorem setRow_at {w : World} {g : Nat} {cs old : Array Value} {t : TypeId} (h : w.heap[g]? = some (.cells old t (0, 0))) : (w.setRow g cs).heap[g]? = some (.cells cs t (0, 0)) := by
 show (w.heap.modify g _)[g]? = _
 rw [Array.getElem?_modify, if_pos rfl, h]
 rfl
theorem wpOrd_shutw {ops : Array Oper} {ks : List Nat} {S : World → Prop} {Q : Exit → Act → World → Prop} {i : Nat} {o : Oper} {rest : List Nat} {a : Act} {w : World} (ho : ops[i]? = some o) (hk : ks.getD i 2 = 2)
  (hg : Region.wanted o (yielded ops a.tmps) = false) {A : Act} (hA : a.put o.dst undef = A) (h : ∀ n, S (w.drewN n) ∧ wpOrd P ops ks S Q rest A (w.drewN n)) : wpOrd P ops ks S Q (i :: rest) a w := by
 subst hA
 refine wpOrd_eff ho hk fun n => ?_
 unfold wpList
 rw [if_neg (by rw [hg]; decide)]
 exact ⟨rfl, h n⟩
theorem rangeAt_block {W : World} {b : Nat} {cs : Array Value} {t : TypeId} (h : W.heap[b]? = some (.cells cs t (0, 0))) (o n : Nat) : W.rangeAt b o ((cs.toList.drop o).take n) := fun j v hv => by
 rw [cell_at h]
 rw [List.getElem?_take] at hv
 split at hv
 ·rw [List.getElem?_drop] at hv
  simpa using hv
 ·cases hv
end Go.Mer

