/-
  What a piece of work leaves as it was (Kp), what can be read of a slice (Rd), what a slice owns (Own), and one law of append over them.
-/
import Derived.WalkKit
import Derived.ArgAppend
import Derived.Laws.OwnMore
import Derived.Maps.RangeRun
import Derived.Lib.Hide
import Derived.Deep.Draws
namespace Go.Mer
open Go Go.RowKit
open Go.ChangeMaps (setBlock)

/-! ### What is kept -/
/-- Of the blocks that were there, only those of S may have turned. -/
structure Kp (S : Nat → Prop) (w w' : World) : Prop where
  os : w'.os = w.os
  tape : w'.tape = w.tape
  output : w'.output = w.output
  size : w.heap.size ≤ w'.heap.size
  block : ∀ k, k < w.heap.size → ¬ S k → w'.heap[k]? = w.heap[k]?
def No : Nat → Prop := fun _ => False
def One (b : Nat) : Nat → Prop := fun k => k = b
/-- The footprint F behind the work is F, and new blocks. -/
def Foot (F F' : Nat → Prop) (w : World) : Prop := ∀ k, F' k → F k ∨ w.heap.size ≤ k

section
variable {S T U : Nat → Prop} {w a b c w' : World}
theorem Kp.refl (S : Nat → Prop) (w : World) : Kp S w w := ⟨rfl, rfl, rfl, Nat.le_refl _, fun _ _ _ => rfl⟩
theorem Kp.trans (h : Kp S a b) (k : Kp T b c) (hT : ∀ i, i < a.heap.size → T i → S i) : Kp S a c :=
  ⟨k.os.trans h.os, k.tape.trans h.tape, k.output.trans h.output, Nat.le_trans h.size k.size, fun i hi hn => (k.block i (Nat.lt_of_lt_of_le hi h.size) (fun ht => hn (hT i hi ht))).trans (h.block i hi hn)⟩
theorem Kp.trans_same (h : Kp S a b) (k : Kp S b c) : Kp S a c := h.trans k fun _ _ x => x
theorem Kp.trans_no (h : Kp S a b) (k : Kp No b c) : Kp S a c := h.trans k fun _ _ x => x.elim
theorem Kp.mono (h : Kp S a b) (hS : ∀ i, i < a.heap.size → S i → T i) : Kp T a b :=
  ⟨h.os, h.tape, h.output, h.size, fun i hi hn => h.block i hi fun hs => hn (hS i hi hs)⟩
theorem Kp.of_no (h : Kp No a b) : Kp S a b := h.mono fun _ _ x => x.elim
theorem Kp.drewN (h : Kp S a b) (n : Nat) : Kp S a (b.drewN n) := ⟨h.os, h.tape, h.output, h.size, h.block⟩
theorem Kp.drew (h : Kp S a b) : Kp S a b.drew := ⟨h.os, h.tape, h.output, h.size, h.block⟩
theorem Kp.of_drewN {n : Nat} (h : Kp S (a.drewN n) b) : Kp S a b := ⟨h.os, h.tape, h.output, h.size, h.block⟩
theorem Kp.from_drewN (h : Kp S a b) (n : Nat) : Kp S (a.drewN n) b := ⟨h.os, h.tape, h.output, h.size, h.block⟩
theorem Kp.alloc (h : Kp S a b) (o : Obj) : Kp S a (b.alloc o) :=
  h.trans_no ⟨rfl, rfl, rfl, by simp, fun k hk _ => Below.heap_alloc b o k hk⟩
theorem Kp.setCell (h : Kp S a b) {p : Addr} (hp : S p.block ∨ a.heap.size ≤ p.block) (u : Value) : Kp S a (b.setCell p u) :=
  h.trans (T := One p.block) ⟨rfl, rfl, rfl, by simp [World.setCell], fun k _ hn => Below.heap_setCell _ _ _ _ (fun e => hn e)⟩
    (fun i hi hT => by
      rw [show i = p.block from hT] at hi ⊢
      rcases hp with hp | hp
      · exact hp
      · omega)
theorem Kp.setBlock (h : Kp S a b) {k : Nat} (hp : S k ∨ a.heap.size ≤ k) (o : Obj) : Kp S a (setBlock b k o) :=
  h.trans (T := One k) ⟨rfl, rfl, rfl, by simp [ChangeMaps.setBlock], fun i _ hn => by
      show (b.heap.setIfInBounds k o)[i]? = _
      rw [Array.getElem?_setIfInBounds_ne (fun e => hn e.symm)]⟩
    (fun i hi hT => by
      rw [show i = k from hT] at hi ⊢
      rcases hp with hp | hp
      · exact hp
      · omega)
theorem Kp.cell (h : Kp S w w') {p : Addr} (hp : p.block < w.heap.size) (hn : ¬ S p.block) : w'.cell? p = w.cell? p := World.cell?_of_block (w := w) (h.block p.block hp hn)
theorem Kp.frozen (h : Kp S w w') {p : Addr} (hp : p.block < w.heap.size) (hn : ¬ S p.block) : w'.frozen? p = w.frozen? p := World.frozen?_of_block (w := w) (h.block p.block hp hn)
theorem Kp.get (h : Kp S w w') {k : Nat} {o : Obj} (hk : w.heap[k]? = some o) (hn : ¬ S k) : w'.heap[k]? = some o :=
  (h.block k (Array.getElem?_eq_some_iff.1 hk).1 hn).trans hk
theorem Kp.below (h : Kp S w w') {B : Nat} (hB : B ≤ w.heap.size) (hS : ∀ k, k < B → ¬ S k) : Below B w w' :=
  ⟨h.os, h.tape, h.output, h.size, fun k hk => h.block k (by omega) (hS k hk)⟩
theorem Kp.of_below {B : Nat} (h : Below B w w') (hS : ∀ k, k < w.heap.size → B ≤ k → S k) : Kp S w w' :=
  ⟨h.os, h.tape, h.output, h.size, fun k hk hn => h.block k (by
    rcases Nat.lt_or_ge k B with h' | h'
    · exact h'
    · exact absurd (hS k hk h') hn)⟩
theorem Kp.of_grown {row : Option Nat} (h : w.grownBy w' row) (hS : ∀ k, row = some k → S k) : Kp S w w' :=
  ⟨h.os, h.tape, h.output, h.size, fun k hk hn => h.block k hk fun e => hn (hS k e.symm)⟩
theorem Kp.lt (h : Kp S w w') {k : Nat} (hk : k < w.heap.size) : k < w'.heap.size := Nat.lt_of_lt_of_le hk h.size
theorem get_lt {k : Nat} {o : Obj} (hk : w.heap[k]? = some o) : k < w.heap.size := (Array.getElem?_eq_some_iff.1 hk).1
theorem Foot.refl (F : Nat → Prop) (w : World) : Foot F F w := fun _ h => .inl h
theorem Foot.trans {F F' F'' : Nat → Prop} (h : Foot F F' w) (k : Foot F' F'' w') (hs : w.heap.size ≤ w'.heap.size) : Foot F F'' w := fun i hi => by
  rcases k i hi with hi | hi
  · exact h i hi
  · exact .inr (by omega)
/-- What has no block in common with the footprint has none with the new one. -/
theorem Foot.apart {F F' G : Nat → Prop} (h : Foot F F' w) (hG : ∀ k, G k → k < w.heap.size) (hd : ∀ k, F k → ¬ G k) : ∀ k, F' k → ¬ G k := fun k hk hg => by
  rcases h k hk with hk | hk
  · exact hd k hk hg
  · exact absurd (hG k hg) (by omega)
end

/-! ### Blocks of cells -/
theorem cell_at {w : World} {g : Nat} {cs : Array Value} {t : TypeId} (h : w.heap[g]? = some (.cells cs t (0, 0))) (i : Nat) : w.cell? ⟨g, i, none⟩ = cs[i]? := cell_of_row w g i cs t (0, 0) h
theorem free_at {w : World} {g : Nat} {cs : Array Value} {t : TypeId} (h : w.heap[g]? = some (.cells cs t (0, 0))) (i : Nat) : w.frozen? ⟨g, i, none⟩ = false := by simp [World.frozen?, h]
theorem set_at {w : World} {g : Nat} {cs : Array Value} {t : TypeId} (h : w.heap[g]? = some (.cells cs t (0, 0))) (i : Nat) (u : Value) : (w.setCell ⟨g, i, none⟩ u).heap[g]? = some (.cells (cs.setIfInBounds i u) t (0, 0)) := by
  simp [World.setCell, Array.getElem?_modify, h]
theorem set_far {w : World} {g : Nat} {o : Obj} (h : w.heap[g]? = some o) {p : Addr} (hp : g ≠ p.block) (u : Value) : (w.setCell p u).heap[g]? = some o := (Below.heap_setCell w p u g hp).trans h
theorem alloc_far {w : World} {g : Nat} {o : Obj} (h : w.heap[g]? = some o) (o' : Obj) : (w.alloc o').heap[g]? = some o := (Below.heap_alloc w o' g (get_lt h)).trans h
theorem setBlock_at {w : World} {k : Nat} (hk : k < w.heap.size) (o : Obj) : (setBlock w k o).heap[k]? = some o := by simp [setBlock, hk]
theorem setBlock_far {w : World} {k g : Nat} {o : Obj} (h : w.heap[g]? = some o) (hne : g ≠ k) (o' : Obj) : (setBlock w k o').heap[g]? = some o := by
  show (w.heap.setIfInBounds k o')[g]? = _
  rw [Array.getElem?_setIfInBounds_ne (fun e => hne e.symm)]
  exact h
/-- Blocks of unlike types are two. -/
theorem ne_of_type {w : World} {g g' : Nat} {cs cs' : Array Value} {t t' : TypeId} {f f' : Nat × Nat} (h : w.heap[g]? = some (.cells cs t f)) (h' : w.heap[g']? = some (.cells cs' t' f')) (hne : t ≠ t') : g ≠ g' := by
  rintro rfl
  rw [h] at h'
  injection h' with h'
  injection h' with _ ht
  exact hne ht
theorem ne_of_map {w : World} {g g' : Nat} {cs : Array Value} {t : TypeId} {f : Nat × Nat} {es : Array MapEntry} {c : Nat} (h : w.heap[g]? = some (.cells cs t f)) (h' : w.heap[g']? = some (.map es c)) : g ≠ g' := by
  rintro rfl
  rw [h] at h'
  cases h'

/-! ### Bytes -/
def u8 (b : UInt8) : Value := .int .u8 (b.toNat : Int)
def u8s (l : List UInt8) : List Value := l.map u8
theorem u8s_length (l : List UInt8) : (u8s l).length = l.length := by simp [u8s]
theorem u8s_append (l k : List UInt8) : u8s (l ++ k) = u8s l ++ u8s k := by simp [u8s]
theorem u8s_nil : u8s [] = [] := rfl
theorem u8s_get? (l : List UInt8) (i : Nat) : (u8s l)[i]? = (l[i]?).map u8 := by simp [u8s]
theorem u8s_one (l : List UInt8) : ∀ u ∈ u8s l, u.oneCell' = true := by
  intro u hu
  obtain ⟨b, _, rfl⟩ := List.mem_map.1 hu
  rfl

/-! ### What can be read -/
/-- From address a on lie the cells xs, in a block below B. -/
def Rd (w : World) (B : Nat) (a : Option Addr) (xs : List Value) : Prop :=
  0 < xs.length → ∃ g off, a = some ⟨g, off, none⟩ ∧ g < B ∧ B ≤ w.heap.size ∧ ∀ j u, xs[j]? = some u → w.cell? ⟨g, off + j, none⟩ = some u
section
variable {w w' : World} {B : Nat} {a : Option Addr} {xs : List Value}
theorem Rd.nil (w : World) (B : Nat) (a : Option Addr) : Rd w B a [] := fun h => absurd h (by simp)
theorem Rd.keep {S : Nat → Prop} (h : Rd w B a xs) (hk : Kp S w w') (hS : ∀ k, k < B → ¬ S k) : Rd w' B a xs := fun hx => by
  obtain ⟨g, off, ha, hg, hB, hc⟩ := h hx
  exact ⟨g, off, ha, hg, Nat.le_trans hB hk.size, fun j u hu => (hk.cell (p := ⟨g, off + j, none⟩) (by show g < _; omega) (hS g hg)).trans (hc j u hu)⟩
/-- Where what may have turned holds no cells. -/
theorem Rd.keep_map {S : Nat → Prop} (h : Rd w B a xs) (hk : Kp S w w') (hS : ∀ k o, S k → w.cell? ⟨k, o, none⟩ = none) : Rd w' B a xs := fun hx => by
  obtain ⟨g, off, ha, hg, hB, hc⟩ := h hx
  have hgS : ¬ S g := fun hs => by
    have h0 := hc 0 xs[0] (by simp)
    rw [hS g _ hs] at h0
    cases h0
  exact ⟨g, off, ha, hg, Nat.le_trans hB hk.size, fun j u hu => (hk.cell (p := ⟨g, off + j, none⟩) (by show g < _; omega) hgS).trans (hc j u hu)⟩
theorem cell_map {w : World} {m : Nat} {es : Array MapEntry} {c : Nat} (h : w.heap[m]? = some (.map es c)) (o : Nat) : w.cell? ⟨m, o, none⟩ = none := by simp [World.cell?, h]
theorem Rd.drewN (h : Rd w B a xs) (n : Nat) : Rd (w.drewN n) B a xs := h
theorem Rd.mono (h : Rd w B a xs) {B' : Nat} (hB : B ≤ B') (hs : B' ≤ w.heap.size) : Rd w B' a xs := fun hx => by
  obtain ⟨g, off, ha, hg, _, hc⟩ := h hx
  exact ⟨g, off, ha, by omega, hs, hc⟩
theorem Rd.at_ (h : Rd w B a xs) {i : Nat} {u : Value} (hu : xs[i]? = some u) : ∃ g off, a = some ⟨g, off, none⟩ ∧ g < B ∧ B ≤ w.heap.size ∧ w.cell? ⟨g, off + i, none⟩ = some u := by
  have hi := (List.getElem?_eq_some_iff.1 hu).1
  obtain ⟨g, off, ha, hg, hB, hc⟩ := h (by omega)
  exact ⟨g, off, ha, hg, hB, hc i u hu⟩
theorem Rd.byte {l : List UInt8} (h : Rd w B a (u8s l)) {i : Nat} (hi : i < l.length) :
    ∃ g off, a = some ⟨g, off, none⟩ ∧ g < B ∧ B ≤ w.heap.size ∧ w.cell? ⟨g, off + i, none⟩ = some (.int .u8 (l[i].toNat : Int)) :=
  h.at_ (by simp [u8s, u8, hi])
/-- A part of it, from i on. -/
theorem Rd.drop (h : Rd w B a xs) (i : Nat) : Rd w B (a.map (·.add i)) (xs.drop i) := fun hx => by
  rw [List.length_drop] at hx
  obtain ⟨g, off, rfl, hg, hB, hc⟩ := h (by omega)
  refine ⟨g, off + i, ?_, hg, hB, fun j u hu => ?_⟩
  · simp only [Option.map_some, Addr.add]
    split
    · rename_i e; subst e; rfl
    · rfl
  · rw [List.getElem?_drop] at hu
    have := hc _ u hu
    rwa [← Nat.add_assoc] at this
theorem Rd.take (h : Rd w B a xs) (i : Nat) : Rd w B a (xs.take i) := fun hx => by
  rw [List.length_take] at hx
  obtain ⟨g, off, ha, hg, hB, hc⟩ := h (by omega)
  refine ⟨g, off, ha, hg, hB, fun j u hu => hc j u ?_⟩
  rw [List.getElem?_take] at hu
  split at hu
  · exact hu
  · cases hu
theorem Rd.row {cs : Array Value} {t : TypeId} {g off n : Nat} (hg : w.heap[g]? = some (.cells cs t (0, 0))) (hx : (cs.toList.drop off).take n = xs) (hgB : g < B) (hB : B ≤ w.heap.size) : Rd w B (some ⟨g, off, none⟩) xs := fun _ =>
  ⟨g, off, rfl, hgB, hB, fun j u hu => by
    rw [cell_at hg]
    subst hx
    rw [List.getElem?_take] at hu
    split at hu
    · rw [List.getElem?_drop] at hu
      simpa using hu
    · cases hu⟩
end

/-! ### What a slice owns -/
/-- v is a slice of n elements of type e, sz cells each, that hold xs; its cells up to its capacity lie in one block of its own. -/
def Own (w : World) (e : TypeId) (sz : Nat) (v : Value) (n : Nat) (xs : List Value) : Prop :=
  xs.length = n * sz ∧ ∃ a cap, v = .slice a n cap ∧ n ≤ cap ∧ cap ≤ maxLen ∧ (a = none → cap = 0) ∧
    ∀ ad, a = some ad → ∃ g off cur, ad = ⟨g, off, none⟩ ∧ w.heap[g]? = some (.cells cur e (0, 0)) ∧ off + cap * sz ≤ cur.size ∧ (cur.toList.drop off).take (n * sz) = xs
section
variable {w w' : World} {e : TypeId} {sz n : Nat} {v : Value} {xs : List Value}
theorem Own.nil (w : World) (e : TypeId) (sz : Nat) : Own w e sz (.slice none 0 0) 0 [] :=
  ⟨by simp, none, 0, rfl, Nat.le_refl _, by simp [maxLen], fun _ => rfl, fun _ h => by cases h⟩
theorem Own.keep {S : Nat → Prop} (h : Own w e sz v n xs) (hk : Kp S w w') (hS : ∀ g, v.ownBlock = some g → ¬ S g) : Own w' e sz v n xs := by
  obtain ⟨hl, a, cap, rfl, h1, h2, h3, h4⟩ := h
  refine ⟨hl, a, cap, rfl, h1, h2, h3, fun ad had => ?_⟩
  subst had
  obtain ⟨g, off, cur, rfl, hg, hr⟩ := h4 ad rfl
  exact ⟨g, off, cur, rfl, hk.get hg (hS g rfl), hr⟩
theorem Own.drewN (h : Own w e sz v n xs) (k : Nat) : Own (w.drewN k) e sz v n xs := h
theorem Own.lt (h : Own w e sz v n xs) : ∀ g, v.ownBlock = some g → g < w.heap.size := by
  obtain ⟨_, a, cap, rfl, _, _, _, h4⟩ := h
  intro g hg
  cases a with
  | none => simp [Value.ownBlock] at hg
  | some ad =>
    obtain ⟨g', off, cur, rfl, hgg, _⟩ := h4 ad rfl
    simp [Value.ownBlock] at hg
    subst hg
    exact get_lt hgg
theorem Own.type (h : Own w e sz v n xs) : ∀ g, v.ownBlock = some g → ∃ cur, w.heap[g]? = some (.cells cur e (0, 0)) := by
  obtain ⟨_, a, cap, rfl, _, _, _, h4⟩ := h
  intro g hg
  cases a with
  | none => simp [Value.ownBlock] at hg
  | some ad =>
    obtain ⟨g', off, cur, rfl, hgg, _⟩ := h4 ad rfl
    simp [Value.ownBlock] at hg
    subst hg
    exact ⟨cur, hgg⟩
theorem Own.rd (h : Own w e sz v n xs) : ∃ a cap, v = .slice a n cap ∧ n ≤ cap ∧ Rd w w.heap.size a xs := by
  obtain ⟨hl, a, cap, rfl, h1, h2, h3, h4⟩ := h
  refine ⟨a, cap, rfl, h1, fun hx => ?_⟩
  cases a with
  | none =>
    have := h3 rfl
    have : n = 0 := by omega
    subst this
    simp at hl
    rw [hl] at hx
    simp at hx
  | some ad =>
    obtain ⟨g, off, cur, rfl, hg, _, hr⟩ := h4 ad rfl
    exact Rd.row hg hr (get_lt hg) (Nat.le_refl _) hx
/-- A row of one's own that was just laid. -/
theorem Own.rd' {a : Option Addr} {cap m : Nat} (h : Own w e sz (.slice a m cap) n xs) : Rd w w.heap.size a xs := by
  obtain ⟨a', c', e', _, hr⟩ := h.rd
  injection e' with e1 _ _
  rw [e1]
  exact hr
theorem Own.made (w : World) (e : TypeId) (sz : Nat) (cur : Array Value) (n cap : Nat) (hn : n ≤ cap) (hm : cap ≤ maxLen) (hs : cap * sz ≤ cur.size) (hx : cur.toList.take (n * sz) = xs) :
    Own (w.alloc (.cells cur e)) e sz (.slice (some ⟨w.heap.size, 0, none⟩) n cap) n xs := by
  refine ⟨?_, some ⟨w.heap.size, 0, none⟩, cap, rfl, hn, hm, fun h => (by cases h), fun ad h => ?_⟩
  · rw [← hx, List.length_take, Array.length_toList]
    have : n * sz ≤ cap * sz := Nat.mul_le_mul_right _ hn
    omega
  · injection h with h
    subst h
    exact ⟨w.heap.size, 0, cur, rfl, heap_alloc_new w _, by omega, by simpa using hx⟩
end

/-- The cells that an appended value brings. -/
def Src (w : World) (sz : Nat) (x : Value) (m : Nat) (news : List Value) : Prop :=
  news.length = m * sz ∧ ∃ a c, x = .slice a m c ∧ Rd w w.heap.size a news

section
variable {P : Program} {w : World}
theorem Src.first {sz : Nat} {x : Value} {m : Nat} {news : List Value} (h : Src w sz x m news) : (Builtin.firstCells sz m x).run P w = .ok news.toArray w ∧ (Builtin.lenOf x).run P w = .ok m w := by
  obtain ⟨hl, a, c, rfl, hr⟩ := h
  refine ⟨?_, rfl⟩
  rcases Nat.eq_zero_or_pos news.length with h0 | h0
  · have hn : news = [] := List.eq_nil_of_length_eq_zero h0
    subst hn
    have hm : m * sz = 0 := by simpa using hl.symm
    cases a with
    | none => rfl
    | some ad => simp [Builtin.firstCells, hm, loadCells, loadCellsFrom]
  · obtain ⟨g, off, rfl, _, _, hc⟩ := hr h0
    refine run_firstCells_some w sz m ⟨g, off, none⟩ m c news hl fun j u hu => ?_
    have := hc j u hu
    have hadd : (⟨g, off, none⟩ : Addr).add j = ⟨g, off + j, none⟩ := by unfold Addr.add; split <;> simp_all
    rwa [hadd]

theorem add_lit' (g off j : Nat) : (⟨g, off, none⟩ : Addr).add j = ⟨g, off + j, none⟩ := by unfold Addr.add; split <;> simp_all

theorem setCells_block (g : Nat) (e : TypeId) : ∀ (news : List Value) (w : World) (off : Nat) (cur : Array Value), w.heap[g]? = some (.cells cur e (0, 0)) → off + news.length ≤ cur.size →
    ∃ cur', (w.setCells g off news).heap[g]? = some (.cells cur' e (0, 0)) ∧ cur'.size = cur.size ∧ cur'.toList = cur.toList.take off ++ news ++ cur.toList.drop (off + news.length)
  | [], w, off, cur, hg, _ => ⟨cur, by simpa [World.setCells] using hg, rfl, by simp⟩
  | x :: r, w, off, cur, hg, hs => by
    simp only [List.length_cons] at hs
    obtain ⟨cur', h1, h2, h3⟩ := setCells_block g e r (w.setCell ⟨g, off, none⟩ x) (off + 1) (cur.setIfInBounds off x) (set_at hg off x) (by simp; omega)
    refine ⟨cur', by simpa [World.setCells] using h1, by simpa using h2, ?_⟩
    rw [h3]
    have hlt : off < cur.toList.length := by simp; omega
    simp only [Array.toList_setIfInBounds, List.length_cons]
    rw [List.take_add_one, List.getElem?_set_self hlt, List.take_set_of_le (Nat.le_refl _), List.drop_set_of_lt (by omega)]
    simp [Nat.add_assoc, Nat.add_comm 1]

/-- append, whatever the row: in its own room or in a new row. -/
theorem run_append_Own (t t' ty e : TypeId) (i : TypeInfo) (z : Value) (sz bytes : Nat) (ht : P.underlying t = some (.slice e)) (ht' : ∃ e', P.underlying t' = some (.slice e'))
    (hi : P.info? e = some i) (hz : i.zero = some z) (hsize : i.size = sz) (hby : i.bytes = bytes) (hzs : z.cells.size = sz)
    (v : Value) (n : Nat) (xs : List Value) (hown : Own w e sz v n xs) (x : Value) (m : Nat) (news : List Value) (hx : Src w sz x m news) (h1 : ∀ u ∈ news, u.oneCell' = true)
    (h63 : n + m ≤ maxLen) (hbytes : (n + m) * bytes ≤ 140737488355328) :
    ∃ v' w', (Builtin.append_ #[t, t'] ty #[v, x]).run P w = .ok v' w' ∧ Own w' e sz v' (n + m) (xs ++ news) ∧ Kp (fun k => v.ownBlock = some k) w w' ∧
      (v'.ownBlock = v.ownBlock ∨ ∃ g, v'.ownBlock = some g ∧ w.heap.size ≤ g) := by
  obtain ⟨hl, a, cap, rfl, hnc, hcm, hnil, hblk⟩ := hown
  obtain ⟨hfc, hln⟩ := hx.first (P := P)
  have hnl := hx.1
  obtain ⟨e', ht'⟩ := ht'
  by_cases hroom : n + m ≤ cap
  · cases a with
    | none =>
      have h0 := hnil rfl
      have hn : n = 0 := by omega
      have hm : m = 0 := by omega
      subst hn; subst hm
      have hne : news = [] := List.eq_nil_of_length_eq_zero (by simpa using hnl)
      subst hne
      refine ⟨.slice none 0 cap, w, ?_, ⟨by simpa using hl, none, cap, by simp, by omega, hcm, hnil, fun _ h => by cases h⟩, Kp.refl _ _, .inl rfl⟩
      simp [Builtin.append_, run_underlying ht, run_underlying ht', sizeOf, typeInfo, hi, hln, hsize, hfc]
    | some ad =>
      obtain ⟨g, off, cur, rfl, hg, hfit, hcur⟩ := hblk ad rfl
      have hle : off + n * sz + news.length ≤ cur.size := by
        rw [hnl]
        have : (n + m) * sz ≤ cap * sz := Nat.mul_le_mul_right _ hroom
        rw [Nat.add_mul] at this
        omega
      have hst := run_storeCells_cells (P := P) g (off + n * sz) news 0 w (by
          intro j hj
          rw [Nat.add_zero, cell_at hg]
          simp; omega) (by intro j _; exact free_at hg _) h1
      obtain ⟨cur', hg', hsz', hcur'⟩ := setCells_block g e news w (off + n * sz) cur hg hle
      have hkp : Kp (fun k => (Value.slice (some ⟨g, off, none⟩) n cap).ownBlock = some k) w (w.setCells g (off + n * sz) news) := by
        have key : ∀ (l : List Value) (o : Nat) (a : World), Kp (One g) a (a.setCells g o l) := by
          intro l
          induction l with
          | nil => intro o a; exact Kp.refl _ _
          | cons u l ih =>
            intro o a
            have h1 : Kp (One g) a (a.setCell ⟨g, o, none⟩ u) := (Kp.refl (One g) a).setCell (p := ⟨g, o, none⟩) (.inl rfl) u
            have h2 := h1.trans_same (ih (o + 1) (a.setCell ⟨g, o, none⟩ u))
            simpa [World.setCells] using h2
        exact (key news _ w).mono fun k _ hk => by rw [show k = g from hk]; rfl
      refine ⟨.slice (some ⟨g, off, none⟩) (n + m) cap, w.setCells g (off + n * sz) news, ?_, ⟨?_, some ⟨g, off, none⟩, cap, rfl, hroom, hcm, fun h => (by cases h), fun ad h => ?_⟩, hkp, .inl rfl⟩
      · simp only [Nat.add_zero] at hst
        simp [Builtin.append_, run_underlying ht, run_underlying ht', sizeOf, typeInfo, hi, hln, hsize, hfc, hroom, add_lit', hst]
      · rw [List.length_append, hl, hnl, Nat.add_mul]
      · injection h with h
        subst h
        refine ⟨g, off, cur', rfl, hg', by rw [hsz']; exact hfit, ?_⟩
        rw [hcur', ← hcur]
        have e1 : (cur.toList.take (off + n * sz) ++ news ++ cur.toList.drop (off + n * sz + news.length)).drop off = (cur.toList.drop off).take (n * sz) ++ news ++ cur.toList.drop (off + n * sz + news.length) := by
          have hlt : off ≤ (cur.toList.take (off + n * sz)).length := by simp; omega
          rw [List.append_assoc, List.drop_append_of_le_length hlt, List.append_assoc]
          congr 1
          rw [List.drop_take]
          congr 1
          omega
        rw [e1]
        have e2 : ((cur.toList.drop off).take (n * sz) ++ news).length = (n + m) * sz := by rw [hcur, List.length_append, hl, hnl, Nat.add_mul]
        rw [← e2, List.take_left]
  · have hge := grownCap_ge w (n + m) cap e
    have hcm' : grownCap w (n + m) cap e ≤ maxLen := grownCap_le_maxLen w (n + m) cap e h63
    have hold : (Builtin.firstCells sz n (.slice a n cap)).run P w.drew = .ok xs.toArray w.drew := by
      cases a with
      | none =>
        have h0 := hnil rfl
        have hn : n = 0 := by omega
        subst hn
        have : xs = [] := List.eq_nil_of_length_eq_zero (by simpa using hl)
        subst this
        rfl
      | some ad =>
        obtain ⟨g, off, cur, rfl, hg, hfit, hcur⟩ := hblk ad rfl
        refine run_firstCells_some w.drew sz n ⟨g, off, none⟩ n cap xs hl fun j u hu => ?_
        rw [add_lit', World.cell?_drew, cell_at hg]
        rw [← hcur, List.getElem?_take] at hu
        split at hu
        · rw [List.getElem?_drop] at hu
          simpa using hu
        · cases hu
    have hfc' : (Builtin.firstCells sz m x).run P w.drew = .ok news.toArray w.drew := (Src.first (w := w.drew) (P := P) ⟨hx.1, hx.2⟩).1
    have h63' : ¬ (9223372036854775807 < ((n + m : Nat) : Int)) := by simp only [maxLen] at h63; omega
    have hfit : Builtin.nextslicecap (n + m) cap * bytes ≤ 281474976710656 := growslice_fits (by omega) hbytes
    refine ⟨.slice (some ⟨w.heap.size, 0, none⟩) (n + m) (grownCap w (n + m) cap e), w.drew.alloc (.cells (xs.toArray ++ news.toArray ++ Builtin.zeroCells z.cells (grownCap w (n + m) cap e - (n + m))) e), ?_, ?_, ?_, .inr ⟨w.heap.size, rfl, Nat.le_refl _⟩⟩
    · have hfit' : ¬ (281474976710656 < Builtin.nextslicecap (n + m) cap * bytes) := by omega
      have hn1 : ¬ ((n : Int) + m > 9223372036854775807) := by simp only [maxLen] at h63; omega
      simp [Builtin.append_, run_underlying ht, run_underlying ht', sizeOf, typeInfo, hi, hln, hsize, hby, hroom, hfit', hold, hfc', zeroValue, hz, IntKind.max, IntKind.signed, IntKind.bits, hn1, Question.forced, newRow]
      refine ⟨rfl, ?_⟩
      have hta : (xs ++ news).toArray = xs.toArray ++ news.toArray := by simp
      rw [hta, Array.append_assoc]
      rfl
    · refine Own.made w.drew e sz _ (n + m) (grownCap w (n + m) cap e) hge hcm' ?_ ?_
      · simp only [Array.size_append, List.size_toArray, size_zeroCells, hzs, hl, hnl, ← Nat.add_mul]
        exact Nat.mul_le_mul_right _ (by omega)
      · simp only [Array.toList_append, List.append_assoc]
        rw [← List.append_assoc, show (n + m) * sz = (xs ++ news).length from by rw [List.length_append, hl, hnl, Nat.add_mul]]
        exact List.take_left
    · exact ((Kp.refl _ w).drew).alloc _

/-- The walk's step at an append whose run is known. -/
theorem wpList_append_run {ops : Array Oper} {rest : List Oper} {o : Oper} {a : Act} {Q : Exit → Act → World → Prop} {w' : World} {s x : Operand} {t t' : TypeId} {v xv v' : Value} (hgd : o.guard = none)
    (ho : o.op = .call { callee := .builtin .append, args := #[s, x], argTypes := #[t, t'] }) (hs : a.eval s = v) (hx : a.eval x = xv)
    (hrun : (Builtin.append_ #[t, t'] o.type #[v, xv]).run P w = .ok v' w') (h : wpList P ops Q rest (a.put o.dst v') w') : wpList P ops Q (o :: rest) a w :=
  wpList_plain hgd fun _ hK => by
    unfold Oper.wp execOp
    simp only [ho, resolve, invoke, builtin, Sem.run_bind, Sem.run_pure, Result.andThen_ok, List.map_toArray, List.map_cons, List.map_nil, hs, hx, hrun]
    exact hK _ _ h
end
end Go.Mer
