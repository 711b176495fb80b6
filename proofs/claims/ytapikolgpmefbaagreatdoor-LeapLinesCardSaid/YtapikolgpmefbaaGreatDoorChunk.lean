/-
  Rows of structs: their cells; a store into one's own row.
-/
import Derived.Test.YtapikolgpmefbaaGreatDoorMem
namespace Go.Mer
open Go Go.RowKit
theorem Rd.kp {w w' : World} {a : Option Addr} {xs : List Value} (h : Rd w w.heap.size a xs) (hk : Kp No w w') : Rd w' w'.heap.size a xs := (h.keep hk fun _ _ x => x).mono hk.size (Nat.le_refl _)
/-! ### cells of rows of structs -/
theorem chunk_get {α : Type} (f : α → List Value) (c : Nat) (hf : ∀ x, (f x).length = c) : ∀ (L : List α) {k j : Nat} (h : k < L.length), j < c → (L.flatMap f)[k * c + j]? = (f L[k])[j]?
  | [], k, j, h, _ => by simp at h
  | x :: L, k, j, h, hj => by
    rw [List.flatMap_cons]
    cases k with
    | zero =>
      rw [List.getElem?_append_left (by rw [hf]; omega)]
      simp
    | succ k =>
      rw [List.getElem?_append_right (by rw [hf, Nat.add_mul]; omega), hf, show (k + 1) * c + j - c = k * c + j from by rw [Nat.add_mul]; omega]
      exact chunk_get f c hf L (by simpa using h) hj
theorem rd_chunk {α : Type} {w : World} {a : Option Addr} {f : α → List Value} {c : Nat} (hf : ∀ x, (f x).length = c) (h0 : 0 < c) {L : List α} (h : Rd w w.heap.size a (L.flatMap f)) {k : Nat} (hk : k < L.length) :
    ∃ g off, a = some ⟨g, off, none⟩ ∧ ∀ W, Kp No w W → ∀ j u, (f L[k])[j]? = some u → W.cell? ⟨g, off + k * c + j, none⟩ = some u := by
  have hpos : 0 < (L.flatMap f).length := by
    have h1 := chunk_get f c hf L hk (j := 0) h0
    have h2 : (f L[k])[0]? = some ((f L[k])[0]'(by rw [hf]; exact h0)) := List.getElem?_eq_getElem _
    rw [h2] at h1
    have := (List.getElem?_eq_some_iff.1 h1).1
    omega
  obtain ⟨g, off, ha, hg, _, hc⟩ := h hpos
  refine ⟨g, off, ha, fun W hW j u hu => ?_⟩
  have hj : j < c := by rw [← hf L[k]]; exact (List.getElem?_eq_some_iff.1 hu).1
  rw [hW.cell (p := ⟨g, off + k * c + j, none⟩) hg (fun x => x), Nat.add_assoc]
  exact hc _ u (by rw [chunk_get f c hf L hk hj]; exact hu)
theorem chunk_take {α : Type} (f : α → List Value) (c : Nat) (hf : ∀ x, (f x).length = c) : ∀ (L : List α) (k : Nat), (L.flatMap f).take (k * c) = (L.take k).flatMap f
  | [], k => by simp
  | x :: L, 0 => by simp
  | x :: L, k + 1 => by
    rw [List.flatMap_cons, List.take_succ_cons, List.flatMap_cons, List.take_append, hf, List.take_of_length_le (by rw [hf, Nat.add_mul]; omega), show (k + 1) * c - c = k * c from by rw [Nat.add_mul]; omega, chunk_take f c hf L k]
theorem chunk_drop {α : Type} (f : α → List Value) (c : Nat) (hf : ∀ x, (f x).length = c) : ∀ (L : List α) (k : Nat), (L.flatMap f).drop (k * c) = (L.drop k).flatMap f
  | [], k => by simp
  | x :: L, 0 => by simp
  | x :: L, k + 1 => by
    rw [List.flatMap_cons, List.drop_succ_cons, List.drop_append, hf, List.drop_of_length_le (by rw [hf, Nat.add_mul]; omega), show (k + 1) * c - c = k * c from by rw [Nat.add_mul]; omega, chunk_drop f c hf L k]
    rfl
theorem chunk_len {α : Type} (f : α → List Value) (c : Nat) (hf : ∀ x, (f x).length = c) : ∀ (L : List α), (L.flatMap f).length = L.length * c
  | [] => by simp
  | x :: L => by rw [List.flatMap_cons, List.length_append, hf, chunk_len f c hf L, List.length_cons, Nat.add_mul]; omega

theorem chunk_set {α : Type} (f : α → List Value) (c : Nat) (hf : ∀ x, (f x).length = c) : ∀ (L : List α) {k j : Nat} (h : k < L.length) (_ : j < c) {x : α} {u : Value} (_ : (f L[k]).set j u = f x), (L.flatMap f).set (k * c + j) u = (L.set k x).flatMap f
  | [], k, j, h, _, _, _, _ => by simp at h
  | y :: L, 0, j, h, hj, x, u, hx => by
    rw [List.flatMap_cons, List.set_cons_zero, List.flatMap_cons, Nat.zero_mul, Nat.zero_add, List.set_append_left _ _ (by rw [hf]; exact hj)]
    rw [show (f y).set j u = f x from hx]
  | y :: L, k + 1, j, h, hj, x, u, hx => by
    rw [List.flatMap_cons, List.set_cons_succ, List.flatMap_cons, List.set_append_right _ _ (by rw [hf, Nat.add_mul]; omega), hf, show (k + 1) * c + j - c = k * c + j from by rw [Nat.add_mul]; omega, chunk_set f c hf L (by simpa using h) hj hx]
/-- A store into one's own row, of elements of so many cells. -/
theorem own_set {w : World} {e : TypeId} {g off n cap sz : Nat} {xs : List Value} (h : Own w e sz (.slice (some ⟨g, off, none⟩) n cap) n xs) (i : Nat) (hi : i < n * sz) (u : Value) :
    Own (w.setCell ⟨g, off + i, none⟩ u) e sz (.slice (some ⟨g, off, none⟩) n cap) n (xs.set i u) := by
  obtain ⟨hl, a, cap', hv, h1, h2, h3, h4⟩ := h
  injection hv with hv1 hv2 hv3
  subst hv3
  obtain ⟨g', off', cur, had, hg, hfit, hx⟩ := h4 ⟨g, off, none⟩ hv1.symm
  injection had with e1 e2
  subst e1; subst e2
  have hle : n * sz ≤ cap * sz := Nat.mul_le_mul_right _ h1
  refine ⟨by simpa using hl, some ⟨g, off, none⟩, cap, rfl, h1, h2, fun h => (by cases h), fun ad had => ?_⟩
  injection had with had
  subst had
  refine ⟨g, off, cur.setIfInBounds (off + i) u, rfl, set_at hg (off + i) u, by simpa using hfit, ?_⟩
  rw [← hx]
  apply List.ext_getElem?
  intro j
  rw [List.getElem?_take, List.getElem?_set, List.getElem?_take]
  by_cases hj : j < n * sz
  · simp only [hj, if_true]
    rw [List.getElem?_drop, List.getElem?_drop, Array.toList_setIfInBounds, List.getElem?_set]
    have hsz : off + i < cur.toList.length := by simp; omega
    have hlen : i < ((cur.toList.drop off).take (n * sz)).length := by simp; omega
    by_cases hij : i = j
    · subst hij
      simp only [if_pos hsz, if_pos hlen]
    · rw [if_neg (by omega), if_neg hij]
  · rw [if_neg hj, if_neg hj]
    by_cases hij : i = j
    · subst hij; omega
    · rw [if_neg hij]
/-! ### elements gathered in a slice of one's own -/
section
variable {α : Type} {f : α → List Value} {E sz : Nat}
def RowRel (E sz : Nat) (f : α → List Value) (w0 wr : World) (v : Value) (n : Nat) (Q : List α) : Prop :=
  n = Q.length ∧ Own wr E sz v n (Q.flatMap f) ∧ (∀ g, v.ownBlock = some g → w0.heap.size ≤ g) ∧ Kp No w0 wr
theorem RowRel.keep {w0 wr W : World} {v : Value} {n : Nat} {Q : List α} (h : RowRel E sz f w0 wr v n Q) (hk : Kp No wr W) : RowRel E sz f w0 W v n Q := ⟨h.1, h.2.1.keep hk fun _ _ x => x, h.2.2.1, h.2.2.2.trans_same hk⟩
theorem RowRel.nil (E sz : Nat) (f : α → List Value) (w : World) : RowRel E sz f w w (.slice none 0 0) 0 [] := ⟨rfl, by simpa using Own.nil w E sz, fun g h => by simp [Value.ownBlock] at h, Kp.refl _ _⟩
theorem RowRel.made {w0 W : World} (h : Kp No w0 W) : RowRel E sz f w0 (W.alloc (.cells #[] E)) (.slice (some ⟨W.heap.size, 0, none⟩) 0 0) 0 [] :=
  ⟨rfl, Own.made W E sz #[] 0 0 (Nat.le_refl _) (by simp [maxLen]) (by simp) (by simp), fun g hg => by
    have hg : W.heap.size = g := by simpa [Value.ownBlock] using hg
    have := h.size
    omega, h.alloc _⟩
theorem RowRel.app {P : Program} {T bytes : Nat} (hT : P.underlying T = some (.slice E)) (hE : (P.info? E).map (fun i => ((i.zero.map fun z => z.cells.size), i.size, i.bytes)) = some (some sz, sz, bytes)) (hone : ∀ x, ∀ u ∈ f x, u.oneCell' = true)
    {w0 W : World} {v : Value} {n : Nat} {Q : List α} (h : RowRel E sz f w0 W v n Q) (N : List α) {x : Value} {m : Nat} (hsrc : Src W sz x m (N.flatMap f)) (hm : m = N.length) (hn : n + m ≤ maxLen) (hb : (n + m) * bytes ≤ 140737488355328) :
    ∃ a' c' W', (Builtin.append_ #[T, T] T #[v, x]).run P W = .ok (.slice a' (n + m) c') W' ∧ RowRel E sz f w0 W' (.slice a' (n + m) c') (n + m) (Q ++ N) ∧ Kp (fun k => v.ownBlock = some k) W W' := by
  obtain ⟨rfl, h3, h4, h6⟩ := h
  obtain ⟨i0, hi, hz⟩ := Option.map_eq_some_iff.1 hE
  injection hz with hz0 hz
  injection hz with hz1 hz2
  obtain ⟨z, hz, hz3⟩ := Option.map_eq_some_iff.1 hz0
  obtain ⟨v', w', hrun, ho, hkp, hblk⟩ := run_append_Own (P := P) T T T E i0 z sz bytes hT ⟨_, hT⟩ hi hz hz1 hz2 hz3 v Q.length _ h3 x m _ hsrc
    (fun u hu => by obtain ⟨y, _, hy⟩ := List.mem_flatMap.1 hu; exact hone y u hy) hn hb
  obtain ⟨_, a', c', rfl, _⟩ := id ho
  refine ⟨a', c', w', hrun, ⟨by rw [List.length_append]; omega, by rw [List.flatMap_append]; exact ho, fun g' hg' => ?_, h6.trans hkp fun i hi hs => by
    have := h4 i hs
    omega⟩, hkp⟩
  rcases hblk with hb | ⟨g2, hb, hb2⟩
  · exact h4 g' (hb.symm.trans hg')
  · obtain rfl := Option.some.inj (hb.symm.trans hg')
    have h7 := h6.size
    omega
theorem rows_src (hf : ∀ x, (f x).length = sz) {W : World} {a : Option Addr} {c : Nat} {Q : List α} (h : Rd W W.heap.size a (Q.flatMap f)) : Src W sz (.slice a Q.length c) Q.length (Q.flatMap f) := ⟨chunk_len f sz hf Q, a, c, rfl, h⟩
theorem nil_src {W : World} (a : Option Addr) (c : Nat) : Src W sz (.slice a 0 c) 0 (([] : List α).flatMap f) := ⟨by simp, a, c, rfl, Rd.nil _ _ _⟩
theorem one_src (hf : ∀ x, (f x).length = sz) {W : World} {g : Nat} {x : α} {cs : Array Value} {t : TypeId} (hg : W.heap[g]? = some (.cells cs t (0, 0))) (hcs : cs.toList = f x) : Src W sz (.slice (some ⟨g, 0, none⟩) 1 1) 1 ([x].flatMap f) := by
  refine ⟨by rw [chunk_len f sz hf]; rfl, some ⟨g, 0, none⟩, 1, rfl, Rd.row (n := sz) hg ?_ (get_lt hg) (Nat.le_refl _)⟩
  rw [List.drop_zero, hcs, List.flatMap_cons, List.flatMap_nil, List.append_nil]
  exact List.take_of_length_le (by rw [hf]; omega)
end
/-- Where a row of one's own lies. -/
theorem Own.place {w : World} {e : TypeId} {sz n cap : Nat} {a : Option Addr} {xs : List Value} (h : Own w e sz (.slice a n cap) n xs) (hn : 0 < n * sz) : ∃ g off, a = some ⟨g, off, none⟩ ∧ g < w.heap.size ∧ (∀ i, w.frozen? ⟨g, i, none⟩ = false) := by
  obtain ⟨hl, a', cap', hv, h1, h2, h3, h4⟩ := h
  injection hv with hv1 hv2 hv3
  subst hv1; subst hv3
  cases a with
  | none =>
    have := h3 rfl
    subst this
    have : n = 0 := by omega
    subst this
    simp at hn
  | some ad =>
    obtain ⟨g, off, cur, rfl, hg, _⟩ := h4 ad rfl
    exact ⟨g, off, rfl, get_lt hg, fun i => free_at hg i⟩
end Go.Mer
