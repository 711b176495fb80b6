/-
  Texts laid together: Chunk, Args, Sum, DiskKnown, Bytes, WOct.
-/
import Derived.Test.YtdibkdgafidjgaaGreatDoorWa1
import Derived.ProofKit
import Derived.SizedLaws
import Derived.Deep.Matrix
import Derived.Carry
import Derived.Test.YtdibkdgafidjgaaGreatDoorProg
import Derived.Test.YtdibkdgafidjgaaGreatDoorWa4
import Derived.WalkSpells
import Derived.WalkLawsBesides
import Derived.BigQuiet
import Derived.Test.YtdibkdgafidjgaaGreatDoorWa3
import Derived.Lib.SlBytesConst
import Derived.Test.YtdibkdgafidjgaaGreatDoorShelf
namespace Go.Mer
open Go Go.RowKit
theorem Rd.kp {w w' : World} {a : Option Addr} {xs : List Value} (h : Rd w w.heap.size a xs) (hk : Kp No w w') : Rd w' w'.heap.size a xs := (h.keep hk fun _ _ x => x).mono hk.size (Nat.le_refl _)
theorem chunk_get {α : Type} (f : α → List Value) (c : Nat) (hf : ∀ x, (f x).length = c) : ∀ (L : List α) {k j : Nat} (h : k < L.length), j < c → (L.flatMap f)[k * c + j]? = (f L[k])[j]?
 | [], k, j, h, _ => by simp at h
 | x :: L, k, j, h, hj => by
  rw [List.flatMap_cons]
  cases k with
  | zero =>
   rw [List.getElem?_append_left (by rw [hf]; omega)]
   simp
  | succ k =>
   rw [List.getElem?_append_right (by rw [hf, Nat.add_mul]; omega), hf, show (k + 1) * c + j - c = k * c + j from by rw [Nat.add_mul]; omega]
   exact chunk_get f c hf L (by simpa using h) hj
theorem rd_chunk {α : Type} {w : World} {a : Option Addr} {f : α → List Value} {c : Nat} (hf : ∀ x, (f x).length = c) (h0 : 0 < c) {L : List α} (h : Rd w w.heap.size a (L.flatMap f)) {k : Nat} (hk : k < L.length) :
  ∃ g off, a = some ⟨g, off, none⟩ ∧ ∀ W, Kp No w W → ∀ j u, (f L[k])[j]? = some u → W.cell? ⟨g, off + k * c + j, none⟩ = some u := by
 have hpos : 0 < (L.flatMap f).length := by
  have h1 := chunk_get f c hf L hk (j := 0) h0
  have h2 : (f L[k])[0]? = some ((f L[k])[0]'(by rw [hf]; exact h0)) := List.getElem?_eq_getElem _
  rw [h2] at h1
  have := (List.getElem?_eq_some_iff.1 h1).1
  omega
 obtain ⟨g, off, ha, hg, _, hc⟩ := h hpos
 refine ⟨g, off, ha, fun W hW j u hu => ?_⟩
 have hj : j < c := by rw [← hf L[k]]; exact (List.getElem?_eq_some_iff.1 hu).1
 rw [hW.cell (p := ⟨g, off + k * c + j, none⟩) hg (fun x => x), Nat.add_assoc]
 exact hc _ u (by rw [chunk_get f c hf L hk hj]; exact hu)
theorem chunk_take {α : Type} (f : α → List Value) (c : Nat) (hf : ∀ x, (f x).length = c) : ∀ (L : List α) (k : Nat), (L.flatMap f).take (k * c) = (L.take k).flatMap f
 | [], k => by simp
 | x :: L, 0 => by simp
 | x :: L, k + 1 => by
  rw [List.flatMap_cons, List.take_succ_cons, List.flatMap_cons, List.take_append, hf, List.take_of_length_le (by rw [hf, Nat.add_mul]; omega), show (k + 1) * c - c = k * c from by rw [Nat.add_mul]; omega, chunk_take f c hf L k]
theorem chunk_drop {α : Type} (f : α → List Value) (c : Nat) (hf : ∀ x, (f x).length = c) : ∀ (L : List α) (k : Nat), (L.flatMap f).drop (k * c) = (L.drop k).flatMap f
 | [], k => by simp
 | x :: L, 0 => by simp
 | x :: L, k + 1 => by
  rw [List.flatMap_cons, List.drop_succ_cons, List.drop_append, hf, List.drop_of_length_le (by rw [hf, Nat.add_mul]; omega), show (k + 1) * c - c = k * c from by rw [Nat.add_mul]; omega, chunk_drop f c hf L k]
  rfl
theorem chunk_len {α : Type} (f : α → List Value) (c : Nat) (hf : ∀ x, (f x).length = c) : ∀ (L : List α), (L.flatMap f).length = L.length * c
 | [] => by simp
 | x :: L => by rw [List.flatMap_cons, List.length_append, hf, chunk_len f c hf L, List.length_cons, Nat.add_mul]; omega
theorem chunk_set {α : Type} (f : α → List Value) (c : Nat) (hf : ∀ x, (f x).length = c) : ∀ (L : List α) {k j : Nat} (h : k < L.length) (_ : j < c) {x : α} {u : Value} (_ : (f L[k]).set j u = f x), (L.flatMap f).set (k * c + j) u = (L.set k x).flatMap f
 | [], k, j, h, _, _, _, _ => by simp at h
 | y :: L, 0, j, h, hj, x, u, hx => by
  rw [List.flatMap_cons, List.set_cons_zero, List.flatMap_cons, Nat.zero_mul, Nat.zero_add, List.set_append_left _ _ (by rw [hf]; exact hj)]
  rw [show (f y).set j u = f x from hx]
 | y :: L, k + 1, j, h, hj, x, u, hx => by
  rw [List.flatMap_cons, List.set_cons_succ, List.flatMap_cons, List.set_append_right _ _ (by rw [hf, Nat.add_mul]; omega), hf, show (k + 1) * c + j - c = k * c + j from by rw [Nat.add_mul]; omega, chunk_set f c hf L (by simpa using h) hj hx]
theorem own_set {w : World} {e : TypeId} {g off n cap sz : Nat} {xs : List Value} (h : Own w e sz (.slice (some ⟨g, off, none⟩) n cap) n xs) (i : Nat) (hi : i < n * sz) (u : Value) :
  Own (w.setCell ⟨g, off + i, none⟩ u) e sz (.slice (some ⟨g, off, none⟩) n cap) n (xs.set i u) := by
 obtain ⟨hl, a, cap', hv, h1, h2, h3, h4⟩ := h
 injection hv with hv1 hv2 hv3
 subst hv3
 obtain ⟨g', off', cur, had, hg, hfit, hx⟩ := h4 ⟨g, off, none⟩ hv1.symm
 injection had with e1 e2
 subst e1; subst e2
 have hle : n * sz ≤ cap * sz := Nat.mul_le_mul_right _ h1
 refine ⟨by simpa using hl, some ⟨g, off, none⟩, cap, rfl, h1, h2, fun h => (by cases h), fun ad had => ?_⟩
 injection had with had
 subst had
 refine ⟨g, off, cur.setIfInBounds (off + i) u, rfl, set_at hg (off + i) u, by simpa using hfit, ?_⟩
 rw [← hx]
 apply List.ext_getElem?
 intro j
 rw [List.getElem?_take, List.getElem?_set, List.getElem?_take]
 by_cases hj : j < n * sz
 ·simp only [hj, if_true]
  rw [List.getElem?_drop, List.getElem?_drop, Array.toList_setIfInBounds, List.getElem?_set]
  have hsz : off + i < cur.toList.length := by simp; omega
  have hlen : i < ((cur.toList.drop off).take (n * sz)).length := by simp; omega
  by_cases hij : i = j
  ·subst hij
   simp only [if_pos hsz, if_pos hlen]
  ·rw [if_neg (by omega), if_neg hij]
 ·rw [if_neg hj, if_neg hj]
  by_cases hij : i = j
  ·subst hij; omega
  ·rw [if_neg hij]
section
variable {α : Type} {f : α → List Value} {E sz : Nat}
def RowRel (E sz : Nat) (f : α → List Value) (w0 wr : World) (v : Value) (n : Nat) (Q : List α) : Prop :=
 n = Q.length ∧ Own wr E sz v n (Q.flatMap f) ∧ (∀ g, v.ownBlock = some g → w0.heap.size ≤ g) ∧ Kp No w0 wr
theorem RowRel.keep {w0 wr W : World} {v : Value} {n : Nat} {Q : List α} (h : RowRel E sz f w0 wr v n Q) (hk : Kp No wr W) : RowRel E sz f w0 W v n Q := ⟨h.1, h.2.1.keep hk fun _ _ x => x, h.2.2.1, h.2.2.2.trans_same hk⟩
theorem RowRel.nil (E sz : Nat) (f : α → List Value) (w : World) : RowRel E sz f w w (.slice none 0 0) 0 [] := ⟨rfl, by simpa using Own.nil w E sz, fun g h => by simp [Value.ownBlock] at h, Kp.refl _ _⟩
theorem RowRel.made {w0 W : World} (h : Kp No w0 W) : RowRel E sz f w0 (W.alloc (.cells #[] E)) (.slice (some ⟨W.heap.size, 0, none⟩) 0 0) 0 [] :=
 ⟨rfl, Own.made W E sz #[] 0 0 (Nat.le_refl _) (by simp [maxLen]) (by simp) (by simp), fun g hg => by
  have hg : W.heap.size = g := by simpa [Value.ownBlock] using hg
  have := h.size
  omega, h.alloc _⟩
theorem RowRel.app {P : Program} {T bytes : Nat} (hT : P.underlying T = some (.slice E)) (hE : (P.info? E).map (fun i => ((i.zero.map fun z => z.cells.size), i.size, i.bytes)) = some (some sz, sz, bytes)) (hone : ∀ x, ∀ u ∈ f x, u.oneCell' = true)
  {w0 W : World} {v : Value} {n : Nat} {Q : List α} (h : RowRel E sz f w0 W v n Q) (N : List α) {x : Value} {m : Nat} (hsrc : Src W sz x m (N.flatMap f)) (hm : m = N.length) (hn : n + m ≤ maxLen) (hb : (n + m) * bytes ≤ 140737488355328) :
  ∃ a' c' W', (Builtin.append_ #[T, T] T #[v, x]).run P W = .ok (.slice a' (n + m) c') W' ∧ RowRel E sz f w0 W' (.slice a' (n + m) c') (n + m) (Q ++ N) ∧ Kp (fun k => v.ownBlock = some k) W W' := by
 obtain ⟨rfl, h3, h4, h6⟩ := h
 obtain ⟨i0, hi, hz⟩ := Option.map_eq_some_iff.1 hE
 injection hz with hz0 hz
 injection hz with hz1 hz2
 obtain ⟨z, hz, hz3⟩ := Option.map_eq_some_iff.1 hz0
 obtain ⟨v', w', hrun, ho, hkp, hblk⟩ := run_append_Own (P := P) T T T E i0 z sz bytes hT ⟨_, hT⟩ hi hz hz1 hz2 hz3 v Q.length _ h3 x m _ hsrc
  (fun u hu => by obtain ⟨y, _, hy⟩ := List.mem_flatMap.1 hu; exact hone y u hy) hn hb
 obtain ⟨_, a', c', rfl, _⟩ := id ho
 refine ⟨a', c', w', hrun, ⟨by rw [List.length_append]; omega, by rw [List.flatMap_append]; exact ho, fun g' hg' => ?_, h6.trans hkp fun i hi hs => by
  have := h4 i hs
  omega⟩, hkp⟩
 rcases hblk with hb | ⟨g2, hb, hb2⟩
 ·exact h4 g' (hb.symm.trans hg')
 ·obtain rfl := Option.some.inj (hb.symm.trans hg')
  have h7 := h6.size
  omega
theorem rows_src (hf : ∀ x, (f x).length = sz) {W : World} {a : Option Addr} {c : Nat} {Q : List α} (h : Rd W W.heap.size a (Q.flatMap f)) : Src W sz (.slice a Q.length c) Q.length (Q.flatMap f) := ⟨chunk_len f sz hf Q, a, c, rfl, h⟩
theorem nil_src {W : World} (a : Option Addr) (c : Nat) : Src W sz (.slice a 0 c) 0 (([] : List α).flatMap f) := ⟨by simp, a, c, rfl, Rd.nil _ _ _⟩
theorem one_src (hf : ∀ x, (f x).length = sz) {W : World} {g : Nat} {x : α} {cs : Array Value} {t : TypeId} (hg : W.heap[g]? = some (.cells cs t (0, 0))) (hcs : cs.toList = f x) : Src W sz (.slice (some ⟨g, 0, none⟩) 1 1) 1 ([x].flatMap f) := by
 refine ⟨by rw [chunk_len f sz hf]; rfl, some ⟨g, 0, none⟩, 1, rfl, Rd.row (n := sz) hg ?_ (get_lt hg) (Nat.le_refl _)⟩
 rw [List.drop_zero, hcs, List.flatMap_cons, List.flatMap_nil, List.append_nil]
 exact List.take_of_length_le (by rw [hf]; omega)
end
theorem Own.place {w : World} {e : TypeId} {sz n cap : Nat} {a : Option Addr} {xs : List Value} (h : Own w e sz (.slice a n cap) n xs) (hn : 0 < n * sz) : ∃ g off, a = some ⟨g, off, none⟩ ∧ g < w.heap.size ∧ (∀ i, w.frozen? ⟨g, i, none⟩ = false) := by
 obtain ⟨hl, a', cap', hv, h1, h2, h3, h4⟩ := h
 injection hv with hv1 hv2 hv3
 subst hv1; subst hv3
 cases a with
 | none =>
  have := h3 rfl
  subst this
  have : n = 0 := by omega
  subst this
  simp at hn
 | some ad =>
  obtain ⟨g, off, cur, rfl, hg, _⟩ := h4 ad rfl
  exact ⟨g, off, rfl, get_lt hg, fun i => free_at hg i⟩
end Go.Mer
namespace Go.Mer
open Go.ChangeShapes Go.WideShapes Go.ChangeAt Go.RowKit Go.Deep
structure Row where
 a : Option Addr
 cap : Nat
 data : List UInt8
def Row.val (r : Row) : Value := .slice r.a r.data.length r.cap
structure RowsAt (w : World) (a : Option Addr) (R : List Row) : Prop where
 top : Rd w w.heap.size a (R.map Row.val)
 each : ∀ r ∈ R, Rd w w.heap.size r.a (u8s r.data) ∧ r.data.length ≤ 140737488355328
def wt (R : List Row) : Nat := (R.map fun r => r.data.length + 1).sum
section
variable {w W : World} {a : Option Addr} {R : List Row}
theorem RowsAt.at_ (h : RowsAt w a R) (hk : Kp No w W) {j : Nat} (hj : j < R.length) :
  ∃ g off, a = some ⟨g, off, none⟩ ∧ g < w.heap.size ∧ W.cell? ⟨g, off + j, none⟩ = some (.slice R[j].a R[j].data.length R[j].cap) ∧ Rd W w.heap.size R[j].a (u8s R[j].data) ∧ R[j].data.length ≤ 140737488355328 := by
 obtain ⟨g, off, ha, hg, _, hc⟩ := h.top.at_ (i := j) (u := R[j].val) (by simp [hj])
 obtain ⟨h1, h2⟩ := h.each R[j] (List.getElem_mem hj)
 exact ⟨g, off, ha, hg, (hk.cell hg fun x => x).trans hc, h1.keep hk fun _ _ x => x, h2⟩
end
def toB (n : Int) : UInt8 := UInt8.ofNat n.toNat
theorem u8_toB {n : Int} (h : (Lit.int .u8 n).wf = true) : u8 (toB n) = .int .u8 n := by
 have h1 : IntKind.u8.min = 0 := rfl
 have h2 : IntKind.u8.max = 255 := rfl
 simp only [Lit.wf, Bool.and_eq_true, decide_eq_true_eq, h1, h2] at h
 unfold u8 toB
 rw [UInt8.toNat_ofNat_of_lt' (by show n.toNat < 256; omega)]
 congr 1
 omega
theorem rd_bytes {w : World} {a : Option Addr} {zs : List Int} (hw : ∀ n ∈ zs, (Lit.int .u8 n).wf = true) (hc : ∀ a', a = some a' → ∀ i, i < zs.length → w.cell? (a'.add i) = some (.int .u8 (zs.getD i 0))) (hn : a = none → zs = []) :
  Rd w w.heap.size a (u8s (zs.map toB)) := fun hx => by
 cases a with
 | none => rw [hn rfl] at hx; simp [u8s] at hx
 | some a' =>
  have hlen : 0 < zs.length := by simpa [u8s] using hx
  have h0 := hc a' rfl 0 hlen
  obtain ⟨g, off, spot⟩ := a'
  have hs : spot = none := by simpa [Addr.add] using World.cell?_spot h0
  subst hs
  have hg := World.block_lt_of_cell? w _ h0
  refine ⟨g, off, rfl, by simpa [Addr.add] using hg, Nat.le_refl _, fun j u hu => ?_⟩
  have hj : j < zs.length := by have := (List.getElem?_eq_some_iff.1 hu).1; simpa [u8s] using this
  have h1 := hc _ rfl j hj
  rw [add_lit'] at h1
  rw [h1]
  have : (u8s (zs.map toB))[j]? = some (u8 (toB zs[j])) := by simp [u8s, hj]
  rw [this] at hu
  rw [← hu, u8_toB (hw _ (List.getElem_mem hj))]
  simp [List.getD, hj]
section
variable {H : Type} {enc : TypeId × Value → H} {P : Program} {W : World} {ts : List TypeId} {ds : List (DataW H)}
theorem weightsAll_mem' {e : TypeId} : ∀ {l : List (DataW H)} {d : DataW H}, d ∈ l → ∀ n ∈ d.weights P e, n ∈ DataW.weightsAll P e l
 | d' :: r, d, hd, n, hn => by
  simp only [DataW.weightsAll, List.mem_append]
  rcases List.mem_cons.1 hd with rfl | h
  ·exact Or.inl hn
  ·exact Or.inr (weightsAll_mem' h n hn)
theorem reach_is : reachBytes = 140737488351232 := rfl
theorem open_rows' (hsz : (DataW.weightsEach P ts ds).all (· ≤ reachBytes) = true) {j : Nat} {t e q : TypeId} {d : DataW H} (hj : ts[j]? = some t) (hd : ds[j]? = some d)
  (ht : P.underlying t = some (.slice e)) (he : P.underlying e = some (.slice q)) (hq : P.underlying q = some (.int .u8)) (ce : P.cellsOf e = 1) (cq : P.cellsOf q = 1) (be : P.bytesOf e = 24) (bq : P.bytesOf q = 1)
  {a : Option Addr} {len cap : Nat} {ps : List MemPlace} (h : DataW.Trod enc P W 0 (fun _ => true) true t (.slice a len cap) d ps) :
  ∃ R : List Row, R.length = len ∧ RowsAt W a R ∧ len ≤ 140737488351232 := by
 obtain ⟨fuel, h⟩ := h
 rcases open_int_rows ht he hq ce cq h with ⟨hcs, _⟩ | ⟨a', len', cap', A, L, C, Z, hcs, _, hl, _, hx, hrow⟩
 ·simp [Value.cells] at hcs
  obtain ⟨rfl, rfl, rfl⟩ := hcs
  exact ⟨[], rfl, ⟨Rd.nil _ _ _, by simp⟩, by simp⟩
 ·simp [Value.cells] at hcs
  obtain ⟨rfl, rfl, rfl⟩ := hcs
  simp only [Prod.mk.injEq] at hx
  obtain ⟨rfl, _⟩ := hx
  have hr := sized_slice hsz hj hd ht
  simp only [List.length_map, List.length_range, be, reach_is] at hr
  have hlen : ∀ r, r < len → (((Z r).take (L r)).map toB).length = L r := fun r hr => by
   obtain ⟨_, h1, _, h2, _⟩ := hrow r (by omega)
   simp
   omega
  refine ⟨(List.range len).map fun r => ⟨A r, C r, ((Z r).take (L r)).map toB⟩, by simp, ⟨fun hx => ?_, fun r hr => ?_⟩, by omega⟩
  ·have h0 : 0 < len := by simpa using hx
   have hc0 := (hrow 0 (by omega)).1
   obtain ⟨g, off, spot⟩ := a'
   have hs : spot = none := by simpa [Addr.add] using World.cell?_spot hc0
   subst hs
   have hg := World.block_lt_of_cell? W _ hc0
   refine ⟨g, off, rfl, by simpa [Addr.add] using hg, Nat.le_refl _, fun i u hu => ?_⟩
   have hi : i < len := by have := (List.getElem?_eq_some_iff.1 hu).1; simpa using this
   have h1 := (hrow i (by omega)).1
   rw [add_lit'] at h1
   rw [h1]
   simp only [List.getElem?_map, List.getElem?_range hi, Option.map_some, Row.val] at hu
   rw [← hu, hlen i hi]
  ·simp only [List.mem_map, List.mem_range] at hr
   obtain ⟨i, hi, rfl⟩ := hr
   obtain ⟨_, h1, _, h2, h3, h4, h5⟩ := hrow i (by omega)
   refine ⟨rd_bytes (fun n hn => h3 n (List.mem_of_mem_take hn)) (fun a'' ha k hk => ?_) (fun hn => ?_), ?_⟩
   ·rw [List.length_take] at hk
    rw [(h5 a'' ha).2 k (by omega)]
    simp only [List.getD, List.getElem?_take]
    rw [if_pos (by omega)]
   ·have := h4 hn
    exact List.eq_nil_of_length_eq_zero (by rw [List.length_take]; omega)
   ·rw [hlen i hi]
    cases hA : A i with
    | none => have := h4 hA; omega
    | some a'' =>
     have hin : ((lits (H := H) .u8 ((Z i).take (L i))).length + (lits (H := H) .u8 ((Z i).drop (L i))).length) * P.bytesOf q ≤ reachBytes := by
      refine of_decide_eq_true (List.all_eq_true.1 hsz _ (DataW.weights_mem_each hj hd _ ?_))
      simp only [DataW.weights, ht, List.mem_cons, List.mem_append]
      refine Or.inr (Or.inl (weightsAll_mem' (d := intRow .u8 (A i) (L i) (Z i)) (List.mem_map.2 ⟨i, List.mem_range.2 hi, rfl⟩) _ ?_))
      rw [hA]
      simp [intRow, DataW.weights, he]
     simp only [lits, List.length_map, List.length_take, List.length_drop, bq, reach_is] at hin
     omega
theorem trodAll_stays (hl : laidOutB P = true) {W' : World} (hb : Below W.heap.size W W') : ∀ {ts : List TypeId} {vs : List Value} {ds : List (DataW H)} {ps : List MemPlace}, (∀ t ∈ ts, P.readableRec t = true ∧ t < P.types.size) →
  DataW.TrodAll enc P W 0 (fun _ => true) true ts vs ds ps → (∀ x ∈ ps, x.block < W.heap.size) → DataW.TrodAll enc P W' 0 (fun b => decide (b < W.heap.size)) true ts vs ds ps
 | [], [], [], _, _, h, _ => h
 | t :: ts, v :: vs, d :: ds, ps, ht, ⟨p, q, h1, h2, hp⟩, hlt => by
  obtain ⟨hr, hs⟩ := ht t (List.mem_cons_self ..)
  refine ⟨p, q, Below.trod hl hr hs h1 hb fun x hx => hlt x (by rw [hp]; simp [hx]), trodAll_stays hl hb (fun t h => ht t (List.mem_cons_of_mem _ h)) h2 fun x hx => hlt x (by rw [hp]; simp [hx]), hp⟩
theorem post_law {f : Func} {s : ChangeSpec} {W' : World} {args : Array Value} {p q : List MemPlace} {tb : TypeId} (hl : laidOutB P = true) (hall : ∀ t ∈ f.params.toList, P.readableRec t = true ∧ t < P.types.size)
  (hb0 : f.resultTypes = #[tb]) (hb1 : P.underlying tb = some .bool) (hv : s.vars = []) (hr : (s.fn H ds).results = [.lit (.bool true)]) (ha : (s.fn H ds).args = ds) (hs : (s.fn H ds).vars = [])
  (hW : DataW.Whole enc P f.params.toList s.vars false W args.toList ds [] (p ++ q)) (hA : DataW.TrodAll enc P W 0 (fun _ => true) true f.params.toList args.toList ds p) (hk : Kp No W W') :
  s.post enc P f false true false false W args (.bool true) W' := by
 have hlt : ∀ x ∈ p, x.block < W.heap.size := fun x hx => hW.lt x (List.mem_append_left _ hx)
 have hbw : Below W.heap.size W W' := hk.below (Nat.le_refl _) fun _ _ x => x
 refine ⟨ds, [], p ++ q, [], p, [], hW, ?_, ?_, ?_, hbw.frame _, fun h => by cases h⟩
 ·rw [List.append_nil, hr, hb0]
  exact trodAll_mk1 ⟨1, by simp [DataW.trod, Value.cells, hb1]⟩
 ·rw [List.append_nil, ha]
  exact trodAll_stays hl hbw hall hA hlt
 ·rw [List.append_nil, hs, hv]
  rfl
end
end Go.Mer
namespace Go.Proofs.YtdibkdgafidjgaaGreatDoor
open Go.RowKit Go.Mer
def catR (R : List Row) : List UInt8 := (R.map Row.data).flatten
theorem catR_step (R : List Row) {j : Nat} (h : j < R.length) : catR (R.take (j + 1)) = catR (R.take j) ++ R[j].data := by
 rw [List.take_succ_eq_append_getElem h]
 unfold catR
 rw [List.map_append, List.flatten_append]
 simp
theorem take_snocB (l : List UInt8) {k : Nat} (h : k < l.length) : l.take (k + 1) = l.take k ++ [l[k]] := List.take_succ_eq_append_getElem h
theorem low1 {z : Nat} (h : z < 4294967296) : bits .and .u32 (z : Int) 1 = ((z % 2 : Nat) : Int) := by
 have := bits_and (k := .u32) rfl (a := z) (b := 1) h (by decide)
 rw [Nat.and_one_is_mod] at this
 exact this
theorem crc_step {z : Nat} (h : z < 4294967296) : bits .xor .u32 ((z : Int) / 2) (bits .and .u32 3988292384 (-bits .and .u32 (z : Int) 1 % 4294967296)) = ((crcBit z : Nat) : Int) := by
 rw [low1 h]
 have e2 : (z : Int) / 2 = ((z / 2 : Nat) : Int) := by omega
 rw [e2]
 unfold crcBit
 by_cases h1 : z % 2 = 1
 ·rw [if_pos h1, h1]
  have e3 : bits .and .u32 3988292384 (-((1 : Nat) : Int) % 4294967296) = ((3988292384 : Nat) : Int) := by decide +kernel
  rw [e3]
  exact bits_xor rfl (by show _ < 2 ^ 32; omega) (by decide)
 ·rw [if_neg h1, show z % 2 = 0 from by omega]
  have e3 : bits .and .u32 3988292384 (-((0 : Nat) : Int) % 4294967296) = ((0 : Nat) : Int) := by decide +kernel
  rw [e3, bits_xor rfl (by show _ < 2 ^ 32; omega) (by decide), Nat.xor_zero]
theorem crc_step1 {z : Nat} (h : z < 4294967296) (h1 : z % 2 = 1) : bits .xor .u32 ((z : Int) / 2) 3988292384 = ((crcBit z : Nat) : Int) := by
 have e2 : (z : Int) / 2 = ((z / 2 : Nat) : Int) := by omega
 unfold crcBit
 rw [if_pos h1, e2]
 exact bits_xor (b := 3988292384) rfl (by show _ < 2 ^ 32; omega) (by decide)
theorem crc_not {z : Nat} (h : z < 4294967296) : bits .xor .u32 IntKind.u32.max (z : Int) = ((z ^^^ 4294967295 : Nat) : Int) := by
 have := bits_xor (k := .u32) rfl (a := 4294967295) (b := z) (by decide) h
 rw [Nat.xor_comm] at this
 exact this
set_option maxRecDepth 100000 in
theorem Sum_any (w : World) (a : Option Addr) (cap : Nat) (R : List Row) (hR : RowsAt w a R) (hl : R.length ≤ 140737488355328) :
  Calls Tryz.prog 83 #[.slice a R.length cap] w fun e w' => e = .returned (.int .u32 (crc (catR R) : Int)) ∧ w = w' := by
 have HR := Lib.hid hR
 clear hR
 go_enter Tryz.func83, Tryz.ntmps83
 go_wp2_with fail
 go_loop [3, 10] (fun v i => ∃ j c : Nat, j ≤ R.length ∧ i = .int .i64 j ∧ v = .int .u32 (c : Int) ∧ Hid (c = crcRun 4294967295 (catR (R.take j))) ∧ c < 4294967296) (fun _ i => R.length - (intOf i).toNat)
 case atStart => exact ⟨0, 4294967295, Nat.zero_le _, rfl, rfl, rfl, by decide⟩
 case round =>
  obtain ⟨j, c, hj, rfl, rfl, HC, hc⟩ := hrel
  by_cases hlt : j < R.length
  ·obtain ⟨g0, off0, rfl, hg0, hc0, hr0, hm0⟩ := HR.out.at_ (Kp.refl _ _) hlt
   have HS := Lib.hid (catR_step R hlt)
   obtain ⟨D, hD⟩ : ∃ D, D = R[j].data := ⟨_, rfl⟩
   obtain ⟨ra, hra⟩ : ∃ ra, ra = R[j].a := ⟨_, rfl⟩
   obtain ⟨rc, hrc⟩ : ∃ rc, rc = R[j].cap := ⟨_, rfl⟩
   rw [← hD, ← hra] at hr0
   rw [← hD, ← hra, ← hrc] at hc0
   rw [← hD] at hm0 HS
   clear hD hra hrc
   have HR0 := Lib.hid hr0
   clear hr0
   go_wp2_with fail
   go_loop [3, 16] (fun v i => ∃ k c' : Nat, k ≤ D.length ∧ i = .int .i64 k ∧ v = .int .u32 (c' : Int) ∧ Hid (c' = crcRun c (D.take k)) ∧ c' < 4294967296) (fun _ i => D.length - (intOf i).toNat)
   case atStart => exact ⟨0, c, Nat.zero_le _, rfl, rfl, rfl, hc⟩
   case round =>
    obtain ⟨k, c', hk, rfl, rfl, HC', hc'⟩ := hrel
    by_cases hkl : k < D.length
    ·obtain ⟨g, off, rfl, hg, _, hcell⟩ := HR0.out.byte hkl
     have HT := Lib.hid (take_snocB D hkl)
     have hlt1 := xb_lt hc' D[k]
     have hb8 := D[k].toNat_lt
     obtain ⟨bv, hbv⟩ : ∃ bv, bv = D[k].toNat := ⟨_, rfl⟩
     rw [← hbv] at hcell hlt1 hb8
     have hx := bits_xor (k := .u32) rfl (a := c') (b := bv) hc' (by show _ < 2 ^ 32; omega)
     obtain ⟨y, hy⟩ : ∃ y, y = c' ^^^ bv := ⟨_, rfl⟩
     rw [← hy] at hx hlt1
     have HY := Lib.hid hy
     have HB := Lib.hid hbv
     clear hy hbv
     go_wp2_with fail
     go_loop [3, 24] (fun v i => ∃ q z : Nat, q ≤ 8 ∧ i = .int .i64 q ∧ v = .int .u32 (z : Int) ∧ Hid (z = crcBits q y) ∧ z < 4294967296) (fun _ i => 8 - (intOf i).toNat)
     case atStart => exact ⟨0, y, Nat.zero_le _, rfl, rfl, rfl, hlt1⟩
     case round =>
      obtain ⟨q, z, hq, rfl, rfl, HZ, hz⟩ := hrel
      clear hx
      by_cases hq8 : q < 8
      ·go_wp2_with fail
       go_round
       case rel => exact ⟨q + 1, crcBit z, by omega, by go_num, by rw [crc_step hz], by show _ = _; rw [crcBits_succ, ← show z = _ from HZ.out], crcBit_lt hz⟩
       case measure => simp [intOf]; omega
      ·obtain rfl : q = 8 := by omega
       go_wp2_with fail
       go_round
       case rel =>
        refine ⟨k + 1, z, by omega, by go_num, rfl, ?_, hz⟩
        show z = _
        rw [HT.out, crcRun_snoc, ← show c' = _ from HC'.out, show z = _ from HZ.out, show y = _ from HY.out, show bv = _ from HB.out]
        rfl
       case measure => simp [intOf]; omega
    ·obtain rfl : k = D.length := by omega
     go_wp2_with fail
     go_round
     case rel =>
      refine ⟨j + 1, c', by omega, by go_num, rfl, ?_, hc'⟩
      show c' = _
      rw [HS.out, crcRun_append, ← show c = _ from HC.out, show c' = _ from HC'.out, List.take_length]
     case measure => simp [intOf]; omega
  ·obtain rfl : j = R.length := by omega
   go_wp2_with fail
   go_ret
   refine ⟨?_, rfl⟩
   have : crc (catR R) = c ^^^ 4294967295 := by rw [show c = _ from HC.out, List.take_length]; rfl
   rw [this, ← crc_not hc]
   rfl
set_option maxRecDepth 100000 in
theorem rSum_any (w : World) (a : Option Addr) (cap : Nat) (D : List UInt8) (hD : Rd w w.heap.size a (u8s D)) (hl : D.length ≤ 140737488355328) :
  Calls Tryz.prog 85 #[.slice a D.length cap] w fun e w' => e = .returned (.int .u32 (crc D : Int)) ∧ w = w' := by
 have HD := Lib.hid hD
 clear hD
 go_enter Tryz.func85, Tryz.ntmps85
 go_wp2_with fail
 go_loop [3, 4] (fun v i => ∃ k c' : Nat, k ≤ D.length ∧ i = .int .i64 k ∧ v = .int .u32 (c' : Int) ∧ Hid (c' = crcRun 4294967295 (D.take k)) ∧ c' < 4294967296) (fun _ i => D.length - (intOf i).toNat)
 case atStart => exact ⟨0, 4294967295, Nat.zero_le _, rfl, rfl, rfl, by decide⟩
 case round =>
  obtain ⟨k, c', hk, rfl, rfl, HC', hc'⟩ := hrel
  by_cases hkl : k < D.length
  ·obtain ⟨g, off, rfl, hg, _, hcell⟩ := HD.out.byte hkl
   have HT := Lib.hid (take_snocB D hkl)
   have hlt1 := xb_lt hc' D[k]
   have hb8 := D[k].toNat_lt
   obtain ⟨bv, hbv⟩ : ∃ bv, bv = D[k].toNat := ⟨_, rfl⟩
   rw [← hbv] at hcell hlt1 hb8
   have hx := bits_xor (k := .u32) rfl (a := c') (b := bv) hc' (by show _ < 2 ^ 32; omega)
   obtain ⟨y, hy⟩ : ∃ y, y = c' ^^^ bv := ⟨_, rfl⟩
   rw [← hy] at hx hlt1
   have HY := Lib.hid hy
   have HB := Lib.hid hbv
   clear hy hbv
   go_wp2_with fail
   go_loop [3, 5] (fun v i => ∃ q z : Nat, q ≤ 8 ∧ i = .int .i64 q ∧ v = .int .u32 (z : Int) ∧ Hid (z = crcBits q y) ∧ z < 4294967296) (fun _ i => 8 - (intOf i).toNat)
   case atStart => exact ⟨0, y, Nat.zero_le _, rfl, rfl, rfl, hlt1⟩
   case round =>
    obtain ⟨q, z, hq, rfl, rfl, HZ, hz⟩ := hrel
    clear hx
    by_cases hq8 : q < 8
    ·have HL := Lib.hid (low1 hz)
     by_cases h1 : z % 2 = 1
     ·have HN := Lib.hid (crc_step1 hz h1)
      have hlo : bits .and .u32 (z : Int) 1 = 1 := by rw [HL.out, h1]; rfl
      have HH := Lib.hid h1
      clear h1
      go_wp2_with fail
      go_round
      case rel => exact ⟨q + 1, crcBit z, by omega, by go_num, by rw [HN.out], by show _ = _; rw [crcBits_succ, ← show z = _ from HZ.out], crcBit_lt hz⟩
      case measure => simp [intOf]; omega
     ·have e0 : crcBit z = z / 2 := by unfold crcBit; rw [if_neg h1]
      have hlo : bits .and .u32 (z : Int) 1 = 0 := by rw [HL.out, show z % 2 = 0 from by omega]; rfl
      have HE := Lib.hid e0
      have HH := Lib.hid h1
      clear h1 e0
      go_wp2_with fail
      go_round
      case rel => exact ⟨q + 1, z / 2, by omega, by go_num, by go_num, by show _ = _; rw [crcBits_succ, ← show z = _ from HZ.out, HE.out], by omega⟩
      case measure => simp [intOf]; omega
    ·obtain rfl : q = 8 := by omega
     go_wp2_with fail
     go_round
     case rel =>
      refine ⟨k + 1, z, by omega, by go_num, rfl, ?_, hz⟩
      show z = _
      rw [HT.out, crcRun_snoc, ← show c' = _ from HC'.out, show z = _ from HZ.out, show y = _ from HY.out, show bv = _ from HB.out]
      rfl
     case measure => simp [intOf]; omega
  ·obtain rfl : k = D.length := by omega
   go_wp2_with fail
   go_ret
   refine ⟨?_, rfl⟩
   have : crc D = c' ^^^ 4294967295 := by rw [show c' = _ from HC'.out, List.take_length]; rfl
   rw [this, ← crc_not hc']
   rfl
end Go.Proofs.YtdibkdgafidjgaaGreatDoor
namespace Go.Proofs.YtdibkdgafidjgaaGreatDoor
open Go.RowKit Go.Mer
structure Mine (w W : World) (d : Nat) (s : DSt) (F : Nat → Prop) : Prop where
 kp : Kp No w W
 disk : DiskAt W d s F
 new : ∀ k, F k → w.heap.size ≤ k
section
variable {w W W' : World} {d : Nat} {s s' : DSt} {F : Nat → Prop} {r : Int × DSt} {e : Ending} {c : Int}
theorem Mine.no (h : Mine w W d s F) (hk : Kp No W W') : Mine w W' d s F := ⟨h.kp.trans_same hk, h.disk.keep_no hk, h.new⟩
theorem Mine.turn (h : Mine w W d s F) (hk : Kp F W W') (hD : DiskAt W' d s' F) : Mine w W' d s' F := ⟨h.kp.trans hk fun i hi hf => by have := h.new i hf; omega, hD, h.new⟩
theorem Mine.step (h : Mine w W d s F) (h' : Said5 W d F r e W') (hr : r = (c, s')) : e = .returned (.int .i64 c) ∧ ∃ F', Mine w W' d s' F' ∧ Foot F F' W ∧ Kp F W W' := by
 subst hr
 obtain ⟨he, F', hD, hF, hK⟩ := h'
 exact ⟨he, F', ⟨h.kp.trans hK fun i hi hf => by have := h.new i hf; omega, hD, fun k hk => (hF k hk).elim (h.new k) fun hs => Nat.le_trans h.kp.size hs⟩, hF, hK⟩
end
theorem Rd.const (W : World) (t : TypeId) (f : Nat × Nat) (C : Array Value) (xs : List Value) (hx : C.toList = xs) : Rd (W.alloc (.cells C t f)) (W.alloc (.cells C t f)).heap.size (some ⟨W.heap.size, 0, none⟩) xs := fun _ =>
 ⟨W.heap.size, 0, rfl, by simp, Nat.le_refl _, fun j u hu => by
  rw [cell_of_row _ _ _ _ _ _ (heap_alloc_new W _)]
  subst hx
  simpa using hu⟩
theorem ReadPost.out {w w' : World} {d : Nat} {s : DSt} {F : Nat → Prop} {name : ByteArray} {e : Ending} (h : ReadPost w d s F name e w') {p : List UInt8} {c : Int} (hr : rdS s.files name = (p, c)) :
  ∃ a cap, e = .returned (.tuple #[.slice a p.length cap, .int .i64 c]) ∧ Own w' 5 1 (.slice a p.length cap) p.length (u8s p) ∧ Kp No w w' ∧ ∀ g, (Value.slice a p.length cap).ownBlock = some g → w.heap.size ≤ g := by
 obtain ⟨v, rfl, hO, hK, hg, _⟩ := h
 rw [hr] at hO ⊢
 obtain ⟨a, cap, rfl, _⟩ := hO.rd
 exact ⟨a, cap, rfl, hO, hK, hg⟩
end Go.Proofs.YtdibkdgafidjgaaGreatDoor
namespace Go.Proofs.YtdibkdgafidjgaaGreatDoor
open Go.RowKit Go.Mer
theorem gget_gset {K β : Type} [DecidableEq K] (l : List (K × β)) (k : K) (v : β) : gget (gset l k v) k = some v := by
 unfold gset
 split
 ·rename_i h
  induction l with
  | nil => cases h
  | cons p l ih =>
   by_cases hp : p.1 = k
   ·simp [gget, hp]
   ·have hl : k ∈ l.map (·.1) := by
     rw [List.map_cons] at h
     exact (List.mem_cons.1 h).resolve_left fun e => hp e.symm
    have := ih hl
    simp only [gget, List.map_cons, hp, if_false, List.find?_cons, decide_false] at this ⊢
    exact this
 ·rename_i h
  have h0 : l.find? (fun p => decide (p.1 = k)) = none := by
   have := gget_none h
   simpa only [gget, Option.map_eq_none_iff] using this
  unfold gget
  rw [List.find?_append, h0]
  simp
theorem app_bytes (w : World) (v : Value) (xs ys : List UInt8) (hown : Own w 5 1 v xs.length (u8s xs)) (a : Option Addr) (c : Nat) (hx : Rd w w.heap.size a (u8s ys)) (hl : xs.length + ys.length ≤ 140737488355328) :
  ∃ a' c' w', (Builtin.append_ #[23, 23] 23 #[v, .slice a ys.length c]).run Tryz.prog w = .ok (.slice a' (xs ++ ys).length c') w' ∧
   Own w' 5 1 (.slice a' (xs ++ ys).length c') (xs ++ ys).length (u8s (xs ++ ys)) ∧ Kp (fun k => v.ownBlock = some k) w w' ∧
   ((Value.slice a' (xs ++ ys).length c').ownBlock = v.ownBlock ∨ ∃ g, (Value.slice a' (xs ++ ys).length c').ownBlock = some g ∧ w.heap.size ≤ g) := by
 obtain ⟨i0, hi, hz0, hz1, hz2⟩ := info_parts infoByte
 obtain ⟨v', w', hrun, ho, hkp, hblk⟩ := run_append_Own (P := Tryz.prog) (w := w) 23 23 23 5 i0 (.int .u8 0) 1 1 Tryz.underlying23 ⟨_, Tryz.underlying23⟩ hi hz0 hz1 hz2 rfl
  v xs.length (u8s xs) hown (.slice a ys.length c) ys.length (u8s ys) ⟨by simp [u8s_length], a, c, rfl, hx⟩ (u8s_one ys) (by simp only [maxLen]; omega) (by omega)
 obtain ⟨_, a', c', rfl, _⟩ := id ho
 rw [← u8s_append, ← List.length_append] at ho
 rw [← List.length_append] at hrun hblk
 exact ⟨a', c', w', hrun, ho, hkp, hblk⟩
theorem cpy_bytes (w : World) (xs : List UInt8) (a : Option Addr) (c : Nat) (hx : Rd w w.heap.size a (u8s xs)) (hl : xs.length ≤ 140737488355328) :
  ∃ a' c' w', (Builtin.append_ #[23, 23] 23 #[.slice (some ⟨w.heap.size, 0, none⟩) 0 0, .slice a xs.length c]).run Tryz.prog (w.alloc (.cells #[] 5)) = .ok (.slice a' xs.length c') w' ∧
   Own w' 5 1 (.slice a' xs.length c') xs.length (u8s xs) ∧ Kp No w w' ∧ (∀ g, (Value.slice a' xs.length c').ownBlock = some g → w.heap.size ≤ g) := by
 have hal : Kp No w (w.alloc (.cells #[] 5)) := (Kp.refl _ _).alloc _
 obtain ⟨a', c', w', h1, h2, h3, h4⟩ := app_bytes (w.alloc (.cells #[] 5)) (.slice (some ⟨w.heap.size, 0, none⟩) 0 0) [] xs (Own.made w 5 1 #[] 0 0 (Nat.le_refl _) (by simp [maxLen]) (by simp) rfl) a c
  ((hx.keep hal fun _ _ x => x).mono hal.size (Nat.le_refl _)) (by simpa using hl)
 refine ⟨a', c', w', h1, h2, hal.trans h3 (fun k hk h => by simp [Value.ownBlock] at h; omega), fun g hg => ?_⟩
 rcases h4 with h4 | ⟨g', h4, h5⟩
 ·have hg2 : (Value.slice a' ([] ++ xs).length c').ownBlock = some g := hg
  rw [h4] at hg2
  simp [Value.ownBlock] at hg2
  omega
 ·have hg2 : (Value.slice a' ([] ++ xs).length c').ownBlock = some g := hg
  rw [h4] at hg2
  injection hg2 with hg2
  simp at h5
  omega
theorem cpy_bytes' (V : World) (g : Nat) (h0 : Own V 5 1 (.slice (some ⟨g, 0, none⟩) 0 0) 0 []) (xs : List UInt8) (a : Option Addr) (c : Nat) (hx : Rd V V.heap.size a (u8s xs)) (hl : xs.length ≤ 140737488355328) :
  ∃ a' c' w', (Builtin.append_ #[23, 23] 23 #[.slice (some ⟨g, 0, none⟩) 0 0, .slice a xs.length c]).run Tryz.prog V = .ok (.slice a' xs.length c') w' ∧
   Own w' 5 1 (.slice a' xs.length c') xs.length (u8s xs) ∧ Kp (One g) V w' ∧ (∀ k, (Value.slice a' xs.length c').ownBlock = some k → k = g ∨ V.heap.size ≤ k) := by
 obtain ⟨a', c', w', h1, h2, h3, h4⟩ := app_bytes V (.slice (some ⟨g, 0, none⟩) 0 0) [] xs h0 a c hx (by simpa using hl)
 refine ⟨a', c', w', h1, h2, h3.mono fun k _ hk => (Option.some.inj hk).symm, fun k hk => ?_⟩
 have hk2 : (Value.slice a' ([] ++ xs).length c').ownBlock = some k := hk
 rcases h4 with h4 | ⟨g', h4, h5⟩
 ·rw [h4] at hk2
  exact .inl (Option.some.inj hk2).symm
 ·rw [h4] at hk2
  exact .inr ((Option.some.inj hk2) ▸ h5)
structure Two (w W : World) (d : Nat) (s : DSt) (F : Nat → Prop) (v1 : Value) (xs1 : List UInt8) (v2 : Value) (xs2 : List UInt8) : Prop where
 mine : Mine w W d s F
 o1 : Own W 5 1 v1 xs1.length (u8s xs1)
 o2 : Own W 5 1 v2 xs2.length (u8s xs2)
 a1 : ∀ g, v1.ownBlock = some g → w.heap.size ≤ g ∧ ¬ F g
 a2 : ∀ g, v2.ownBlock = some g → w.heap.size ≤ g ∧ ¬ F g
 ne : ∀ g, v1.ownBlock = some g → v2.ownBlock ≠ some g
section
variable {w W W' : World} {d : Nat} {s s' : DSt} {F : Nat → Prop} {v1 v2 v' : Value} {xs1 xs2 ys : List UInt8} {r : Int × DSt} {e : Ending} {c : Int}
theorem Mine.lt (h : Mine w W d s F) : ∀ k, F k → k < W.heap.size := by
 obtain ⟨_, _, _, _, _, _, _, _, hF⟩ := h.disk
 exact hF
theorem Two.no (h : Two w W d s F v1 xs1 v2 xs2) (hk : Kp No W W') : Two w W' d s F v1 xs1 v2 xs2 :=
 ⟨h.mine.no hk, h.o1.keep hk fun _ _ x => x, h.o2.keep hk fun _ _ x => x, h.a1, h.a2, h.ne⟩
theorem Two.turn (h : Two w W d s F v1 xs1 v2 xs2) (hk : Kp F W W') (hD : DiskAt W' d s' F) : Two w W' d s' F v1 xs1 v2 xs2 :=
 ⟨h.mine.turn hk hD, h.o1.keep hk fun g hg => (h.a1 g hg).2, h.o2.keep hk fun g hg => (h.a2 g hg).2, h.a1, h.a2, h.ne⟩
theorem Two.step (h : Two w W d s F v1 xs1 v2 xs2) (h' : Said5 W d F r e W') (hr : r = (c, s')) : e = .returned (.int .i64 c) ∧ ∃ F', Two w W' d s' F' v1 xs1 v2 xs2 := by
 obtain ⟨he, F', hM, hF, hK⟩ := h.mine.step h' hr
 have h1 : ∀ g, v1.ownBlock = some g → ¬ F' g := fun g hg hf => (hF g hf).elim (h.a1 g hg).2 fun hs => by have := h.o1.lt g hg; omega
 have h2 : ∀ g, v2.ownBlock = some g → ¬ F' g := fun g hg hf => (hF g hf).elim (h.a2 g hg).2 fun hs => by have := h.o2.lt g hg; omega
 exact ⟨he, F', hM, h.o1.keep hK fun g hg => (h.a1 g hg).2, h.o2.keep hK fun g hg => (h.a2 g hg).2, fun g hg => ⟨(h.a1 g hg).1, h1 g hg⟩, fun g hg => ⟨(h.a2 g hg).1, h2 g hg⟩, h.ne⟩
theorem Two.app (h : Two w W d s F v1 xs1 v2 xs2) (hk : Kp (fun k => v1.ownBlock = some k) W W') (ho : Own W' 5 1 v' ys.length (u8s ys)) (hb : v'.ownBlock = v1.ownBlock ∨ ∃ g, v'.ownBlock = some g ∧ W.heap.size ≤ g) :
  Two w W' d s F v' ys v2 xs2 := by
 refine ⟨⟨h.mine.kp.trans hk fun i hi hv => ?_, h.mine.disk.keep hk fun k hf hv => (h.a1 k hv).2 hf, h.mine.new⟩, ho, h.o2.keep hk fun g hg hv => h.ne g hv hg, fun g hg => ?_, h.a2, fun g hg => ?_⟩
 ·have := (h.a1 i hv).1; omega
 ·rcases hb with hb | ⟨g', hb, hs⟩
  ·exact h.a1 g (hb ▸ hg)
  ·rw [hb] at hg
   injection hg with hg
   subst hg
   exact ⟨Nat.le_trans h.mine.kp.size hs, fun hf => by have := h.mine.lt _ hf; omega⟩
 ·rcases hb with hb | ⟨g', hb, hs⟩
  ·exact h.ne g (hb ▸ hg)
  ·rw [hb] at hg
   injection hg with hg
   subst hg
   exact fun h2 => by have := h.o2.lt _ h2; omega
theorem Mine.two (h : Mine w W d s F) : Two w W d s F (.slice none 0 0) [] (.slice none 0 0) [] :=
 ⟨h, Own.nil _ _ _, Own.nil _ _ _, fun g h => (by cases h), fun g h => (by cases h), fun g h => (by cases h)⟩
end
end Go.Proofs.YtdibkdgafidjgaaGreatDoor
namespace Go.Mer
open Go.ChangeShapes Go.WideShapes Go.ChangeAt Go.RowKit Go.Deep
theorem RowsAt.keep {w W : World} {a : Option Addr} {R : List Row} (h : RowsAt w a R) (hk : Kp No w W) : RowsAt W a R :=
 ⟨(h.top.keep hk fun _ _ x => x).mono hk.size (Nat.le_refl _), fun r hr => ⟨((h.each r hr).1.keep hk fun _ _ x => x).mono hk.size (Nat.le_refl _), (h.each r hr).2⟩⟩
theorem rows_made (W : World) (t : TypeId) (R : List Row) (h : ∀ r ∈ R, Rd W W.heap.size r.a (u8s r.data) ∧ r.data.length ≤ 140737488355328) : RowsAt (W.alloc (.cells (R.map Row.val).toArray t)) (some ⟨W.heap.size, 0, none⟩) R := by
 have hk : Kp No W (W.alloc (.cells (R.map Row.val).toArray t)) := (Kp.refl _ _).alloc _
 refine ⟨?_, fun r hr => ⟨((h r hr).1.keep hk fun _ _ x => x).mono hk.size (Nat.le_refl _), (h r hr).2⟩⟩
 intro hx
 refine ⟨W.heap.size, 0, rfl, by simp, Nat.le_refl _, fun j u hu => ?_⟩
 rw [Nat.zero_add, cell_of_row _ _ _ _ _ _ (heap_alloc_new W _), List.getElem?_toArray]
 exact hu
theorem one_made (W : World) (t : TypeId) (a : Option Addr) (c : Nat) (l : List UInt8) (h : Rd W W.heap.size a (u8s l)) (hl : l.length ≤ 140737488355328) :
  RowsAt (W.alloc (.cells #[.slice a l.length c] t)) (some ⟨W.heap.size, 0, none⟩) [⟨a, c, l⟩] ∧ Kp No W (W.alloc (.cells #[.slice a l.length c] t)) :=
 ⟨rows_made W t [⟨a, c, l⟩] fun r hr => by
  rw [List.mem_singleton] at hr
  subst hr
  exact ⟨h, hl⟩, (Kp.refl _ _).alloc _⟩
theorem two_made (W : World) (t : TypeId) (a a' : Option Addr) (c c' : Nat) (l l' : List UInt8) (h : Rd W W.heap.size a (u8s l)) (h' : Rd W W.heap.size a' (u8s l')) (hl : l.length ≤ 140737488355328) (hl' : l'.length ≤ 140737488355328) :
  RowsAt (W.alloc (.cells #[.slice a l.length c, .slice a' l'.length c'] t)) (some ⟨W.heap.size, 0, none⟩) [⟨a, c, l⟩, ⟨a', c', l'⟩] ∧ Kp No W (W.alloc (.cells #[.slice a l.length c, .slice a' l'.length c'] t)) :=
 ⟨rows_made W t [⟨a, c, l⟩, ⟨a', c', l'⟩] fun r hr => by
  rcases List.mem_cons.1 hr with hr | hr
  ·subst hr
   exact ⟨h, hl⟩
  ·rw [List.mem_singleton] at hr
   subst hr
   exact ⟨h', hl'⟩, (Kp.refl _ _).alloc _⟩
theorem rd_holds {W : World} {a : Option Addr} {c : Nat} {l : List UInt8} (h : Rd W W.heap.size a (u8s l)) : Lib.HoldsBytes W (.slice a l.length c) l := by
 refine ⟨a, c, rfl, fun ha => ?_, fun ad had i x hx => ?_⟩
 ·cases l with
  | nil => rfl
  | cons b l =>
   obtain ⟨g, off, hg, _⟩ := h.byte (i := 0) (by simp)
   rw [ha] at hg
   cases hg
 ·obtain ⟨hi, he⟩ := List.getElem?_eq_some_iff.1 hx
  obtain ⟨g, off, hg, _, _, hc⟩ := h.byte hi
  rw [had] at hg
  injection hg with hg
  subst hg
  rw [add_lit', hc, he]
theorem fresh_rd {B : Nat} {W : World} {v : Value} {l : List UInt8} (h : Lib.FreshBytes B W v l) : ∃ a c, v = .slice a l.length c ∧ Rd W W.heap.size a (u8s l) ∧ l.length ≤ c := by
 obtain ⟨g, cap, zs, rfl, hg, hc, _, hz, hb, hl, hcell, _⟩ := h
 refine ⟨some ⟨g, 0, none⟩, cap, rfl, fun hx => ?_, hc⟩
 have hx' : 0 < l.length := by simpa [u8s] using hx
 have h0 := hcell 0 (by omega)
 refine ⟨g, 0, rfl, World.block_lt_of_cell? W _ h0, Nat.le_refl _, fun j u hu => ?_⟩
 have hj : j < l.length := by have := (List.getElem?_eq_some_iff.1 hu).1; simpa [u8s] using this
 rw [Nat.zero_add, hcell j (by omega)]
 obtain ⟨z, hzj⟩ : ∃ z, zs[j]? = some z := ⟨zs[j]'(by omega), List.getElem?_eq_getElem _⟩
 have hrange := hb z (List.mem_of_getElem? hzj)
 have hlj : (Lib.bytesOf (zs.take l.length))[j]? = some (UInt8.ofNat z.toNat) := by
  unfold Lib.bytesOf
  simp [hj, hzj]
 rw [hl] at hlj
 have hu' : (u8s l)[j]? = some (.int .u8 ((UInt8.ofNat z.toNat).toNat : Int)) := by
  simp only [u8s, List.getElem?_map, hlj, Option.map_some, u8]
 rw [hu'] at hu
 rw [← hu, List.getD_eq_getElem?_getD, hzj, UInt8.toNat_ofNat_of_lt' (by show z.toNat < 256; omega)]
 simp only [Option.getD_some]
 congr 2
 omega
end Go.Mer
namespace Go.Proofs.YtdibkdgafidjgaaGreatDoor
open Go.RowKit Go.Mer
theorem join_nil (ls : List (List UInt8)) : Lib.join ls [] = ls.flatten := by
 induction ls with
 | nil => rfl
 | cons x r ih =>
  cases r with
  | nil => simp [Lib.join]
  | cons y r => 
   have e : Lib.join (x :: y :: r) [] = x ++ [] ++ Lib.join (y :: r) [] := by first | rfl | simp [Lib.join]
   rw [e, ih]
   simp
theorem lens_cat (R : List Row) : Lib.lens (R.map Row.data) = (catR R).length := by
 unfold catR
 induction R with
 | nil => rfl
 | cons r R ih =>
  rw [List.map_cons, List.flatten_cons, List.length_append]
  have e : Lib.lens (r.data :: R.map Row.data) = r.data.length + Lib.lens (R.map Row.data) := by first | rfl | simp [Lib.lens]
  rw [e, ih]
def RdP (w : World) (l : List UInt8) (e : Ending) (w' : World) : Prop := ∃ a c, e = .returned (.slice a l.length c) ∧ Rd w' w'.heap.size a (u8s l) ∧ l.length ≤ c ∧ Kp No w w'
theorem bJoin_any (w : World) (a : Option Addr) (cap : Nat) (R : List Row) (hR : RowsAt w a R) (hc : R.length ≤ cap) (hl : R.length ≤ 140737488355328) (hs : (catR R).length ≤ 140737488355328) :
  Calls Tryz.prog 110 #[.slice a R.length cap, .slice none 0 0] w (RdP w (catR R)) := by
 match hRR : R with
 | [] =>
  refine (Tryz.bytes_Join_none a cap (.slice none 0 0) w).mono ?_
  rintro e w' ⟨rfl, rfl⟩
  exact ⟨_, _, rfl, fun hx => (by simp [catR, u8s] at hx), Nat.le_refl _, (Kp.refl _ _).alloc _⟩
 | [r] =>
  obtain ⟨g, off, rfl, _, hcell, hrd, hm⟩ := hR.at_ (Kp.refl _ _) (j := 0) (by simp)
  have hcat : catR [r] = r.data := by simp [catR]
  rw [hcat]
  rw [Nat.add_zero] at hcell
  simp only [List.getElem_cons_zero] at hcell hrd hm
  by_cases h0 : r.data.length = 0
  ·have hd : r.data = [] := List.eq_nil_of_length_eq_zero h0
   rw [h0] at hcell
   refine (Tryz.bytes_Join_one_empty g off cap r.a r.cap (.slice none 0 0) w hcell).mono ?_
   rintro e w' ⟨rfl, rfl⟩
   rw [hd]
   exact ⟨none, 0, rfl, Rd.nil _ _ _, Nat.le_refl _, Kp.refl _ _⟩
  ·obtain ⟨g1, o1, hra, _⟩ := hrd.byte (i := 0) (by omega)
   rw [hra] at hcell
   refine (Tryz.bytes_Join_one g off cap ⟨g1, o1, none⟩ r.cap r.data (.slice none 0 0) w hcell (fun i x hx => ?_) (by omega) hm).mono ?_
   ·obtain ⟨hi, he⟩ := List.getElem?_eq_some_iff.1 hx
    obtain ⟨g2, o2, hg, _, _, hc2⟩ := hrd.byte hi
    rw [hra] at hg
    injection hg with hg
    injection hg with e1 e2
    subst e1; subst e2
    rw [add_lit', hc2, he]
   ·rintro e w' ⟨v, rfl, hf, hb⟩
    obtain ⟨a', c', rfl, hrd', hcc⟩ := fresh_rd hf
    exact ⟨a', c', rfl, hrd', hcc, Kp.of_below (S := No) hb (fun k h1 h2 => absurd h1 (by omega))⟩
 | r1 :: r2 :: R' =>
  obtain ⟨g, off, rfl, _, hcell, _, _⟩ := hR.at_ (Kp.refl _ _) (j := 0) (by simp)
  have hP : Lib.PartsAt w ⟨g, off, none⟩ ((r1 :: r2 :: R').map Row.val) ((r1 :: r2 :: R').map Row.data) := by
   refine ⟨by rw [List.length_map, List.length_map], fun i v hv => ?_, fun i v l hv hl => ?_⟩
   ·obtain ⟨hi, he⟩ := List.getElem?_eq_some_iff.1 hv
    rw [List.length_map] at hi
    obtain ⟨g', o', hg', _, hc', _, _⟩ := hR.at_ (Kp.refl _ _) hi
    injection hg' with hg'
    injection hg' with e1 e2
    subst e1; subst e2
    rw [add_lit', hc', ← he, List.getElem_map]
    rfl
   ·rw [List.getElem?_map] at hv hl
    obtain ⟨r, hr, rfl⟩ := Option.map_eq_some_iff.1 hv
    rw [hr] at hl
    injection hl with hl
    subst hl
    exact rd_holds ((hR.each r (List.mem_of_getElem? hr)).1)
  refine (Tryz.bytes_Join_many g off (r1 :: r2 :: R').length cap _ _ (.slice none 0 0) [] w (by rw [List.length_map]) (by simp) hP hc ⟨none, 0, rfl, fun _ => rfl, fun _ h => (by cases h)⟩ hl (by rw [lens_cat, List.length_nil, Nat.zero_mul]; exact hs)).mono ?_
  rintro e w' ⟨v, rfl, hf, hb⟩
  rw [join_nil] at hf
  obtain ⟨a', c', rfl, hrd', hcc⟩ := fresh_rd hf
  exact ⟨a', c', rfl, hrd', hcc, Kp.of_below (S := No) hb (fun k h1 h2 => absurd h1 (by omega))⟩
theorem Join_any (w : World) (a : Option Addr) (cap : Nat) (R : List Row) (hR : RowsAt w a R) (hc : R.length ≤ cap) (hl : R.length ≤ 140737488355328) (hs : (catR R).length ≤ 140737488355328) :
  Calls Tryz.prog 80 #[.slice a R.length cap] w (RdP w (catR R)) := by
 have HJ := Lib.hid (bJoin_any w a cap R hR hc hl hs)
 clear hR hc hl hs
 go_enter Tryz.func80, Tryz.ntmps80
 go_wp2_with fail
 refine HJ.out.mono ?_
 rintro e w' ⟨a', c', rfl, h1, h2, h3⟩
 go_wp2_with fail
 go_ret
 exact ⟨a', c', rfl, h1, h2, h3⟩
end Go.Proofs.YtdibkdgafidjgaaGreatDoor

