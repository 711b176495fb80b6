/-
  What a law's row asks behind its walk: arguments opened (rows of bytes, bytes), and 'post' where the law answers true and nothing that was there has turned.
-/
import Derived.Test.YtapikolgpmefbaaGreatDoorMem
import Derived.ProofKit
import Derived.SizedLaws
import Derived.Deep.Matrix
import Derived.Carry
namespace Go.Mer
open Go.ChangeShapes Go.WideShapes Go.ChangeAt Go.RowKit Go.Deep

/-! ### Rows of bytes that were handed in -/
structure Row where
  a : Option Addr
  cap : Nat
  data : List UInt8
def Row.val (r : Row) : Value := .slice r.a r.data.length r.cap
structure RowsAt (w : World) (a : Option Addr) (R : List Row) : Prop where
  top : Rd w w.heap.size a (R.map Row.val)
  each : ∀ r ∈ R, Rd w w.heap.size r.a (u8s r.data) ∧ r.data.length ≤ 140737488355328
def wt (R : List Row) : Nat := (R.map fun r => r.data.length + 1).sum
theorem wt_nil : wt [] = 0 := rfl
theorem wt_step (R : List Row) {j : Nat} (h : j < R.length) : wt (R.take (j + 1)) = wt (R.take j) + (R[j].data.length + 1) := by
  rw [List.take_succ_eq_append_getElem h]
  unfold wt
  rw [List.map_append, List.sum_append]
  simp
theorem wt_len (R : List Row) : R.length ≤ wt R := by
  induction R with
  | nil => simp
  | cons r R ih => simp only [wt, List.map_cons, List.sum_cons, List.length_cons] at *; omega
theorem wt_take (R : List Row) (j : Nat) : wt (R.take j) ≤ wt R := by
  induction R generalizing j with
  | nil => simp
  | cons r R ih =>
    cases j with
    | zero => simp [wt]
    | succ j => have := ih j; simp only [wt, List.take_succ_cons, List.map_cons, List.sum_cons] at *; omega
section
variable {w W : World} {a : Option Addr} {R : List Row}
theorem RowsAt.at_ (h : RowsAt w a R) (hk : Kp No w W) {j : Nat} (hj : j < R.length) :
    ∃ g off, a = some ⟨g, off, none⟩ ∧ g < w.heap.size ∧ W.cell? ⟨g, off + j, none⟩ = some (.slice R[j].a R[j].data.length R[j].cap) ∧ Rd W w.heap.size R[j].a (u8s R[j].data) ∧ R[j].data.length ≤ 140737488355328 := by
  obtain ⟨g, off, ha, hg, _, hc⟩ := h.top.at_ (i := j) (u := R[j].val) (by simp [hj])
  obtain ⟨h1, h2⟩ := h.each R[j] (List.getElem_mem hj)
  exact ⟨g, off, ha, hg, (hk.cell hg fun x => x).trans hc, h1.keep hk fun _ _ x => x, h2⟩
end

/-! ### Bytes -/
def toB (n : Int) : UInt8 := UInt8.ofNat n.toNat
theorem u8_toB {n : Int} (h : (Lit.int .u8 n).wf = true) : u8 (toB n) = .int .u8 n := by
  have h1 : IntKind.u8.min = 0 := rfl
  have h2 : IntKind.u8.max = 255 := rfl
  simp only [Lit.wf, Bool.and_eq_true, decide_eq_true_eq, h1, h2] at h
  unfold u8 toB
  rw [UInt8.toNat_ofNat_of_lt' (by show n.toNat < 256; omega)]
  congr 1
  omega
theorem rd_bytes {w : World} {a : Option Addr} {zs : List Int} (hw : ∀ n ∈ zs, (Lit.int .u8 n).wf = true) (hc : ∀ a', a = some a' → ∀ i, i < zs.length → w.cell? (a'.add i) = some (.int .u8 (zs.getD i 0))) (hn : a = none → zs = []) :
    Rd w w.heap.size a (u8s (zs.map toB)) := fun hx => by
  cases a with
  | none => rw [hn rfl] at hx; simp [u8s] at hx
  | some a' =>
    have hlen : 0 < zs.length := by simpa [u8s] using hx
    have h0 := hc a' rfl 0 hlen
    obtain ⟨g, off, spot⟩ := a'
    have hs : spot = none := by simpa [Addr.add] using World.cell?_spot h0
    subst hs
    have hg := World.block_lt_of_cell? w _ h0
    refine ⟨g, off, rfl, by simpa [Addr.add] using hg, Nat.le_refl _, fun j u hu => ?_⟩
    have hj : j < zs.length := by have := (List.getElem?_eq_some_iff.1 hu).1; simpa [u8s] using this
    have h1 := hc _ rfl j hj
    rw [add_lit'] at h1
    rw [h1]
    have : (u8s (zs.map toB))[j]? = some (u8 (toB zs[j])) := by simp [u8s, hj]
    rw [this] at hu
    rw [← hu, u8_toB (hw _ (List.getElem_mem hj))]
    simp [List.getD, hj]

section
variable {H : Type} {enc : TypeId × Value → H} {P : Program} {W : World} {ts : List TypeId} {ds : List (DataW H)}
theorem weightsAll_mem' {e : TypeId} : ∀ {l : List (DataW H)} {d : DataW H}, d ∈ l → ∀ n ∈ d.weights P e, n ∈ DataW.weightsAll P e l
  | d' :: r, d, hd, n, hn => by
    simp only [DataW.weightsAll, List.mem_append]
    rcases List.mem_cons.1 hd with rfl | h
    · exact Or.inl hn
    · exact Or.inr (weightsAll_mem' h n hn)
theorem reach_is : reachBytes = 140737488351232 := rfl

/-- Bytes that were handed in. -/
theorem open_bytes' (hsz : (DataW.weightsEach P ts ds).all (· ≤ reachBytes) = true) {j : Nat} {t e : TypeId} {d : DataW H} (hj : ts[j]? = some t) (hd : ds[j]? = some d)
    (ht : P.underlying t = some (.slice e)) (he : P.underlying e = some (.int .u8)) (ce : P.cellsOf e = 1) (be : P.bytesOf e = 1) {a : Option Addr} {len cap : Nat} {ps : List MemPlace}
    (h : DataW.Trod enc P W 0 (fun _ => true) true t (.slice a len cap) d ps) : ∃ xs : List UInt8, xs.length = len ∧ Rd W W.heap.size a (u8s xs) ∧ len ≤ 140737488351232 ∧ len ≤ cap := by
  obtain ⟨fuel, h⟩ := h
  rcases open_ints ht he ce h with ⟨hcs, _⟩ | ⟨a', len', cap', zs, hcs, _, hl, _, hz, hx, hc, hw⟩
  · simp [Value.cells] at hcs
    obtain ⟨rfl, rfl, rfl⟩ := hcs
    exact ⟨[], rfl, Rd.nil _ _ _, by simp, by simp⟩
  · simp [Value.cells] at hcs
    obtain ⟨rfl, rfl, rfl⟩ := hcs
    simp only [if_true] at hz
    simp only [Prod.mk.injEq] at hx
    obtain ⟨rfl, _⟩ := hx
    have hr := sized_slice hsz hj hd ht
    simp only [lits, List.length_map, List.length_take, List.length_drop, be, reach_is] at hr
    refine ⟨(zs.take len).map toB, by simp; omega, ?_, by omega, hl⟩
    exact rd_bytes (fun n hn => hw n (List.mem_of_mem_take hn)) (fun a'' ha i hi => by
      injection ha with ha
      subst ha
      rw [List.length_take] at hi
      rw [hc i (by omega)]
      simp only [List.getD, List.getElem?_take]
      rw [if_pos (by omega)]) (fun h => by cases h)

/-- Rows of bytes that were handed in. -/
theorem open_rows' (hsz : (DataW.weightsEach P ts ds).all (· ≤ reachBytes) = true) {j : Nat} {t e q : TypeId} {d : DataW H} (hj : ts[j]? = some t) (hd : ds[j]? = some d)
    (ht : P.underlying t = some (.slice e)) (he : P.underlying e = some (.slice q)) (hq : P.underlying q = some (.int .u8)) (ce : P.cellsOf e = 1) (cq : P.cellsOf q = 1) (be : P.bytesOf e = 24) (bq : P.bytesOf q = 1)
    {a : Option Addr} {len cap : Nat} {ps : List MemPlace} (h : DataW.Trod enc P W 0 (fun _ => true) true t (.slice a len cap) d ps) :
    ∃ R : List Row, R.length = len ∧ RowsAt W a R ∧ len ≤ 140737488351232 := by
  obtain ⟨fuel, h⟩ := h
  rcases open_int_rows ht he hq ce cq h with ⟨hcs, _⟩ | ⟨a', len', cap', A, L, C, Z, hcs, _, hl, _, hx, hrow⟩
  · simp [Value.cells] at hcs
    obtain ⟨rfl, rfl, rfl⟩ := hcs
    exact ⟨[], rfl, ⟨Rd.nil _ _ _, by simp⟩, by simp⟩
  · simp [Value.cells] at hcs
    obtain ⟨rfl, rfl, rfl⟩ := hcs
    simp only [Prod.mk.injEq] at hx
    obtain ⟨rfl, _⟩ := hx
    have hr := sized_slice hsz hj hd ht
    simp only [List.length_map, List.length_range, be, reach_is] at hr
    have hlen : ∀ r, r < len → (((Z r).take (L r)).map toB).length = L r := fun r hr => by
      obtain ⟨_, h1, _, h2, _⟩ := hrow r (by omega)
      simp
      omega
    refine ⟨(List.range len).map fun r => ⟨A r, C r, ((Z r).take (L r)).map toB⟩, by simp, ⟨fun hx => ?_, fun r hr => ?_⟩, by omega⟩
    · have h0 : 0 < len := by simpa using hx
      have hc0 := (hrow 0 (by omega)).1
      obtain ⟨g, off, spot⟩ := a'
      have hs : spot = none := by simpa [Addr.add] using World.cell?_spot hc0
      subst hs
      have hg := World.block_lt_of_cell? W _ hc0
      refine ⟨g, off, rfl, by simpa [Addr.add] using hg, Nat.le_refl _, fun i u hu => ?_⟩
      have hi : i < len := by have := (List.getElem?_eq_some_iff.1 hu).1; simpa using this
      have h1 := (hrow i (by omega)).1
      rw [add_lit'] at h1
      rw [h1]
      simp only [List.getElem?_map, List.getElem?_range hi, Option.map_some, Row.val] at hu
      rw [← hu, hlen i hi]
    · simp only [List.mem_map, List.mem_range] at hr
      obtain ⟨i, hi, rfl⟩ := hr
      obtain ⟨_, h1, _, h2, h3, h4, h5⟩ := hrow i (by omega)
      refine ⟨rd_bytes (fun n hn => h3 n (List.mem_of_mem_take hn)) (fun a'' ha k hk => ?_) (fun hn => ?_), ?_⟩
      · rw [List.length_take] at hk
        rw [(h5 a'' ha).2 k (by omega)]
        simp only [List.getD, List.getElem?_take]
        rw [if_pos (by omega)]
      · have := h4 hn
        exact List.eq_nil_of_length_eq_zero (by rw [List.length_take]; omega)
      · rw [hlen i hi]
        cases hA : A i with
        | none => have := h4 hA; omega
        | some a'' =>
          have hin : ((lits (H := H) .u8 ((Z i).take (L i))).length + (lits (H := H) .u8 ((Z i).drop (L i))).length) * P.bytesOf q ≤ reachBytes := by
            refine of_decide_eq_true (List.all_eq_true.1 hsz _ (DataW.weights_mem_each hj hd _ ?_))
            simp only [DataW.weights, ht, List.mem_cons, List.mem_append]
            refine Or.inr (Or.inl (weightsAll_mem' (d := intRow .u8 (A i) (L i) (Z i)) (List.mem_map.2 ⟨i, List.mem_range.2 hi, rfl⟩) _ ?_))
            rw [hA]
            simp [intRow, DataW.weights, he]
          simp only [lits, List.length_map, List.length_take, List.length_drop, bq, reach_is] at hin
          omega

/-- What was handed in reads as it did, where nothing that was there has turned. -/
theorem trodAll_stays (hl : laidOutB P = true) {W' : World} (hb : Below W.heap.size W W') : ∀ {ts : List TypeId} {vs : List Value} {ds : List (DataW H)} {ps : List MemPlace}, (∀ t ∈ ts, P.readableRec t = true ∧ t < P.types.size) →
    DataW.TrodAll enc P W 0 (fun _ => true) true ts vs ds ps → (∀ x ∈ ps, x.block < W.heap.size) → DataW.TrodAll enc P W' 0 (fun b => decide (b < W.heap.size)) true ts vs ds ps
  | [], [], [], _, _, h, _ => h
  | t :: ts, v :: vs, d :: ds, ps, ht, ⟨p, q, h1, h2, hp⟩, hlt => by
    obtain ⟨hr, hs⟩ := ht t (List.mem_cons_self ..)
    refine ⟨p, q, Below.trod hl hr hs h1 hb fun x hx => hlt x (by rw [hp]; simp [hx]), trodAll_stays hl hb (fun t h => ht t (List.mem_cons_of_mem _ h)) h2 fun x hx => hlt x (by rw [hp]; simp [hx]), hp⟩

/-- A law's end: it answers true, and nothing that was there has turned. -/
theorem post_law {f : Func} {s : ChangeSpec} {W' : World} {args : Array Value} {p q : List MemPlace} {tb : TypeId} (hl : laidOutB P = true) (hall : ∀ t ∈ f.params.toList, P.readableRec t = true ∧ t < P.types.size)
    (hb0 : f.resultTypes = #[tb]) (hb1 : P.underlying tb = some .bool) (hv : s.vars = []) (hr : (s.fn H ds).results = [.lit (.bool true)]) (ha : (s.fn H ds).args = ds) (hs : (s.fn H ds).vars = [])
    (hW : DataW.Whole enc P f.params.toList s.vars false W args.toList ds [] (p ++ q)) (hA : DataW.TrodAll enc P W 0 (fun _ => true) true f.params.toList args.toList ds p) (hk : Kp No W W') :
    s.post enc P f false true false false W args (.bool true) W' := by
  have hlt : ∀ x ∈ p, x.block < W.heap.size := fun x hx => hW.lt x (List.mem_append_left _ hx)
  have hbw : Below W.heap.size W W' := hk.below (Nat.le_refl _) fun _ _ x => x
  refine ⟨ds, [], p ++ q, [], p, [], hW, ?_, ?_, ?_, hbw.frame _, fun h => by cases h⟩
  · rw [List.append_nil, hr, hb0]
    exact trodAll_mk1 ⟨1, by simp [DataW.trod, Value.cells, hb1]⟩
  · rw [List.append_nil, ha]
    exact trodAll_stays hl hbw hall hA hlt
  · rw [List.append_nil, hs, hv]
    rfl
end
end Go.Mer
