/-
  The reference's disk in memory: its struct, its row of files in the order of their names; and that it is what the document's disk is.
-/
import Derived.Test.YtenidddbjobblaaDisk
import Derived.Test.YtenidddbjobblaaChunk
import Derived.Sort.Walk0
namespace Go.Mer
open Go Go.RowKit
/-! ### the order of names -/
def NLt (x y : ByteArray) : Prop := x.data.toList < y.data.toList
instance decNLt (x y : ByteArray) : Decidable (NLt x y) := inferInstanceAs (Decidable (x.data.toList < y.data.toList))
theorem bytes_inj {x y : ByteArray} (h : x.data.toList = y.data.toList) : x = y := by
  obtain ⟨x⟩ := x
  obtain ⟨y⟩ := y
  exact congrArg ByteArray.mk (Array.toList_inj.1 h)
theorem nlt_irr (x : ByteArray) : ¬ NLt x x := List.lt_irrefl _
theorem nlt_trans {x y z : ByteArray} (h : NLt x y) (h' : NLt y z) : NLt x z := List.lt_trans h h'
theorem nlt_tri (x y : ByteArray) : NLt x y ∨ x = y ∨ NLt y x := by
  by_cases h : x.data.toList < y.data.toList
  · exact .inl h
  · have h1 : y.data.toList ≤ x.data.toList := List.not_lt.1 h
    by_cases h2 : y.data.toList < x.data.toList
    · exact .inr (.inr h2)
    · exact .inr (.inl (bytes_inj (List.le_antisymm (List.not_lt.1 h2) h1)))
theorem less_nlt (x y : ByteArray) : Op.bytesLess x.toList y.toList = decide (NLt x y) := by
  rw [Go.Proofs.bytesLess_eq, Lib.toList_data, Lib.toList_data]
  rfl
theorem less_yes {x y : ByteArray} (h : NLt x y) : Op.bytesLess x.toList y.toList = true := by rw [less_nlt]; exact decide_eq_true h
theorem less_no {x y : ByteArray} (h : ¬ NLt x y) : Op.bytesLess x.toList y.toList = false := by rw [less_nlt]; exact decide_eq_false h
/-! ### what two lists of one and the same pairs tell -/
section
variable {K β : Type} [DecidableEq K]
theorem gget_perm {T S : List (K × β)} (hp : T.Perm S) (hn : (T.map (·.1)).Nodup) (k : K) : gget T k = gget S k := by
  have hn' : (S.map (·.1)).Nodup := (hp.map _).nodup_iff.1 hn
  cases h : gget S k with
  | none =>
    refine gget_none fun hm => gget_none_iff.1 h ?_
    exact (hp.map _).mem_iff.1 hm
  | some v => exact gget_some hn (hp.mem_iff.2 (gget_mem h))
theorem gset_perm {T S : List (K × β)} (hp : T.Perm S) (k : K) (v : β) : (gset T k v).Perm (gset S k v) := by
  unfold gset
  by_cases h : k ∈ T.map (·.1)
  · rw [if_pos h, if_pos ((hp.map _).mem_iff.1 h)]
    exact hp.map _
  · rw [if_neg h, if_neg (fun h' => h ((hp.map _).mem_iff.2 h'))]
    exact hp.append_right _
theorem gdel_perm {T S : List (K × β)} (hp : T.Perm S) (k : K) : (gdel T k).Perm (gdel S k) := hp.filter _
theorem gset_mid {l1 l2 : List (K × β)} {k : K} (v : β) (h : k ∉ (l1 ++ l2).map (·.1)) : (l1 ++ (k, v) :: l2).Perm (gset (l1 ++ l2) k v) := by
  rw [gset_new h, List.append_assoc]
  exact List.Perm.append_left _ ((List.perm_append_singleton (k, v) l2).symm)
theorem gdel_mid {l1 l2 : List (K × β)} {k : K} {u : β} (hn : ((l1 ++ (k, u) :: l2).map (·.1)).Nodup) : gdel (l1 ++ (k, u) :: l2) k = l1 ++ l2 := by
  have hm : ∀ p ∈ l1 ++ l2, p.1 ≠ k := fun p hp e => by
    rw [List.map_append, List.map_cons, List.nodup_append] at hn
    rcases List.mem_append.1 hp with hp | hp
    · exact hn.2.2 _ (List.mem_map.2 ⟨p, hp, rfl⟩) _ (List.mem_cons_self ..) e
    · exact (List.nodup_cons.1 hn.2.1).1 (List.mem_map.2 ⟨p, hp, e⟩)
  unfold gdel
  rw [List.filter_append, List.filter_cons]
  simp only [ne_eq, not_true_eq_false, decide_false, Bool.false_eq_true, if_false]
  rw [List.filter_eq_self.2 fun p hp => by simpa using hm p (List.mem_append_left _ hp), List.filter_eq_self.2 fun p hp => by simpa using hm p (List.mem_append_right _ hp)]
end
end Go.Mer
namespace Go.Proofs.Ytenidddbjobblaa
open Go.RowKit Go.Mer

structure RFile where
  name : ByteArray
  a : Option Addr
  cap : Nat
  data : List UInt8
  lasts : Nat
def RFile.val (f : RFile) : Value := .slice f.a f.data.length f.cap
def RFile.cells (f : RFile) : List Value := [.string f.name, .slice f.a f.data.length f.cap, .int .i64 (f.lasts : Int)]
def RFile.pair (f : RFile) : ByteArray × FileS := (f.name, ⟨f.data, f.lasts⟩)
theorem RFile.cells_len (f : RFile) : f.cells.length = 3 := rfl
theorem RFile.cells_one (f : RFile) : ∀ u ∈ f.cells, u.oneCell' = true := by
  intro u hu
  simp only [RFile.cells, List.mem_cons, List.not_mem_nil, or_false] at hu
  rcases hu with rfl | rfl | rfl <;> rfl
def absR (L : List RFile) : Files := L.map RFile.pair
def SortedR (L : List RFile) : Prop := L.Pairwise fun f g => NLt f.name g.name
def leftOf : Option Nat → Int
  | none => -1
  | some n => (n : Int)
def RFileOk (w : World) (f : RFile) : Prop := Own w 5 1 f.val f.data.length (u8s f.data) ∧ f.lasts ≤ f.data.length
structure RC (w : World) (r room : Nat) (left : Int) (rv : Value) (L : List RFile) : Prop where
  cell : w.heap[r]? = some (.cells #[.int .i64 (room : Int), rv, .int .i64 left] 75 (0, 0))
  row : Own w 77 3 rv L.length (L.flatMap RFile.cells)
  files : ∀ f ∈ L, RFileOk w f
  sorted : SortedR L
  fits : totF (absR L) ≤ room
  roomy : room ≤ 1073741824
  few : L.length ≤ 4096
  left0 : -1 ≤ left
  leftM : left ≤ 9223372036854775807
def RFP (r : Nat) (rv : Value) (L : List RFile) : Nat → Prop := fun k => k = r ∨ rv.ownBlock = some k ∨ ∃ f ∈ L, f.val.ownBlock = some k
def RAt (w : World) (r : Nat) (s : DSt) (G : Nat → Prop) : Prop :=
  ∃ rv L, RC w r s.room (leftOf s.fuse) rv L ∧ (absR L).Perm s.files ∧ (∀ k, RFP r rv L k → G k) ∧ ∀ k, G k → k < w.heap.size

section
variable {w w' : World} {r room : Nat} {left : Int} {rv : Value} {L : List RFile}
theorem keys_absR (L : List RFile) : (absR L).map (·.1) = L.map (·.name) := by simp [absR, RFile.pair, List.map_map, Function.comp_def]
theorem SortedR.keys (h : SortedR L) : ((absR L).map (·.1)).Nodup := by
  rw [keys_absR]
  exact List.pairwise_map.2 (h.imp fun hlt e => by rw [e] at hlt; exact nlt_irr _ hlt)
theorem RFileOk.keep {S : Nat → Prop} {f : RFile} (h : RFileOk w f) (hk : Kp S w w') (hS : ∀ g, f.val.ownBlock = some g → ¬ S g) : RFileOk w' f := ⟨h.1.keep hk hS, h.2⟩
theorem RC.keep {S : Nat → Prop} (h : RC w r room left rv L) (hk : Kp S w w') (hS : ∀ k, RFP r rv L k → ¬ S k) : RC w' r room left rv L :=
  { h with
    cell := hk.get h.cell (hS r (.inl rfl))
    row := h.row.keep hk fun g hg => hS g (.inr (.inl hg))
    files := fun f hf => (h.files f hf).keep hk fun g hg => hS g (.inr (.inr ⟨f, hf, hg⟩)) }
theorem RC.keep_no (h : RC w r room left rv L) (hk : Kp No w w') : RC w' r room left rv L := h.keep hk fun _ _ x => x
theorem RC.lt (h : RC w r room left rv L) : ∀ k, RFP r rv L k → k < w.heap.size := by
  rintro k (rfl | hk | ⟨f, hf, hk⟩)
  · exact get_lt h.cell
  · exact h.row.lt k hk
  · exact (h.files f hf).1.lt k hk
theorem RAt.keep {S G : Nat → Prop} {s : DSt} (h : RAt w r s G) (hk : Kp S w w') (hS : ∀ k, G k → ¬ S k) : RAt w' r s G := by
  obtain ⟨rv, L, h1, h2, h3, h4⟩ := h
  exact ⟨rv, L, h1.keep hk (fun k hf => hS k (h3 k hf)), h2, h3, fun k hf => hk.lt (h4 k hf)⟩
theorem RAt.keep_no {G : Nat → Prop} {s : DSt} (h : RAt w r s G) (hk : Kp No w w') : RAt w' r s G := h.keep hk fun _ _ x => x
/-- The row and the bytes lie apart from the struct. -/
theorem RC.row_ne (h : RC w r room left rv L) {g : Nat} (hg : rv.ownBlock = some g) : g ≠ r := by
  obtain ⟨cur, hc⟩ := h.row.type g hg
  exact ne_of_type hc h.cell (by decide)
theorem RC.data_ne (h : RC w r room left rv L) {f : RFile} (hf : f ∈ L) {g : Nat} (hg : f.val.ownBlock = some g) : g ≠ r ∧ rv.ownBlock ≠ some g := by
  obtain ⟨cur, hc⟩ := (h.files f hf).1.type g hg
  refine ⟨ne_of_type hc h.cell (by decide), fun e => ?_⟩
  obtain ⟨cur', hc'⟩ := h.row.type g e
  exact ne_of_type hc hc' (by decide) rfl
/-- The struct's fields turned. -/
theorem RC.setLeft (h : RC w r room left rv L) (left' : Int) (h0 : -1 ≤ left') (h1 : left' ≤ 9223372036854775807) (hk : Kp (One r) w w')
    (hc : w'.heap[r]? = some (.cells #[.int .i64 (room : Int), rv, .int .i64 left'] 75 (0, 0))) : RC w' r room left' rv L :=
  { h with
    cell := hc
    row := h.row.keep hk fun _ hg e => h.row_ne hg e
    files := fun f hf => (h.files f hf).keep hk fun _ hg e => (h.data_ne hf hg).1 e
    left0 := h0
    leftM := h1 }
/-! ### where a name stands -/
inductive Spot (L : List RFile) (k : ByteArray) : Nat → Bool → Prop
  | is (L1 : List RFile) (f : RFile) (L2 : List RFile) (hL : L = L1 ++ f :: L2) (hk : f.name = k) : Spot L k L1.length true
  | no (L1 L2 : List RFile) (hL : L = L1 ++ L2) (h1 : ∀ f ∈ L1, NLt f.name k) (h2 : ∀ f ∈ L2, NLt k f.name) : Spot L k L1.length false
theorem Spot.le {k : ByteArray} {i : Nat} {b : Bool} (h : Spot L k i b) : i ≤ L.length := by
  cases h with
  | is L1 f L2 hL _ => rw [hL]; simp
  | no L1 L2 hL _ _ => rw [hL]; simp
theorem spot_is {i : Nat} (hi : i < L.length) {k : ByteArray} (hk : L[i].name = k) : Spot L k i true := by
  have e : L = L.take i ++ L[i] :: L.drop (i + 1) := by
    rw [← List.drop_eq_getElem_cons hi, List.take_append_drop]
  have h := Spot.is (k := k) (L.take i) L[i] (L.drop (i + 1)) e hk
  rwa [List.length_take, Nat.min_eq_left (by omega)] at h
theorem spot_no (hs : SortedR L) {i : Nat} (hi : i ≤ L.length) {k : ByteArray} (h1 : ∀ f ∈ L.take i, NLt f.name k) (h2 : ∀ h : i < L.length, NLt k L[i].name) : Spot L k i false := by
  have h := Spot.no (k := k) (L.take i) (L.drop i) (List.take_append_drop i L).symm h1 (fun f hf => by
    by_cases hl : i < L.length
    · rw [List.drop_eq_getElem_cons hl] at hf
      rcases List.mem_cons.1 hf with rfl | hf
      · exact h2 hl
      · refine nlt_trans (h2 hl) ?_
        have hp : (L[i] :: L.drop (i + 1)).Pairwise fun f g => NLt f.name g.name := by
          rw [← List.drop_eq_getElem_cons hl]
          exact List.Pairwise.sublist (List.drop_sublist _ _) hs
        exact (List.pairwise_cons.1 hp).1 f hf
    · rw [List.drop_eq_nil_of_le (by omega)] at hf
      cases hf)
  rwa [List.length_take, Nat.min_eq_left hi] at h
theorem get_is (hs : SortedR L) {L1 L2 : List RFile} {f : RFile} (hL : L = L1 ++ f :: L2) : gget (absR L) f.name = some ⟨f.data, f.lasts⟩ :=
  gget_some hs.keys (by rw [hL]; simp [absR, RFile.pair])
theorem get_no {L1 L2 : List RFile} {k : ByteArray} (h1 : ∀ f ∈ L1, NLt f.name k) (h2 : ∀ f ∈ L2, NLt k f.name) : gget (absR (L1 ++ L2)) k = none := gget_none (by
  rw [keys_absR, List.mem_map]
  rintro ⟨f, hf, rfl⟩
  rcases List.mem_append.1 hf with hf | hf
  · exact nlt_irr _ (h1 f hf)
  · exact nlt_irr _ (h2 f hf))
theorem sorted_put {L1 L2 : List RFile} (hs : SortedR (L1 ++ L2)) {f : RFile} (h1 : ∀ g ∈ L1, NLt g.name f.name) (h2 : ∀ g ∈ L2, NLt f.name g.name) : SortedR (L1 ++ f :: L2) := by
  unfold SortedR at hs ⊢
  rw [List.pairwise_append] at hs ⊢
  refine ⟨hs.1, List.pairwise_cons.2 ⟨h2, hs.2.1⟩, fun a ha b hb => ?_⟩
  rcases List.mem_cons.1 hb with rfl | hb
  · exact h1 a ha
  · exact hs.2.2 a ha b hb
theorem sorted_del {L1 L2 : List RFile} {f : RFile} (hs : SortedR (L1 ++ f :: L2)) : SortedR (L1 ++ L2) := List.Pairwise.sublist (List.Sublist.append_left (List.sublist_cons_self f L2) L1) hs
theorem sorted_turn {L1 L2 : List RFile} {f g : RFile} (hs : SortedR (L1 ++ f :: L2)) (hn : g.name = f.name) : SortedR (L1 ++ g :: L2) := by
  unfold SortedR at hs ⊢
  rw [List.pairwise_append, List.pairwise_cons] at hs ⊢
  rw [hn]
  refine ⟨hs.1, hs.2.1, fun a ha b hb => ?_⟩
  rcases List.mem_cons.1 hb with rfl | hb
  · rw [hn]
    exact hs.2.2 a ha f (List.mem_cons_self ..)
  · exact hs.2.2 a ha b (List.mem_cons_of_mem _ hb)
/-- What is said of one of the reference's five behind the call. -/
def SaidR (w : World) (r : Nat) (G : Nat → Prop) (q : Int × DSt) (e : Ending) (w' : World) : Prop :=
  e = .returned (.int .i64 q.1) ∧ ∃ G', RAt w' r q.2 G' ∧ Foot G G' w ∧ Kp G w w'
end
end Go.Proofs.Ytenidddbjobblaa
