/-
  A disk in memory: its struct, its map, its files, each with bytes of its own; and what the document says of it, as lists.
-/
import Derived.Test.YtenidddbjobblaaProg
import Derived.Test.YtenidddbjobblaaRegion
import Derived.Test.YtenidddbjobblaaMem
import Derived.Test.YtenidddbjobblaaMaps
namespace Go.Proofs.Ytenidddbjobblaa
open Go.RowKit Go.Mer

/-! ### The document's disk -/
/-- A file: its bytes, and how many of them last. -/
structure FileS where
  data : List UInt8
  lasts : Nat
abbrev Files := List (ByteArray × FileS)
structure DSt where
  room : Nat
  fuse : Option Nat
  files : Files
def totF (l : List (ByteArray × FileS)) : Nat := (l.map fun p => p.2.data.length).sum
def nameOk (s : ByteArray) : Bool := decide (1 ≤ s.size) && decide (s.size ≤ 64)

/-! ### A disk in memory -/
structure FileR where
  blk : Nat
  v : Value
  data : List UInt8
  lasts : Nat
abbrev FilesR := List (ByteArray × FileR)
def FileR.abs (c : FileR) : FileS := ⟨c.data, c.lasts⟩
def FileR.ptr (c : FileR) : Value := .pointer (some ⟨c.blk, 0, none⟩)
def absL (L : FilesR) : Files := L.map fun p => (p.1, p.2.abs)
def ptrL (L : FilesR) : List (ByteArray × Value) := L.map fun p => (p.1, p.2.ptr)
def FileOk (w : World) (c : FileR) : Prop :=
  w.heap[c.blk]? = some (.cells #[c.v, .int .i64 (c.lasts : Int)] 67 (0, 0)) ∧ Own w 5 1 c.v c.data.length (u8s c.data) ∧ c.lasts ≤ c.data.length
structure DiskC (w : World) (d m room : Nat) (fused : Bool) (left : Int) (L : FilesR) : Prop where
  cell : w.heap[d]? = some (.cells #[.int .i64 (room : Int), .map (some m), .bool fused, .int .i64 left] 60 (0, 0))
  map : GMap Value.string w m (ptrL L)
  files : ∀ p ∈ L, FileOk w p.2
  blks : (L.map (·.2.blk)).Nodup
  rows : (L.filterMap (·.2.v.ownBlock)).Nodup
  fits : totF (absL L) ≤ room
  roomy : room ≤ 1073741824
  few : L.length ≤ 4096
  left0 : 0 ≤ left
  leftM : left ≤ 9223372036854775807
/-- The blocks of a disk. -/
def FP (d m : Nat) (L : FilesR) : Nat → Prop := fun k => k = d ∨ k = m ∨ ∃ p ∈ L, k = p.2.blk ∨ p.2.v.ownBlock = some k
def fuseOf (fused : Bool) (left : Int) : Option Nat := if fused then some left.toNat else none
def DiskAt (w : World) (d : Nat) (s : DSt) (F : Nat → Prop) : Prop :=
  ∃ m fused left L, DiskC w d m s.room fused left L ∧ s.fuse = fuseOf fused left ∧ s.files = absL L ∧ (∀ k, FP d m L k → F k) ∧ ∀ k, F k → k < w.heap.size

section
variable {w w' : World} {d m room : Nat} {fused : Bool} {left : Int} {L : FilesR}
theorem FileOk.keep {S : Nat → Prop} {c : FileR} (h : FileOk w c) (hk : Kp S w w') (h1 : ¬ S c.blk) (h2 : ∀ g, c.v.ownBlock = some g → ¬ S g) : FileOk w' c :=
  ⟨hk.get h.1 h1, h.2.1.keep hk h2, h.2.2⟩
theorem DiskC.keep {S : Nat → Prop} (h : DiskC w d m room fused left L) (hk : Kp S w w') (hS : ∀ k, FP d m L k → ¬ S k) : DiskC w' d m room fused left L :=
  { h with
    cell := hk.get h.cell (hS d (.inl rfl))
    map := h.map.of_heap (hk.block m h.map.lt (hS m (.inr (.inl rfl))))
    files := fun p hp => (h.files p hp).keep hk (hS _ (.inr (.inr ⟨p, hp, .inl rfl⟩))) fun g hg => hS g (.inr (.inr ⟨p, hp, .inr hg⟩)) }
theorem DiskC.keep_no (h : DiskC w d m room fused left L) (hk : Kp No w w') : DiskC w' d m room fused left L := h.keep hk fun _ _ x => x
theorem DiskC.lt (h : DiskC w d m room fused left L) : ∀ k, FP d m L k → k < w.heap.size := by
  rintro k (rfl | rfl | ⟨p, hp, rfl | hk⟩)
  · exact get_lt h.cell
  · exact h.map.lt
  · exact get_lt (h.files p hp).1
  · exact (h.files p hp).2.1.lt k hk
theorem keys_ptrL (L : FilesR) : (ptrL L).map (·.1) = L.map (·.1) := keys_mapv _ L
theorem keys_absL (L : FilesR) : (absL L).map (·.1) = L.map (·.1) := keys_mapv _ L
theorem DiskC.keys (h : DiskC w d m room fused left L) : (L.map (·.1)).Nodup := by have := h.map.nodup; rwa [keys_ptrL] at this
theorem DiskAt.keep {S F : Nat → Prop} {s : DSt} (h : DiskAt w d s F) (hk : Kp S w w') (hS : ∀ k, F k → ¬ S k) : DiskAt w' d s F := by
  obtain ⟨m, fused, left, L, h1, h2, h3, h4, h5⟩ := h
  exact ⟨m, fused, left, L, h1.keep hk (fun k hf => hS k (h4 k hf)), h2, h3, h4, fun k hf => hk.lt (h5 k hf)⟩
theorem DiskAt.keep_no {F : Nat → Prop} {s : DSt} (h : DiskAt w d s F) (hk : Kp No w w') : DiskAt w' d s F := h.keep hk fun _ _ x => x
/-- The fuse's two fields. -/
theorem DiskC.setFuse (h : DiskC w d m room fused left L) (fused' : Bool) (left' : Int) (h0 : 0 ≤ left') (h1 : left' ≤ 9223372036854775807) (hk : Kp (One d) w w')
    (hc : w'.heap[d]? = some (.cells #[.int .i64 (room : Int), .map (some m), .bool fused', .int .i64 left'] 60 (0, 0))) : DiskC w' d m room fused' left' L :=
  have hne : ∀ k, FP d m L k → k ≠ d → ¬ One d k := fun _ _ h1 h2 => h1 h2
  have hmd : m ≠ d := fun e => by
    obtain ⟨es, c, hm, _⟩ := h.map
    subst e
    rw [h.cell] at hm
    cases hm
  { h with
    cell := hc
    map := h.map.of_heap (hk.block m h.map.lt hmd)
    files := fun p hp => (h.files p hp).keep hk (fun e => ne_of_type (h.files p hp).1 h.cell (by decide) e) fun g hg e => by
      obtain ⟨cur, hcur⟩ := (h.files p hp).2.1.type g hg
      exact ne_of_type hcur h.cell (by decide) e
    left0 := h0
    leftM := h1 }
end

/-! ### Sums over what has come -/
def totV (l : Files) (V : List ByteArray) : Nat := totF (l.filter fun p => decide (p.1 ∈ V))
def restV {β : Type} (l : List (ByteArray × β)) (V : List ByteArray) : Nat := (l.filter fun p => decide (p.1 ∉ V)).length
theorem totF_nil : totF [] = 0 := rfl
theorem totF_cons (p : ByteArray × FileS) (l : Files) : totF (p :: l) = p.2.data.length + totF l := by simp [totF]
theorem totF_append (l k : Files) : totF (l ++ k) = totF l + totF k := by simp [totF]
theorem totV_nil (l : Files) : totV l [] = 0 := by
  unfold totV
  rw [List.filter_eq_nil_iff.2 (by simp)]
  rfl
theorem filter_step {β : Type} {l : List (ByteArray × β)} (hn : (l.map (·.1)).Nodup) {p : ByteArray × β} (hp : p ∈ l) {V : List ByteArray} (hV : p.1 ∉ V) :
    (l.filter fun q => decide (q.1 ∈ p.1 :: V)).Perm (p :: l.filter fun q => decide (q.1 ∈ V)) ∧ restV l V = restV l (p.1 :: V) + 1 := by
  induction l with
  | nil => cases hp
  | cons q l ih =>
    simp only [List.map_cons, List.nodup_cons] at hn
    rcases List.mem_cons.1 hp with rfl | hp'
    · have e1 : (l.filter fun q => decide (q.1 ∈ p.1 :: V)) = l.filter fun q => decide (q.1 ∈ V) := by
        apply List.filter_congr
        intro x hx
        have : x.1 ≠ p.1 := fun e => hn.1 (e ▸ List.mem_map.2 ⟨x, hx, rfl⟩)
        simp [this]
      have e2 : (l.filter fun q => decide (q.1 ∉ p.1 :: V)) = l.filter fun q => decide (q.1 ∉ V) := by
        apply List.filter_congr
        intro x hx
        have : x.1 ≠ p.1 := fun e => hn.1 (e ▸ List.mem_map.2 ⟨x, hx, rfl⟩)
        simp [this]
      unfold restV
      rw [List.filter_cons, List.filter_cons, List.filter_cons, List.filter_cons, e1, e2]
      simp [hV]
    · have hqp : q.1 ≠ p.1 := fun e => hn.1 (e ▸ List.mem_map.2 ⟨p, hp', rfl⟩)
      obtain ⟨i1, i2⟩ := ih hn.2 hp'
      unfold restV at i2 ⊢
      by_cases hq : q.1 ∈ V
      · constructor
        · have ea : decide (q.1 ∈ p.1 :: V) = true := by simp [hq]
          have eb : decide (q.1 ∈ V) = true := by simp [hq]
          rw [List.filter_cons, List.filter_cons, ea, eb, if_pos rfl, if_pos rfl]
          exact (i1.cons q).trans (List.Perm.swap _ _ _)
        · have ea : decide (q.1 ∉ p.1 :: V) = false := by simp [hq]
          have eb : decide (q.1 ∉ V) = false := by simp [hq]
          rw [List.filter_cons, List.filter_cons, ea, eb]
          simpa using i2
      · constructor
        · have ea : decide (q.1 ∈ p.1 :: V) = false := by simp [hq, hqp]
          have eb : decide (q.1 ∈ V) = false := by simp [hq]
          rw [List.filter_cons, List.filter_cons, ea, eb]
          simpa using i1
        · have ea : decide (q.1 ∉ p.1 :: V) = true := by simp [hq, hqp]
          have eb : decide (q.1 ∉ V) = true := by simp [hq]
          rw [List.filter_cons, List.filter_cons, ea, eb, if_pos rfl, if_pos rfl, List.length_cons, List.length_cons, i2]
theorem totF_perm {l k : Files} (h : l.Perm k) : totF l = totF k := by
  unfold totF
  exact (h.map _).sum_nat
theorem totV_step {l : Files} (hn : (l.map (·.1)).Nodup) {p : ByteArray × FileS} (hp : p ∈ l) {V : List ByteArray} (hV : p.1 ∉ V) : totV l (p.1 :: V) = totV l V + p.2.data.length := by
  unfold totV
  rw [totF_perm (filter_step hn hp hV).1, totF_cons]
  omega
theorem totF_filter (l : Files) (f : ByteArray × FileS → Bool) : totF (l.filter f) ≤ totF l := by
  induction l with
  | nil => simp
  | cons p l ih =>
    rw [List.filter_cons]
    split <;> simp only [totF_cons] <;> omega
theorem totV_le (l : Files) (V : List ByteArray) : totV l V ≤ totF l := totF_filter _ _
theorem totV_all {l : Files} {V : List ByteArray} (h : ∀ p ∈ l, p.1 ∈ V) : totV l V = totF l := by
  unfold totV
  rw [List.filter_eq_self.2 (by simpa using h)]
theorem mem_len {l : Files} {p : ByteArray × FileS} (h : p ∈ l) : p.2.data.length ≤ totF l := by
  induction l with
  | nil => cases h
  | cons q l ih =>
    rw [totF_cons]
    rcases List.mem_cons.1 h with rfl | h
    · omega
    · have := ih h; omega

theorem totF_gset {l : Files} (hn : (l.map (·.1)).Nodup) {k : ByteArray} {x y : FileS} (h : gget l k = some x) : totF (gset l k y) + x.data.length = totF l + y.data.length := by
  obtain ⟨l1, l2, rfl, _⟩ := gget_split h
  rw [gset_split hn]
  simp only [totF_append, totF_cons]
  omega
theorem totF_gset_new {l : Files} {k : ByteArray} {y : FileS} (h : gget l k = none) : totF (gset l k y) = totF l + y.data.length := by
  rw [gset_new (gget_none_iff.1 h), totF_append, totF_cons, totF_nil]
  rfl
theorem gget_abs (L : FilesR) (k : ByteArray) : gget (absL L) k = (gget L k).map FileR.abs := gget_mapv _ L k
theorem gset_abs (L : FilesR) (k : ByteArray) (c : FileR) : absL (gset L k c) = gset (absL L) k c.abs := gset_mapv _ L k c
theorem gdel_abs (L : FilesR) (k : ByteArray) : absL (gdel L k) = gdel (absL L) k := gdel_mapv _ L k

/-! ### A file turned, laid, taken away -/
section
variable {w w' : World} {d m room : Nat} {fused : Bool} {left : Int} {L l1 l2 : FilesR} {name : ByteArray} {c c' : FileR}
theorem DiskC.setFile (h : DiskC w d m room fused left L) (hc : gget L name = some c) (hblk : c'.blk = c.blk) (hk : Kp (fun k => k = c.blk ∨ c.v.ownBlock = some k) w w') (hok : FileOk w' c')
    (hrow : c'.v.ownBlock = c.v.ownBlock ∨ ∃ g, c'.v.ownBlock = some g ∧ w.heap.size ≤ g) (hfit : totF (absL (gset L name c')) ≤ room) :
    DiskC w' d m room fused left (gset L name c') ∧ Foot (FP d m L) (FP d m (gset L name c')) w ∧ Kp (FP d m L) w w' := by
  have hkeys := h.keys
  have hcf := h.files _ (gget_mem hc)
  have hmem := gget_mem hc
  obtain ⟨l1, l2, rfl, hn1⟩ := gget_split hc
  rw [gset_split hkeys] at hfit ⊢
  have hb := h.blks
  have hr := h.rows
  simp only [List.map_append, List.map_cons] at hb
  simp only [List.filterMap_append] at hr
  have hcrow : ∀ g, c.v.ownBlock = some g → ∃ cur, w.heap[g]? = some (.cells cur 5 (0, 0)) := fun g hg => hcf.2.1.type g hg
  obtain ⟨es, ck, hm, _⟩ := h.map
  have hother : ∀ p, p ∈ l1 ∨ p ∈ l2 → FileOk w' p.2 := fun p hp => by
    have hp' : p ∈ l1 ++ (name, c) :: l2 := by rcases hp with hp | hp <;> simp [hp]
    have hpf := h.files p hp'
    refine hpf.keep hk (fun hS => ?_) fun g hg hS => ?_
    · rcases hS with hS | hS
      · rw [List.nodup_append] at hb
        rcases hp with hp | hp
        · exact hb.2.2 _ (List.mem_map.2 ⟨p, hp, rfl⟩) _ (List.mem_cons_self ..) hS
        · have := (List.nodup_cons.1 hb.2.1).1
          exact this (List.mem_map.2 ⟨p, hp, hS⟩)
      · obtain ⟨cur, hcur⟩ := hcrow _ hS
        exact ne_of_type hpf.1 hcur (by decide) rfl
    · rcases hS with hS | hS
      · obtain ⟨cur, hcur⟩ := hpf.2.1.type g hg
        exact ne_of_type hcur hcf.1 (by decide) hS
      · rw [List.filterMap_cons, hS] at hr
        rw [List.nodup_append] at hr
        rcases hp with hp | hp
        · exact hr.2.2 _ (List.mem_filterMap.2 ⟨p, hp, hg⟩) _ (List.mem_cons_self ..) rfl
        · exact (List.nodup_cons.1 hr.2.1).1 (List.mem_filterMap.2 ⟨p, hp, hg⟩)
  refine ⟨{ h with cell := ?_, map := ?_, files := ?_, blks := ?_, rows := ?_, fits := hfit, few := ?_ }, ?_, hk.mono fun k _ hk => ?_⟩
  · refine hk.get h.cell fun hS => ?_
    rcases hS with hS | hS
    · exact ne_of_type h.cell hcf.1 (by decide) hS
    · obtain ⟨cur, hcur⟩ := hcrow _ hS
      exact ne_of_type h.cell hcur (by decide) rfl
  · have e : ptrL (l1 ++ (name, c') :: l2) = ptrL (l1 ++ (name, c) :: l2) := by simp [ptrL, FileR.ptr, hblk]
    rw [e]
    refine h.map.of_heap (hk.block m h.map.lt fun hS => ?_)
    rcases hS with hS | hS
    · rw [hS, hcf.1] at hm
      cases hm
    · obtain ⟨cur, hcur⟩ := hcrow _ hS
      rw [hcur] at hm
      cases hm
  · intro p hp
    rcases List.mem_append.1 hp with hp | hp
    · exact hother p (.inl hp)
    · rcases List.mem_cons.1 hp with rfl | hp
      · exact hok
      · exact hother p (.inr hp)
  · simpa [hblk] using h.blks
  · rcases hrow with hrow | ⟨g, hg, hgs⟩
    · have := h.rows
      simp only [List.filterMap_append, List.filterMap_cons] at this ⊢
      rw [hrow]
      exact this
    · have hlt : ∀ p ∈ l1 ++ (name, c) :: l2, ∀ k, p.2.v.ownBlock = some k → k ≠ g := fun p hp k hk e => by
        have := (h.files p hp).2.1.lt k hk
        omega
      simp only [List.filterMap_append, List.filterMap_cons, hg] at hr ⊢
      rw [List.nodup_append] at hr ⊢
      have hr2 : (l2.filterMap (·.2.v.ownBlock)).Nodup := by
        rcases hv : c.v.ownBlock with _ | k
        · have := hr.2.1; simpa only [hv] using this
        · have := hr.2.1; simp only [hv] at this; exact (List.nodup_cons.1 this).2
      refine ⟨hr.1, List.nodup_cons.2 ⟨fun hm => ?_, hr2⟩, fun a ha b hb' e => ?_⟩
      · obtain ⟨p, hp, hpg⟩ := List.mem_filterMap.1 hm
        exact hlt p (by simp [hp]) _ hpg rfl
      · subst e
        rcases List.mem_cons.1 hb' with rfl | hb'
        · obtain ⟨p, hp, hpg⟩ := List.mem_filterMap.1 ha
          exact hlt p (by simp [hp]) _ hpg rfl
        · refine hr.2.2 a ha a ?_ rfl
          rcases hv : c.v.ownBlock with _ | k
          · exact hb'
          · exact List.mem_cons_of_mem _ hb'
  · simpa using h.few
  · rintro k (rfl | rfl | ⟨p, hp, hpk⟩)
    · exact .inl (.inl rfl)
    · exact .inl (.inr (.inl rfl))
    · rcases List.mem_append.1 hp with hp | hp
      · exact .inl (.inr (.inr ⟨p, by simp [hp], hpk⟩))
      · rcases List.mem_cons.1 hp with rfl | hp
        · rcases hpk with hpk | hpk
          · exact .inl (.inr (.inr ⟨_, hmem, .inl (hpk.trans hblk)⟩))
          · rcases hrow with hrow | ⟨g, hg, hgs⟩
            · exact .inl (.inr (.inr ⟨_, hmem, .inr (hrow ▸ hpk)⟩))
            · right
              have : some k = some g := hpk.symm.trans hg
              injection this with this
              omega
        · exact .inl (.inr (.inr ⟨p, by simp [hp], hpk⟩))
  · exact .inr (.inr ⟨_, hmem, hk⟩)
theorem DiskC.addFile (h : DiskC w d m room fused left L) (hc : gget L name = none) (hk : Kp (One m) w w') (hm' : GMap Value.string w' m (gset (ptrL L) name c'.ptr)) (hok : FileOk w' c')
    (hblk : w.heap.size ≤ c'.blk) (hrow : ∀ g, c'.v.ownBlock = some g → w.heap.size ≤ g) (hfit : totF (absL (gset L name c')) ≤ room) (hfew : L.length < 4096) :
    DiskC w' d m room fused left (gset L name c') ∧ Foot (FP d m L) (FP d m (gset L name c')) w ∧ Kp (FP d m L) w w' := by
  have hnk := gget_none_iff.1 hc
  have hmap : ptrL (gset L name c') = gset (ptrL L) name c'.ptr := gset_mapv _ L name c'
  rw [← hmap] at hm'
  rw [gset_new hnk] at hfit hm' ⊢
  obtain ⟨es, ck, hm, _⟩ := h.map
  refine ⟨{ h with cell := ?_, map := hm', files := ?_, blks := ?_, rows := ?_, fits := hfit, few := ?_ }, ?_, hk.mono fun k _ hk => .inr (.inl hk)⟩
  · exact hk.get h.cell fun hS => by
      have hS : d = m := hS
      have hc := h.cell
      rw [hS, hm] at hc
      cases hc
  · intro p hp
    rcases List.mem_append.1 hp with hp | hp
    · refine (h.files p hp).keep hk (fun hS => ?_) fun g hg hS => ?_
      · have hf := (h.files p hp).1
        rw [show p.2.blk = m from hS, hm] at hf
        cases hf
      · obtain ⟨cur, hcur⟩ := (h.files p hp).2.1.type g hg
        rw [show g = m from hS, hm] at hcur
        cases hcur
    · simp only [List.mem_singleton] at hp
      subst hp
      exact hok
  · rw [List.map_append, List.nodup_append]
    refine ⟨h.blks, by simp, fun a ha b hb e => ?_⟩
    simp only [List.map_cons, List.map_nil, List.mem_singleton] at hb
    obtain ⟨p, hp, rfl⟩ := List.mem_map.1 ha
    have := get_lt (h.files p hp).1
    omega
  · rw [List.filterMap_append, List.nodup_append]
    refine ⟨h.rows, ?_, fun a ha b hb e => ?_⟩
    · cases hv : c'.v.ownBlock <;> simp [hv]
    · obtain ⟨p, hp, hpa⟩ := List.mem_filterMap.1 ha
      obtain ⟨q, hq, hqb⟩ := List.mem_filterMap.1 hb
      simp only [List.mem_singleton] at hq
      subst hq
      have := (h.files p hp).2.1.lt a hpa
      have := hrow b hqb
      omega
  · rw [List.length_append]
    simp
    omega
  · rintro k (rfl | rfl | ⟨p, hp, hpk⟩)
    · exact .inl (.inl rfl)
    · exact .inl (.inr (.inl rfl))
    · rcases List.mem_append.1 hp with hp | hp
      · exact .inl (.inr (.inr ⟨p, hp, hpk⟩))
      · simp only [List.mem_singleton] at hp
        subst hp
        right
        rcases hpk with rfl | hpk
        · exact hblk
        · exact hrow k hpk
end

/-! ### The program's facts -/
theorem kindStr : Try.prog.underlying 9 = some .string := Try.underlying9
theorem strKey (k : ByteArray) : MapKept.IsKey .string (Value.string k) := trivial
theorem strInj (a b : ByteArray) (h : Value.string a = Value.string b) : a = b := by injection h
theorem zeroPtr (w : World) : (zeroValue 65).run Try.prog w = .ok (.pointer none) w := by kernel_rfl
theorem infoByte : (Try.prog.info? 5).map (fun i => (i.zero, i.size, i.bytes)) = some (some (.int .u8 0), 1, 1) := by kernel_rfl
theorem look_file {w : World} {m : Nat} {l : List (ByteArray × Value)} (h : GMap Value.string w m l) (k : ByteArray) :
    (Instr.lookup 58 (.map (some m)) (.string k) false).run Try.prog w = .ok ((gget l k).getD (.pointer none)) w :=
  (run_lookup_g Try.underlying58 kindStr strKey strInj zeroPtr h k).1
end Go.Proofs.Ytenidddbjobblaa
