/-
  Maps whose keys are plain values: what a look-up, a store, a deletion, a length and a range do, over a list of pairs.
-/
import Derived.Maps.RangeRun
import Derived.Maps.OwnOps
import Derived.WalkKit
import Derived.Deep.Draws
namespace Go.Mer
open Go Go.RowKit Go.MapKept
open Go.ChangeMaps (setBlock)

instance decBytes : DecidableEq ByteArray := fun a b =>
  if h : a.data = b.data then isTrue (by cases a; cases b; simp only at h; rw [h]) else isFalse fun e => h (by rw [e])
instance lawBytes : LawfulBEq ByteArray where
  eq_of_beq h := (MapKept.bytes_beq _ _).1 h
  rfl := (MapKept.bytes_beq _ _).2 rfl

section
variable {K β : Type} [DecidableEq K]
/-! ### Lists of pairs: with a test of keys -/
def gget (l : List (K × β)) (k : K) : Option β := (l.find? fun p => decide (p.1 = k)).map (·.2)
def gset (l : List (K × β)) (k : K) (v : β) : List (K × β) := if k ∈ l.map (·.1) then l.map (fun p => if p.1 = k then (k, v) else p) else l ++ [(k, v)]
def gdel (l : List (K × β)) (k : K) : List (K × β) := l.filter fun p => decide (p.1 ≠ k)

theorem gget_none {l : List (K × β)} {k : K} (h : k ∉ l.map (·.1)) : gget l k = none := by
  simp only [gget, Option.map_eq_none_iff, List.find?_eq_none, decide_eq_true_eq]
  intro p hp e
  exact h (List.mem_map.2 ⟨p, hp, e⟩)
theorem gget_some {l : List (K × β)} {k : K} {v : β} (hn : (l.map (·.1)).Nodup) (h : (k, v) ∈ l) : gget l k = some v := by
  induction l with
  | nil => cases h
  | cons p l ih =>
    simp only [List.map_cons, List.nodup_cons] at hn
    unfold gget
    by_cases hp : p.1 = k
    · simp only [List.find?_cons, hp, decide_true, Option.map_some]
      rcases List.mem_cons.1 h with h | h
      · rw [← h]
      · exact absurd (List.mem_map.2 ⟨_, h, rfl⟩) (hp ▸ hn.1)
    · rcases List.mem_cons.1 h with h | h
      · exact absurd (by rw [← h]) hp
      · simp only [List.find?_cons, hp, decide_false]
        exact ih hn.2 h
theorem gget_mem {l : List (K × β)} {k : K} {v : β} (h : gget l k = some v) : (k, v) ∈ l := by
  unfold gget at h
  obtain ⟨p, hp, rfl⟩ := Option.map_eq_some_iff.1 h
  have h1 := List.find?_some hp
  have h2 := List.mem_of_find?_eq_some hp
  simp only [decide_eq_true_eq] at h1
  rw [← h1]
  exact h2
theorem gset_set {l : List (K × β)} {k : K} {v : β} {j : Nat} {u : β} (hn : (l.map (·.1)).Nodup) (h : l[j]? = some (k, u)) : gset l k v = l.set j (k, v) := by
  have hm : k ∈ l.map (·.1) := List.mem_map.2 ⟨_, List.mem_of_getElem? h, rfl⟩
  unfold gset
  rw [if_pos hm]
  apply List.ext_getElem?
  intro i
  rw [List.getElem?_map, List.getElem?_set]
  by_cases hij : j = i
  · subst hij
    have hj := (List.getElem?_eq_some_iff.1 h).1
    rw [if_pos rfl, if_pos hj, h]
    simp
  · rw [if_neg hij]
    cases hi : l[i]? with
    | none => rfl
    | some p =>
      have : p.1 ≠ k := fun e => hij (by
        have h1 : (l.map (·.1))[j]? = some k := by simp [h]
        have h2 : (l.map (·.1))[i]? = some k := by simp [hi, e]
        have hjl := (List.getElem?_eq_some_iff.1 h1).1
        exact (List.getElem?_inj hjl hn).1 (h1.trans h2.symm))
      simp [this]
theorem gdel_erase {l : List (K × β)} {k : K} {j : Nat} {u : β} (hn : (l.map (·.1)).Nodup) (h : l[j]? = some (k, u)) : gdel l k = l.eraseIdx j := by
  induction l generalizing j with
  | nil => simp at h
  | cons p l ih =>
    simp only [List.map_cons, List.nodup_cons] at hn
    cases j with
    | zero =>
      simp only [List.getElem?_cons_zero, Option.some.injEq] at h
      subst h
      simp only [gdel, List.filter_cons, ne_eq, not_true_eq_false, decide_false, Bool.false_eq_true, if_false, List.eraseIdx_cons_zero]
      refine List.filter_eq_self.2 fun q hq => ?_
      simp only [decide_eq_true_eq]
      exact fun e => hn.1 (List.mem_map.2 ⟨q, hq, e⟩)
    | succ j =>
      simp only [List.getElem?_cons_succ] at h
      have hpk : p.1 ≠ k := fun e => hn.1 (by
        rw [e]
        exact List.mem_map.2 ⟨_, List.mem_of_getElem? h, rfl⟩)
      have := ih hn.2 h
      simp only [gdel, List.filter_cons, hpk, ne_eq, not_false_eq_true, decide_true, if_true, List.eraseIdx_cons_succ] at this ⊢
      rw [this]
theorem gdel_none {l : List (K × β)} {k : K} (h : k ∉ l.map (·.1)) : gdel l k = l :=
  List.filter_eq_self.2 fun p hp => by
    simp only [decide_eq_true_eq]
    exact fun e => h (List.mem_map.2 ⟨p, hp, e⟩)

omit [DecidableEq K] in
theorem keys_mapv {γ : Type} (f : β → γ) (l : List (K × β)) : (l.map fun p => (p.1, f p.2)).map (·.1) = l.map (·.1) := by simp [List.map_map, Function.comp_def]
theorem gget_mapv {γ : Type} (f : β → γ) (l : List (K × β)) (k : K) : gget (l.map fun p => (p.1, f p.2)) k = (gget l k).map f := by
  induction l with
  | nil => rfl
  | cons p l ih =>
    unfold gget at ih ⊢
    by_cases hp : p.1 = k
    · simp [hp]
    · simpa [List.find?_cons, hp] using ih
theorem gset_mapv {γ : Type} (f : β → γ) (l : List (K × β)) (k : K) (v : β) : (gset l k v).map (fun p => (p.1, f p.2)) = gset (l.map fun p => (p.1, f p.2)) k (f v) := by
  unfold gset
  rw [keys_mapv]
  split
  · simp only [List.map_map]
    apply List.map_congr_left
    intro p _
    simp only [Function.comp_def]
    split <;> rfl
  · simp
theorem gdel_mapv {γ : Type} (f : β → γ) (l : List (K × β)) (k : K) : (gdel l k).map (fun p => (p.1, f p.2)) = gdel (l.map fun p => (p.1, f p.2)) k := by
  unfold gdel
  rw [List.filter_map]
  rfl
theorem gget_none_iff {l : List (K × β)} {k : K} : gget l k = none ↔ k ∉ l.map (·.1) := by
  constructor
  · intro h hm
    obtain ⟨p, hp, he⟩ := List.mem_map.1 hm
    simp only [gget, Option.map_eq_none_iff, List.find?_eq_none, decide_eq_true_eq] at h
    exact h p hp he
  · exact gget_none
theorem gget_split {l : List (K × β)} {k : K} {v : β} (h : gget l k = some v) : ∃ l1 l2, l = l1 ++ (k, v) :: l2 ∧ k ∉ l1.map (·.1) := by
  induction l with
  | nil => simp [gget] at h
  | cons p l ih =>
    by_cases hp : p.1 = k
    · refine ⟨[], l, ?_, by simp⟩
      simp only [gget, List.find?_cons, hp, decide_true, Option.map_some, Option.some.injEq] at h
      rw [List.nil_append, ← h, ← hp]
    · have h' : gget l k = some v := by simpa [gget, List.find?_cons, hp] using h
      obtain ⟨l1, l2, rfl, hn⟩ := ih h'
      refine ⟨p :: l1, l2, rfl, ?_⟩
      simp only [List.map_cons, List.mem_cons, not_or]
      exact ⟨fun e => hp e.symm, hn⟩
theorem gset_split {l1 l2 : List (K × β)} {k : K} {u v : β} (hn : ((l1 ++ (k, u) :: l2).map (·.1)).Nodup) : gset (l1 ++ (k, u) :: l2) k v = l1 ++ (k, v) :: l2 := by
  rw [gset_set (j := l1.length) (u := u) hn (by simp)]
  simp
theorem gdel_split {l1 l2 : List (K × β)} {k : K} {u : β} (hn : ((l1 ++ (k, u) :: l2).map (·.1)).Nodup) : gdel (l1 ++ (k, u) :: l2) k = l1 ++ l2 := by
  rw [gdel_erase (j := l1.length) (u := u) hn (by simp)]
  simp [List.eraseIdx_append_of_length_le]
theorem gset_new {l : List (K × β)} {k : K} {v : β} (h : k ∉ l.map (·.1)) : gset l k v = l ++ [(k, v)] := by unfold gset; rw [if_neg h]

end
/-! ### The map in memory -/
section
variable {K : Type}
/-- Block m is a map with these pairs, in the order in which they came. -/
def GMap (kv : K → Value) (w : World) (m : Nat) (l : List (K × Value)) : Prop :=
  ∃ es clock, w.heap[m]? = some (.map es clock) ∧ Stamped es clock ∧ es.toList.map (fun e => (e.key, e.val)) = l.map (fun p => (kv p.1, p.2))

section
variable {kv : K → Value} {w w' : World} {m : Nat} {l : List (K × Value)}
theorem GMap.of_heap (h : GMap kv w m l) (hh : w'.heap[m]? = w.heap[m]?) : GMap kv w' m l := by
  obtain ⟨es, clock, h1, h2⟩ := h
  exact ⟨es, clock, hh.trans h1, h2⟩
theorem GMap.drewN (h : GMap kv w m l) (n : Nat) : GMap kv (w.drewN n) m l := h
theorem GMap.lt (h : GMap kv w m l) : m < w.heap.size := by
  obtain ⟨es, clock, h1, h2⟩ := h
  exact (Array.getElem?_eq_some_iff.1 h1).1
theorem GMap.nodup (h : GMap kv w m l) : (l.map (·.1)).Nodup := by
  obtain ⟨es, clock, _, ⟨_, _, h3⟩, h4⟩ := h
  have : es.toList.map (·.key) = (l.map (·.1)).map kv := by
    have := congrArg (List.map (·.1)) h4
    simpa [List.map_map, Function.comp_def] using this
  rw [this] at h3
  exact (List.pairwise_map.1 h3).imp fun hne e => hne (congrArg _ e)
theorem GMap.made (kv : K → Value) (w : World) : GMap kv (w.alloc (.map #[] 0)) w.heap.size [] := ⟨#[], 0, (heap_alloc w _).1, stamped_empty 0, rfl⟩
end

section
variable {P : Program} {kv : K → Value} {w : World} {m : Nat} {l : List (K × Value)} {t kt et : TypeId} {d : TypeDesc}
theorem find_at (hkv : ∀ k, IsKey d (kv k)) (hinj : ∀ a b, kv a = kv b → a = b) {es : Array MapEntry} (hp : es.toList.map (fun e => (e.key, e.val)) = l.map (fun p => (kv p.1, p.2))) (k : K) :
    (Instr.findNow d (kv k) es.toList 0 = some none ∧ k ∉ l.map (·.1) ∧ ∀ x ∈ es.toList, x.key ≠ kv k) ∨ ∃ j e, Instr.findNow d (kv k) es.toList 0 = some (some (j, e.val)) ∧ es.toList[j]? = some e ∧ e.key = kv k ∧ l[j]? = some (k, e.val) := by
  have hkeys : ∀ x ∈ es.toList, IsKey d x.key := fun x hx => by
    have : (x.key, x.val) ∈ l.map (fun p => (kv p.1, p.2)) := hp ▸ List.mem_map.2 ⟨x, hx, rfl⟩
    obtain ⟨p, _, he⟩ := List.mem_map.1 this
    injection he with he _
    rw [← he]
    exact hkv _
  rcases findNow_spec (hkv k) es.toList 0 hkeys with ⟨h1, h2⟩ | ⟨j, e, h1, h2, h3⟩
  · refine .inl ⟨h1, fun hm => ?_, h2⟩
    obtain ⟨p, hpl, hpk⟩ := List.mem_map.1 hm
    have : (kv p.1, p.2) ∈ es.toList.map (fun e => (e.key, e.val)) := hp ▸ List.mem_map.2 ⟨p, hpl, rfl⟩
    obtain ⟨x, hx, he⟩ := List.mem_map.1 this
    injection he with he _
    exact h2 x hx (by rw [he, hpk])
  · refine .inr ⟨j, e, by simpa using h1, h2, h3, ?_⟩
    have h5 : (es.toList.map (fun e => (e.key, e.val)))[j]? = some (e.key, e.val) := by simp [h2]
    rw [hp, List.getElem?_map] at h5
    obtain ⟨p, hpj, he⟩ := Option.map_eq_some_iff.1 h5
    injection he with he1 he2
    rw [hpj]
    have : p.1 = k := hinj _ _ (he1.trans h3)
    rw [← this, ← he2]

end
section
variable [DecidableEq K]
variable {P : Program} {kv : K → Value} {w : World} {m : Nat} {l : List (K × Value)} {t kt et : TypeId} {d : TypeDesc}
/-- v := m[k]; v, ok := m[k] -/
theorem run_lookup_g (ht : P.underlying t = some (.map kt et)) (hk : P.underlying kt = some d) (hkv : ∀ k, IsKey d (kv k)) (hinj : ∀ a b, kv a = kv b → a = b)
    {z : Value} (hz : ∀ w : World, (zeroValue et).run P w = .ok z w) (h : GMap kv w m l) (k : K) :
    (Instr.lookup t (.map (some m)) (kv k) false).run P w = .ok ((gget l k).getD z) w ∧
    (Instr.lookup t (.map (some m)) (kv k) true).run P w = .ok (.tuple #[(gget l k).getD z, .bool (gget l k).isSome]) w := by
  obtain ⟨es, clock, hm, hs, hp⟩ := id h
  rcases find_at hkv hinj hp k with ⟨h1, h2, _⟩ | ⟨j, e, h1, h2, h3, h4⟩
  · rw [gget_none h2]
    constructor <;> simp [Instr.lookup, run_underlying ht, MapKept.run_getObj_map hm, run_checkKey hk (hkv k), run_findKey hk h1, hz, Result.andThen]
  · rw [gget_some h.nodup (List.mem_of_getElem? h4)]
    constructor <;> simp [Instr.lookup, run_underlying ht, MapKept.run_getObj_map hm, run_checkKey hk (hkv k), run_findKey hk h1, Result.andThen]
end
section
variable {P : Program} {kv : K → Value} {w : World} {m : Nat} {l : List (K × Value)} {t kt et : TypeId} {d : TypeDesc}
theorem run_lookup_nil (ht : P.underlying t = some (.map kt et)) (hk : P.underlying kt = some d) (hkv : ∀ k, IsKey d (kv k))
    {z : Value} (hz : ∀ w : World, (zeroValue et).run P w = .ok z w) (k : K) :
    (Instr.lookup t (.map none) (kv k) false).run P w = .ok z w := by
  simp [Instr.lookup, run_underlying ht, run_checkKey hk (hkv k), Instr.findKey, run_underlying hk, Instr.findNow, hz, Result.andThen]

end
section
variable [DecidableEq K]
variable {P : Program} {kv : K → Value} {w : World} {m : Nat} {l : List (K × Value)} {t kt et : TypeId} {d : TypeDesc}
/-- m[k] = v -/
theorem run_update_g (ht : P.underlying t = some (.map kt et)) (hk : P.underlying kt = some d) (hkv : ∀ k, IsKey d (kv k)) (hinj : ∀ a b, kv a = kv b → a = b)
    (h : GMap kv w m l) (k : K) (v : Value) :
    ∃ o, (Instr.mapUpdate t (.map (some m)) (kv k) v).run P w = .ok () (setBlock w m o) ∧ ∀ w', w'.heap[m]? = some o → GMap kv w' m (gset l k v) := by
  obtain ⟨es, clock, hm, hs, hp⟩ := id h
  rcases find_at hkv hinj hp k with ⟨h1, h2, h3⟩ | ⟨j, e, h1, h2, h3, h4⟩
  · refine ⟨.map (es.push { key := kv k, val := v, born := clock }) (clock + 1), ?_, fun w' hw' => ⟨_, _, hw', stamped_push hs h3, ?_⟩⟩
    · simp [Instr.mapUpdate, run_underlying ht, MapKept.run_getObj_map hm, run_checkKey hk (hkv k), run_findKey hk h1, MapKept.run_setObj_map _ hm, Result.andThen, setBlock]
    · unfold gset
      rw [if_neg h2]
      simp [hp]
  · have hj : es[j]? = some e := by simpa using h2
    refine ⟨.map (es.modify j fun e => { e with key := kv k, val := v }) clock, ?_, fun w' hw' => ⟨_, _, hw', stamped_modify hs j _ (fun _ _ => rfl) (fun e' _ he' => by rw [hj] at he'; cases he'; exact h3.symm), ?_⟩⟩
    · simp [Instr.mapUpdate, run_underlying ht, MapKept.run_getObj_map hm, run_checkKey hk (hkv k), run_findKey hk h1, hj, h3, run_keyThatStays (hkv k), MapKept.run_setObj_map _ hm, Result.andThen, setBlock]
    · rw [gset_set h.nodup h4, List.map_set, ← hp, Array.toList_modify]
      apply List.ext_getElem?
      intro i
      simp only [List.getElem?_map, List.getElem?_modify, List.getElem?_set, List.length_map]
      have hjl := (List.getElem?_eq_some_iff.1 h2).1
      by_cases hij : j = i
      · subst hij
        have hjs : j < es.size := by simpa using hjl
        simp [hjs]
      · simp [hij]

/-- delete(m, k) -/
theorem run_delete_g {ty : TypeId} (ht : P.underlying t = some (.map kt et)) (hk : P.underlying kt = some d) (hkv : ∀ k, IsKey d (kv k)) (hinj : ∀ a b, kv a = kv b → a = b)
    (h : GMap kv w m l) (k : K) :
    ∃ o, (Builtin.delete_ #[t, kt] ty #[.map (some m), kv k]).run P w = .ok (.tuple #[]) (setBlock w m o) ∧ ∀ w', w'.heap[m]? = some o → GMap kv w' m (gdel l k) := by
  obtain ⟨es, clock, hm, hs, hp⟩ := id h
  rcases find_at hkv hinj hp k with ⟨h1, h2, h3⟩ | ⟨j, e, h1, h2, h3, h4⟩
  · refine ⟨.map es clock, ?_, fun w' hw' => ⟨_, _, hw', hs, ?_⟩⟩
    · simp [Builtin.delete_, run_underlying ht, MapKept.run_getObj_map hm, run_checkKey hk (hkv k), run_findKey hk h1, MapKept.run_setObj_map _ hm, Result.andThen, setBlock]
    · rw [gdel_none h2, hp]
  · refine ⟨.map (es.eraseIdxIfInBounds j) clock, ?_, fun w' hw' => ⟨_, _, hw', stamped_erase hs j, ?_⟩⟩
    · simp [Builtin.delete_, run_underlying ht, MapKept.run_getObj_map hm, run_checkKey hk (hkv k), run_findKey hk h1, MapKept.run_setObj_map _ hm, Result.andThen, setBlock]
    · have hjl := (List.getElem?_eq_some_iff.1 h2).1
      rw [gdel_erase h.nodup h4]
      unfold Array.eraseIdxIfInBounds
      rw [dif_pos (by simpa using hjl)]
      rw [Array.toList_eraseIdx, ChangeMaps.map_eraseIdx, ChangeMaps.map_eraseIdx, hp]

end
section
variable {P : Program} {kv : K → Value} {w : World} {m : Nat} {l : List (K × Value)} {t kt et : TypeId} {d : TypeDesc}
/-- len(m) -/
theorem run_len_g {ty : TypeId} (ht : P.underlying t = some (.map kt et)) (h : GMap kv w m l) : (Builtin.len_ #[t] ty #[.map (some m)]).run P w = .ok (.int .i64 (l.length : Int)) w := by
  obtain ⟨es, clock, hm, hs, hp⟩ := h
  have : es.size = l.length := by
    have := congrArg List.length hp
    simpa using this
  simp [Builtin.len_, run_underlying ht, MapKept.run_getObj_map hm, Result.andThen, goInt, this]

/-! ### Ranging -/
/-- Block r goes over the map at m; the keys of V have come. -/
def GIter (kv : K → Value) (w : World) (r m : Nat) (l : List (K × Value)) (V : List K) : Prop :=
  ∃ es clock since seen c0, w.heap[r]? = some (.mapIter (some m) since seen c0) ∧ w.heap[m]? = some (.map es clock) ∧ Stamped es clock ∧
    es.toList.map (fun e => (e.key, e.val)) = l.map (fun p => (kv p.1, p.2)) ∧ (∀ x ∈ es.toList, x.born < since) ∧ since ≤ c0 ∧ since ≤ clock ∧
    ∀ (i : Nat) (e : MapEntry) (p : K × Value), es.toList[i]? = some e → l[i]? = some p → (seen.contains e.born = true ↔ p.1 ∈ V)
theorem GIter.map {r : Nat} {V : List K} (h : GIter kv w r m l V) : GMap kv w m l := by
  obtain ⟨es, clock, since, seen, c0, h1, h2, h3, h4, _⟩ := h
  exact ⟨es, clock, h2, h3, h4⟩
theorem GIter.of_heap {r : Nat} {V : List K} {w' : World} (h : GIter kv w r m l V) (hr : w'.heap[r]? = w.heap[r]?) (hm : w'.heap[m]? = w.heap[m]?) : GIter kv w' r m l V := by
  obtain ⟨es, clock, since, seen, c0, h1, h2, h3⟩ := h
  exact ⟨es, clock, since, seen, c0, hr.trans h1, hm.trans h2, h3⟩
theorem GIter.lt {r : Nat} {V : List K} (h : GIter kv w r m l V) : r < w.heap.size := by
  obtain ⟨es, clock, since, seen, c0, h1, _⟩ := h
  exact (Array.getElem?_eq_some_iff.1 h1).1
theorem GIter.ne {r : Nat} {V : List K} (h : GIter kv w r m l V) : r ≠ m := by
  obtain ⟨es, clock, since, seen, c0, h1, h2, _⟩ := h
  rintro rfl
  rw [h1] at h2
  cases h2
theorem GIter.ne_cells {r g : Nat} {V : List K} (h : GIter kv w r m l V) {cs : Array Value} {t : TypeId} {f : Nat × Nat} (hg : w.heap[g]? = some (.cells cs t f)) : r ≠ g := by
  obtain ⟨es, clock, since, seen, c0, h1, h2, _⟩ := h
  rintro rfl
  rw [h1] at hg
  cases hg
theorem run_range_g (ht : P.underlying t = some (.map kt et)) (h : GMap kv w m l) :
    ∃ o, (Instr.range t (.map (some m))).run P w = .ok (.pointer (some ⟨w.heap.size, 0, none⟩)) (w.alloc o) ∧ GIter kv (w.alloc o) w.heap.size m l [] := by
  obtain ⟨es, clock, hm, hs, hp⟩ := h
  refine ⟨_, run_range_map w t kt et m es clock ht hm, es, clock, clock, #[], clock, (heap_alloc w _).1, ((heap_alloc w _).2 m (Array.getElem?_eq_some_iff.1 hm).1).trans hm, hs, hp, hs.1, Nat.le_refl _, Nat.le_refl _, ?_⟩
  intro i e p _ _
  simp
/-- 'next': either all have come, or one that has not come does; then 'entry' tells it. -/
theorem run_next_g {r : Nat} {V : List K} (ty : TypeId) (h : GIter kv w r m l V) :
    ((∀ p ∈ l, p.1 ∈ V) ∧ (Instr.next (.pointer (some ⟨r, 0, none⟩)) false ty).run P w = .ok (.tuple #[.bool false]) w) ∨
    ∃ p ∈ l, p.1 ∉ V ∧ ∃ (n : Nat) (o : Obj), (Instr.next (.pointer (some ⟨r, 0, none⟩)) false ty).run P w = .ok (.tuple #[.bool true, kv p.1, p.2]) (setBlock (w.drewN n) r o) ∧
      GIter kv (setBlock (w.drewN n) r o) r m l (p.1 :: V) ∧ ∀ w', w'.heap[r]? = some o → w'.heap[m]? = w.heap[m]? → (Instr.entry (.pointer (some ⟨r, 0, none⟩))).run P w' = .ok (.tuple #[kv p.1, p.2]) w' := by
  have hnd := h.map.nodup
  have hne := h.ne
  obtain ⟨es, clock, since, seen, c0, hr, hm, hs, hp, hold, hsc, hsk, hV⟩ := h
  have hlen : es.toList.length = l.length := by have := congrArg List.length hp; simpa using this
  rcases run_next_at (P := P) w ty r m since c0 seen es clock hr hm hold hsc with ⟨h0, hrun⟩ | ⟨e, he, w1, hw1, hrun⟩
  · refine .inl ⟨fun p hpl => ?_, hrun⟩
    obtain ⟨i, hi⟩ := List.getElem?_of_mem hpl
    have hil := (List.getElem?_eq_some_iff.1 hi).1
    have hie : es.toList[i]? = some es.toList[i] := List.getElem?_eq_getElem (by omega)
    refine (hV i _ p hie hi).1 ?_
    have hL : leftOf es seen = #[] := Array.eq_empty_of_size_eq_zero h0
    unfold leftOf at hL
    rw [Array.filter_eq_empty_iff] at hL
    have := hL es.toList[i] (by simp)
    simpa using this
  · have hmem : e ∈ es.toList ∧ seen.contains e.born = false := by
      unfold leftOf at he
      simp only [Array.toList_filter, List.mem_filter] at he
      exact ⟨he.1, by simpa using he.2⟩
    obtain ⟨i, hi⟩ := List.getElem?_of_mem hmem.1
    have hil := (List.getElem?_eq_some_iff.1 hi).1
    have hpi : l[i]? = some l[i] := List.getElem?_eq_getElem (by omega)
    have hpe : (e.key, e.val) = (kv l[i].1, l[i].2) := by
      have h5 : (es.toList.map (fun e => (e.key, e.val)))[i]? = some (e.key, e.val) := by simp [hi]
      rw [hp, List.getElem?_map, hpi] at h5
      simpa using h5.symm
    injection hpe with hpe1 hpe2
    have hnot : l[i].1 ∉ V := fun hm' => by
      have := (hV i e _ hi hpi).2 hm'
      rw [hmem.2] at this
      cases this
    obtain ⟨n, hn⟩ : ∃ n, w1 = w.drewN n := by
      rcases hw1 with rfl | rfl
      · exact ⟨0, rfl⟩
      · exact ⟨1, rfl⟩
    subst hn
    refine .inr ⟨l[i], List.mem_of_getElem? hpi, hnot, n, .mapIter (some m) since (seen.push e.born) clock, by rw [← hpe1, ← hpe2]; exact hrun, ?_, fun w' hr' hm' => ?_⟩
    · have hrl : r < (w.drewN n).heap.size := (Array.getElem?_eq_some_iff.1 hr).1
      refine ⟨es, clock, since, seen.push e.born, clock, (by show ((w.drewN n).heap.setIfInBounds r _)[r]? = _; rw [Array.getElem?_setIfInBounds_self, if_pos hrl]), ?_, hs, hp, hold, ?_, ?_, ?_⟩
      · show ((w.drewN n).heap.setIfInBounds r _)[m]? = _
        rw [Array.getElem?_setIfInBounds_ne hne]
        exact hm
      · exact hsk
      · exact hsk
      · intro j e' p' hj hpj
        have hseen : (seen.push e.born).contains e'.born = true ↔ e'.born = e.born ∨ seen.contains e'.born = true := by
          simp only [Array.contains_push, Bool.or_eq_true, beq_iff_eq]
          exact Or.comm
        rw [hseen, hV j e' p' hj hpj, List.mem_cons]
        have hborn : e'.born = e.born ↔ p'.1 = l[i].1 := by
          constructor
          · intro hb
            have h1 : (es.toList.map (·.born))[j]? = some e.born := by simp [hj, hb]
            have h2 : (es.toList.map (·.born))[i]? = some e.born := by simp [hi]
            have hji := (List.getElem?_inj (List.getElem?_eq_some_iff.1 h1).1 hs.2.1).1 (h1.trans h2.symm)
            subst hji
            rw [hpi] at hpj
            injection hpj with hpj
            rw [hpj]
          · intro hb
            have h1 : (l.map (·.1))[j]? = some l[i].1 := by simp [hpj, hb]
            have h2 : (l.map (·.1))[i]? = some l[i].1 := by simp [hpi]
            have hji := (List.getElem?_inj (List.getElem?_eq_some_iff.1 h1).1 hnd).1 (h1.trans h2.symm)
            subst hji
            rw [hi] at hj
            injection hj with hj
            rw [hj]
        rw [hborn]
    · have := run_entry_at (P := P) w' r m since seen es clock e hr' (hm'.trans hm) hmem.1 hs.2.1
      rw [← hpe1, ← hpe2]
      exact this
end
end
end Go.Mer
