/-
  Texts laid together: Maps, Disk, DiskUsed, SChain.
-/
import Derived.Maps.RangeRun
import Derived.Maps.OwnOps
import Derived.WalkKit
import Derived.Deep.Draws
import Derived.Test.YtgnkmjeoaoongaaGreatDoorProg
import Derived.Test.YtgnkmjeoaoongaaGreatDoorSa1
import Derived.WalkSpells
import Derived.WalkLawsBesides
import Derived.Deep.LoopGhost
import Derived.Lib.Hide
import Derived.Test.YtgnkmjeoaoongaaGreatDoorSa2
namespace Go.Mer
open Go Go.RowKit Go.MapKept
open Go.ChangeMaps (setBlock)
instance decBytes : DecidableEq ByteArray := fun a b =>
 if h : a.data = b.data then isTrue (by cases a; cases b; simp only at h; rw [h]) else isFalse fun e => h (by rw [e])
instance lawBytes : LawfulBEq ByteArray where
 eq_of_beq h := (MapKept.bytes_beq _ _).1 h
 rfl := (MapKept.bytes_beq _ _).2 rfl
section
variable {K β : Type} [DecidableEq K]
def gget (l : List (K × β)) (k : K) : Option β := (l.find? fun p => decide (p.1 = k)).map (·.2)
def gset (l : List (K × β)) (k : K) (v : β) : List (K × β) := if k ∈ l.map (·.1) then l.map (fun p => if p.1 = k then (k, v) else p) else l ++ [(k, v)]
theorem gget_none {l : List (K × β)} {k : K} (h : k ∉ l.map (·.1)) : gget l k = none := by
 simp only [gget, Option.map_eq_none_iff, List.find?_eq_none, decide_eq_true_eq]
 intro p hp e
 exact h (List.mem_map.2 ⟨p, hp, e⟩)
theorem gget_some {l : List (K × β)} {k : K} {v : β} (hn : (l.map (·.1)).Nodup) (h : (k, v) ∈ l) : gget l k = some v := by
 induction l with
 | nil => cases h
 | cons p l ih =>
  simp only [List.map_cons, List.nodup_cons] at hn
  unfold gget
  by_cases hp : p.1 = k
  ·simp only [List.find?_cons, hp, decide_true, Option.map_some]
   rcases List.mem_cons.1 h with h | h
   ·rw [← h]
   ·exact absurd (List.mem_map.2 ⟨_, h, rfl⟩) (hp ▸ hn.1)
  ·rcases List.mem_cons.1 h with h | h
   ·exact absurd (by rw [← h]) hp
   ·simp only [List.find?_cons, hp, decide_false]
    exact ih hn.2 h
theorem gget_mem {l : List (K × β)} {k : K} {v : β} (h : gget l k = some v) : (k, v) ∈ l := by
 unfold gget at h
 obtain ⟨p, hp, rfl⟩ := Option.map_eq_some_iff.1 h
 have h1 := List.find?_some hp
 have h2 := List.mem_of_find?_eq_some hp
 simp only [decide_eq_true_eq] at h1
 rw [← h1]
 exact h2
theorem gset_set {l : List (K × β)} {k : K} {v : β} {j : Nat} {u : β} (hn : (l.map (·.1)).Nodup) (h : l[j]? = some (k, u)) : gset l k v = l.set j (k, v) := by
 have hm : k ∈ l.map (·.1) := List.mem_map.2 ⟨_, List.mem_of_getElem? h, rfl⟩
 unfold gset
 rw [if_pos hm]
 apply List.ext_getElem?
 intro i
 rw [List.getElem?_map, List.getElem?_set]
 by_cases hij : j = i
 ·subst hij
  have hj := (List.getElem?_eq_some_iff.1 h).1
  rw [if_pos rfl, if_pos hj, h]
  simp
 ·rw [if_neg hij]
  cases hi : l[i]? with
  | none => rfl
  | some p =>
   have : p.1 ≠ k := fun e => hij (by
    have h1 : (l.map (·.1))[j]? = some k := by simp [h]
    have h2 : (l.map (·.1))[i]? = some k := by simp [hi, e]
    have hjl := (List.getElem?_eq_some_iff.1 h1).1
    exact (List.getElem?_inj hjl hn).1 (h1.trans h2.symm))
   simp [this]
omit [DecidableEq K] in
theorem keys_mapv {γ : Type} (f : β → γ) (l : List (K × β)) : (l.map fun p => (p.1, f p.2)).map (·.1) = l.map (·.1) := by simp [List.map_map, Function.comp_def]
theorem gget_mapv {γ : Type} (f : β → γ) (l : List (K × β)) (k : K) : gget (l.map fun p => (p.1, f p.2)) k = (gget l k).map f := by
 induction l with
 | nil => rfl
 | cons p l ih =>
  unfold gget at ih ⊢
  by_cases hp : p.1 = k
  ·simp [hp]
  ·simpa [List.find?_cons, hp] using ih
theorem gset_mapv {γ : Type} (f : β → γ) (l : List (K × β)) (k : K) (v : β) : (gset l k v).map (fun p => (p.1, f p.2)) = gset (l.map fun p => (p.1, f p.2)) k (f v) := by
 unfold gset
 rw [keys_mapv]
 split
 ·simp only [List.map_map]
  apply List.map_congr_left
  intro p _
  simp only [Function.comp_def]
  split <;> rfl
 ·simp
theorem gget_none_iff {l : List (K × β)} {k : K} : gget l k = none ↔ k ∉ l.map (·.1) := by
 constructor
 ·intro h hm
  obtain ⟨p, hp, he⟩ := List.mem_map.1 hm
  simp only [gget, Option.map_eq_none_iff, List.find?_eq_none, decide_eq_true_eq] at h
  exact h p hp he
 ·exact gget_none
theorem gget_split {l : List (K × β)} {k : K} {v : β} (h : gget l k = some v) : ∃ l1 l2, l = l1 ++ (k, v) :: l2 ∧ k ∉ l1.map (·.1) := by
 induction l with
 | nil => simp [gget] at h
 | cons p l ih =>
  by_cases hp : p.1 = k
  ·refine ⟨[], l, ?_, by simp⟩
   simp only [gget, List.find?_cons, hp, decide_true, Option.map_some, Option.some.injEq] at h
   rw [List.nil_append, ← h, ← hp]
  ·have h' : gget l k = some v := by simpa [gget, List.find?_cons, hp] using h
   obtain ⟨l1, l2, rfl, hn⟩ := ih h'
   refine ⟨p :: l1, l2, rfl, ?_⟩
   simp only [List.map_cons, List.mem_cons, not_or]
   exact ⟨fun e => hp e.symm, hn⟩
theorem gset_split {l1 l2 : List (K × β)} {k : K} {u v : β} (hn : ((l1 ++ (k, u) :: l2).map (·.1)).Nodup) : gset (l1 ++ (k, u) :: l2) k v = l1 ++ (k, v) :: l2 := by
 rw [gset_set (j := l1.length) (u := u) hn (by simp)]
 simp
theorem gset_new {l : List (K × β)} {k : K} {v : β} (h : k ∉ l.map (·.1)) : gset l k v = l ++ [(k, v)] := by unfold gset; rw [if_neg h]
end
section
variable {K : Type}
def GMap (kv : K → Value) (w : World) (m : Nat) (l : List (K × Value)) : Prop :=
 ∃ es clock, w.heap[m]? = some (.map es clock) ∧ Stamped es clock ∧ es.toList.map (fun e => (e.key, e.val)) = l.map (fun p => (kv p.1, p.2))
section
variable {kv : K → Value} {w w' : World} {m : Nat} {l : List (K × Value)}
theorem GMap.of_heap (h : GMap kv w m l) (hh : w'.heap[m]? = w.heap[m]?) : GMap kv w' m l := by
 obtain ⟨es, clock, h1, h2⟩ := h
 exact ⟨es, clock, hh.trans h1, h2⟩
theorem GMap.drewN (h : GMap kv w m l) (n : Nat) : GMap kv (w.drewN n) m l := h
theorem GMap.lt (h : GMap kv w m l) : m < w.heap.size := by
 obtain ⟨es, clock, h1, h2⟩ := h
 exact (Array.getElem?_eq_some_iff.1 h1).1
theorem GMap.nodup (h : GMap kv w m l) : (l.map (·.1)).Nodup := by
 obtain ⟨es, clock, _, ⟨_, _, h3⟩, h4⟩ := h
 have : es.toList.map (·.key) = (l.map (·.1)).map kv := by
  have := congrArg (List.map (·.1)) h4
  simpa [List.map_map, Function.comp_def] using this
 rw [this] at h3
 exact (List.pairwise_map.1 h3).imp fun hne e => hne (congrArg _ e)
theorem GMap.made (kv : K → Value) (w : World) : GMap kv (w.alloc (.map #[] 0)) w.heap.size [] := ⟨#[], 0, (heap_alloc w _).1, stamped_empty 0, rfl⟩
end
section
variable {P : Program} {kv : K → Value} {w : World} {m : Nat} {l : List (K × Value)} {t kt et : TypeId} {d : TypeDesc}
theorem find_at (hkv : ∀ k, IsKey d (kv k)) (hinj : ∀ a b, kv a = kv b → a = b) {es : Array MapEntry} (hp : es.toList.map (fun e => (e.key, e.val)) = l.map (fun p => (kv p.1, p.2))) (k : K) :
  (Instr.findNow d (kv k) es.toList 0 = some none ∧ k ∉ l.map (·.1) ∧ ∀ x ∈ es.toList, x.key ≠ kv k) ∨ ∃ j e, Instr.findNow d (kv k) es.toList 0 = some (some (j, e.val)) ∧ es.toList[j]? = some e ∧ e.key = kv k ∧ l[j]? = some (k, e.val) := by
 have hkeys : ∀ x ∈ es.toList, IsKey d x.key := fun x hx => by
  have : (x.key, x.val) ∈ l.map (fun p => (kv p.1, p.2)) := hp ▸ List.mem_map.2 ⟨x, hx, rfl⟩
  obtain ⟨p, _, he⟩ := List.mem_map.1 this
  injection he with he _
  rw [← he]
  exact hkv _
 rcases findNow_spec (hkv k) es.toList 0 hkeys with ⟨h1, h2⟩ | ⟨j, e, h1, h2, h3⟩
 ·refine .inl ⟨h1, fun hm => ?_, h2⟩
  obtain ⟨p, hpl, hpk⟩ := List.mem_map.1 hm
  have : (kv p.1, p.2) ∈ es.toList.map (fun e => (e.key, e.val)) := hp ▸ List.mem_map.2 ⟨p, hpl, rfl⟩
  obtain ⟨x, hx, he⟩ := List.mem_map.1 this
  injection he with he _
  exact h2 x hx (by rw [he, hpk])
 ·refine .inr ⟨j, e, by simpa using h1, h2, h3, ?_⟩
  have h5 : (es.toList.map (fun e => (e.key, e.val)))[j]? = some (e.key, e.val) := by simp [h2]
  rw [hp, List.getElem?_map] at h5
  obtain ⟨p, hpj, he⟩ := Option.map_eq_some_iff.1 h5
  injection he with he1 he2
  rw [hpj]
  have : p.1 = k := hinj _ _ (he1.trans h3)
  rw [← this, ← he2]
end
section
variable [DecidableEq K]
variable {P : Program} {kv : K → Value} {w : World} {m : Nat} {l : List (K × Value)} {t kt et : TypeId} {d : TypeDesc}
theorem run_lookup_g (ht : P.underlying t = some (.map kt et)) (hk : P.underlying kt = some d) (hkv : ∀ k, IsKey d (kv k)) (hinj : ∀ a b, kv a = kv b → a = b)
  {z : Value} (hz : ∀ w : World, (zeroValue et).run P w = .ok z w) (h : GMap kv w m l) (k : K) :
  (Instr.lookup t (.map (some m)) (kv k) false).run P w = .ok ((gget l k).getD z) w ∧
  (Instr.lookup t (.map (some m)) (kv k) true).run P w = .ok (.tuple #[(gget l k).getD z, .bool (gget l k).isSome]) w := by
 obtain ⟨es, clock, hm, hs, hp⟩ := id h
 rcases find_at hkv hinj hp k with ⟨h1, h2, _⟩ | ⟨j, e, h1, h2, h3, h4⟩
 ·rw [gget_none h2]
  constructor <;> simp [Instr.lookup, run_underlying ht, MapKept.run_getObj_map hm, run_checkKey hk (hkv k), run_findKey hk h1, hz, Result.andThen]
 ·rw [gget_some h.nodup (List.mem_of_getElem? h4)]
  constructor <;> simp [Instr.lookup, run_underlying ht, MapKept.run_getObj_map hm, run_checkKey hk (hkv k), run_findKey hk h1, Result.andThen]
end
section
variable {P : Program} {kv : K → Value} {w : World} {m : Nat} {l : List (K × Value)} {t kt et : TypeId} {d : TypeDesc}
end
section
variable [DecidableEq K]
variable {P : Program} {kv : K → Value} {w : World} {m : Nat} {l : List (K × Value)} {t kt et : TypeId} {d : TypeDesc}
theorem run_update_g (ht : P.underlying t = some (.map kt et)) (hk : P.underlying kt = some d) (hkv : ∀ k, IsKey d (kv k)) (hinj : ∀ a b, kv a = kv b → a = b)
  (h : GMap kv w m l) (k : K) (v : Value) :
  ∃ o, (Instr.mapUpdate t (.map (some m)) (kv k) v).run P w = .ok () (setBlock w m o) ∧ ∀ w', w'.heap[m]? = some o → GMap kv w' m (gset l k v) := by
 obtain ⟨es, clock, hm, hs, hp⟩ := id h
 rcases find_at hkv hinj hp k with ⟨h1, h2, h3⟩ | ⟨j, e, h1, h2, h3, h4⟩
 ·refine ⟨.map (es.push { key := kv k, val := v, born := clock }) (clock + 1), ?_, fun w' hw' => ⟨_, _, hw', stamped_push hs h3, ?_⟩⟩
  ·simp [Instr.mapUpdate, run_underlying ht, MapKept.run_getObj_map hm, run_checkKey hk (hkv k), run_findKey hk h1, MapKept.run_setObj_map _ hm, Result.andThen, setBlock]
  ·unfold gset
   rw [if_neg h2]
   simp [hp]
 ·have hj : es[j]? = some e := by simpa using h2
  refine ⟨.map (es.modify j fun e => { e with key := kv k, val := v }) clock, ?_, fun w' hw' => ⟨_, _, hw', stamped_modify hs j _ (fun _ _ => rfl) (fun e' _ he' => by rw [hj] at he'; cases he'; exact h3.symm), ?_⟩⟩
  ·simp [Instr.mapUpdate, run_underlying ht, MapKept.run_getObj_map hm, run_checkKey hk (hkv k), run_findKey hk h1, hj, h3, run_keyThatStays (hkv k), MapKept.run_setObj_map _ hm, Result.andThen, setBlock]
  ·rw [gset_set h.nodup h4, List.map_set, ← hp, Array.toList_modify]
   apply List.ext_getElem?
   intro i
   simp only [List.getElem?_map, List.getElem?_modify, List.getElem?_set, List.length_map]
   have hjl := (List.getElem?_eq_some_iff.1 h2).1
   by_cases hij : j = i
   ·subst hij
    have hjs : j < es.size := by simpa using hjl
    simp [hjs]
   ·simp [hij]
end
section
variable {P : Program} {kv : K → Value} {w : World} {m : Nat} {l : List (K × Value)} {t kt et : TypeId} {d : TypeDesc}
theorem run_len_g {ty : TypeId} (ht : P.underlying t = some (.map kt et)) (h : GMap kv w m l) : (Builtin.len_ #[t] ty #[.map (some m)]).run P w = .ok (.int .i64 (l.length : Int)) w := by
 obtain ⟨es, clock, hm, hs, hp⟩ := h
 have : es.size = l.length := by
  have := congrArg List.length hp
  simpa using this
 simp [Builtin.len_, run_underlying ht, MapKept.run_getObj_map hm, Result.andThen, goInt, this]
def GIter (kv : K → Value) (w : World) (r m : Nat) (l : List (K × Value)) (V : List K) : Prop :=
 ∃ es clock since seen c0, w.heap[r]? = some (.mapIter (some m) since seen c0) ∧ w.heap[m]? = some (.map es clock) ∧ Stamped es clock ∧
  es.toList.map (fun e => (e.key, e.val)) = l.map (fun p => (kv p.1, p.2)) ∧ (∀ x ∈ es.toList, x.born < since) ∧ since ≤ c0 ∧ since ≤ clock ∧
  ∀ (i : Nat) (e : MapEntry) (p : K × Value), es.toList[i]? = some e → l[i]? = some p → (seen.contains e.born = true ↔ p.1 ∈ V)
theorem GIter.map {r : Nat} {V : List K} (h : GIter kv w r m l V) : GMap kv w m l := by
 obtain ⟨es, clock, since, seen, c0, h1, h2, h3, h4, _⟩ := h
 exact ⟨es, clock, h2, h3, h4⟩
theorem GIter.of_heap {r : Nat} {V : List K} {w' : World} (h : GIter kv w r m l V) (hr : w'.heap[r]? = w.heap[r]?) (hm : w'.heap[m]? = w.heap[m]?) : GIter kv w' r m l V := by
 obtain ⟨es, clock, since, seen, c0, h1, h2, h3⟩ := h
 exact ⟨es, clock, since, seen, c0, hr.trans h1, hm.trans h2, h3⟩
theorem GIter.lt {r : Nat} {V : List K} (h : GIter kv w r m l V) : r < w.heap.size := by
 obtain ⟨es, clock, since, seen, c0, h1, _⟩ := h
 exact (Array.getElem?_eq_some_iff.1 h1).1
theorem GIter.ne {r : Nat} {V : List K} (h : GIter kv w r m l V) : r ≠ m := by
 obtain ⟨es, clock, since, seen, c0, h1, h2, _⟩ := h
 rintro rfl
 rw [h1] at h2
 cases h2
theorem run_range_g (ht : P.underlying t = some (.map kt et)) (h : GMap kv w m l) :
  ∃ o, (Instr.range t (.map (some m))).run P w = .ok (.pointer (some ⟨w.heap.size, 0, none⟩)) (w.alloc o) ∧ GIter kv (w.alloc o) w.heap.size m l [] := by
 obtain ⟨es, clock, hm, hs, hp⟩ := h
 refine ⟨_, run_range_map w t kt et m es clock ht hm, es, clock, clock, #[], clock, (heap_alloc w _).1, ((heap_alloc w _).2 m (Array.getElem?_eq_some_iff.1 hm).1).trans hm, hs, hp, hs.1, Nat.le_refl _, Nat.le_refl _, ?_⟩
 intro i e p _ _
 simp
theorem run_next_g {r : Nat} {V : List K} (ty : TypeId) (h : GIter kv w r m l V) :
  ((∀ p ∈ l, p.1 ∈ V) ∧ (Instr.next (.pointer (some ⟨r, 0, none⟩)) false ty).run P w = .ok (.tuple #[.bool false]) w) ∨
  ∃ p ∈ l, p.1 ∉ V ∧ ∃ (n : Nat) (o : Obj), (Instr.next (.pointer (some ⟨r, 0, none⟩)) false ty).run P w = .ok (.tuple #[.bool true, kv p.1, p.2]) (setBlock (w.drewN n) r o) ∧
   GIter kv (setBlock (w.drewN n) r o) r m l (p.1 :: V) ∧ ∀ w', w'.heap[r]? = some o → w'.heap[m]? = w.heap[m]? → (Instr.entry (.pointer (some ⟨r, 0, none⟩))).run P w' = .ok (.tuple #[kv p.1, p.2]) w' := by
 have hnd := h.map.nodup
 have hne := h.ne
 obtain ⟨es, clock, since, seen, c0, hr, hm, hs, hp, hold, hsc, hsk, hV⟩ := h
 have hlen : es.toList.length = l.length := by have := congrArg List.length hp; simpa using this
 rcases run_next_at (P := P) w ty r m since c0 seen es clock hr hm hold hsc with ⟨h0, hrun⟩ | ⟨e, he, w1, hw1, hrun⟩
 ·refine .inl ⟨fun p hpl => ?_, hrun⟩
  obtain ⟨i, hi⟩ := List.getElem?_of_mem hpl
  have hil := (List.getElem?_eq_some_iff.1 hi).1
  have hie : es.toList[i]? = some es.toList[i] := List.getElem?_eq_getElem (by omega)
  refine (hV i _ p hie hi).1 ?_
  have hL : leftOf es seen = #[] := Array.eq_empty_of_size_eq_zero h0
  unfold leftOf at hL
  rw [Array.filter_eq_empty_iff] at hL
  have := hL es.toList[i] (by simp)
  simpa using this
 ·have hmem : e ∈ es.toList ∧ seen.contains e.born = false := by
   unfold leftOf at he
   simp only [Array.toList_filter, List.mem_filter] at he
   exact ⟨he.1, by simpa using he.2⟩
  obtain ⟨i, hi⟩ := List.getElem?_of_mem hmem.1
  have hil := (List.getElem?_eq_some_iff.1 hi).1
  have hpi : l[i]? = some l[i] := List.getElem?_eq_getElem (by omega)
  have hpe : (e.key, e.val) = (kv l[i].1, l[i].2) := by
   have h5 : (es.toList.map (fun e => (e.key, e.val)))[i]? = some (e.key, e.val) := by simp [hi]
   rw [hp, List.getElem?_map, hpi] at h5
   simpa using h5.symm
  injection hpe with hpe1 hpe2
  have hnot : l[i].1 ∉ V := fun hm' => by
   have := (hV i e _ hi hpi).2 hm'
   rw [hmem.2] at this
   cases this
  obtain ⟨n, hn⟩ : ∃ n, w1 = w.drewN n := by
   rcases hw1 with rfl | rfl
   ·exact ⟨0, rfl⟩
   ·exact ⟨1, rfl⟩
  subst hn
  refine .inr ⟨l[i], List.mem_of_getElem? hpi, hnot, n, .mapIter (some m) since (seen.push e.born) clock, by rw [← hpe1, ← hpe2]; exact hrun, ?_, fun w' hr' hm' => ?_⟩
  ·have hrl : r < (w.drewN n).heap.size := (Array.getElem?_eq_some_iff.1 hr).1
   refine ⟨es, clock, since, seen.push e.born, clock, (by show ((w.drewN n).heap.setIfInBounds r _)[r]? = _; rw [Array.getElem?_setIfInBounds_self, if_pos hrl]), ?_, hs, hp, hold, ?_, ?_, ?_⟩
   ·show ((w.drewN n).heap.setIfInBounds r _)[m]? = _
    rw [Array.getElem?_setIfInBounds_ne hne]
    exact hm
   ·exact hsk
   ·exact hsk
   ·intro j e' p' hj hpj
    have hseen : (seen.push e.born).contains e'.born = true ↔ e'.born = e.born ∨ seen.contains e'.born = true := by
     simp only [Array.contains_push, Bool.or_eq_true, beq_iff_eq]
     exact Or.comm
    rw [hseen, hV j e' p' hj hpj, List.mem_cons]
    have hborn : e'.born = e.born ↔ p'.1 = l[i].1 := by
     constructor
     ·intro hb
      have h1 : (es.toList.map (·.born))[j]? = some e.born := by simp [hj, hb]
      have h2 : (es.toList.map (·.born))[i]? = some e.born := by simp [hi]
      have hji := (List.getElem?_inj (List.getElem?_eq_some_iff.1 h1).1 hs.2.1).1 (h1.trans h2.symm)
      subst hji
      rw [hpi] at hpj
      injection hpj with hpj
      rw [hpj]
     ·intro hb
      have h1 : (l.map (·.1))[j]? = some l[i].1 := by simp [hpj, hb]
      have h2 : (l.map (·.1))[i]? = some l[i].1 := by simp [hpi]
      have hji := (List.getElem?_inj (List.getElem?_eq_some_iff.1 h1).1 hnd).1 (h1.trans h2.symm)
      subst hji
      rw [hi] at hj
      injection hj with hj
      rw [hj]
    rw [hborn]
  ·have := run_entry_at (P := P) w' r m since seen es clock e hr' (hm'.trans hm) hmem.1 hs.2.1
   rw [← hpe1, ← hpe2]
   exact this
end
end
end Go.Mer
namespace Go.Proofs.YtgnkmjeoaoongaaGreatDoor
open Go.RowKit Go.Mer
structure FileS where
 data : List UInt8
 lasts : Nat
abbrev Files := List (ByteArray × FileS)
structure DSt where
 room : Nat
 fuse : Option Nat
 files : Files
def totF (l : List (ByteArray × FileS)) : Nat := (l.map fun p => p.2.data.length).sum
def nameOk (s : ByteArray) : Bool := decide (1 ≤ s.size) && decide (s.size ≤ 64)
structure FileR where
 blk : Nat
 v : Value
 data : List UInt8
 lasts : Nat
abbrev FilesR := List (ByteArray × FileR)
def FileR.abs (c : FileR) : FileS := ⟨c.data, c.lasts⟩
def FileR.ptr (c : FileR) : Value := .pointer (some ⟨c.blk, 0, none⟩)
def absL (L : FilesR) : Files := L.map fun p => (p.1, p.2.abs)
def ptrL (L : FilesR) : List (ByteArray × Value) := L.map fun p => (p.1, p.2.ptr)
def FileOk (w : World) (c : FileR) : Prop :=
 w.heap[c.blk]? = some (.cells #[c.v, .int .i64 (c.lasts : Int)] 164 (0, 0)) ∧ Own w 5 1 c.v c.data.length (u8s c.data) ∧ c.lasts ≤ c.data.length
structure DiskC (w : World) (d m room : Nat) (fused : Bool) (left : Int) (L : FilesR) : Prop where
 cell : w.heap[d]? = some (.cells #[.int .i64 (room : Int), .map (some m), .bool fused, .int .i64 left] 161 (0, 0))
 map : GMap Value.string w m (ptrL L)
 files : ∀ p ∈ L, FileOk w p.2
 blks : (L.map (·.2.blk)).Nodup
 rows : (L.filterMap (·.2.v.ownBlock)).Nodup
 fits : totF (absL L) ≤ room
 roomy : room ≤ 1073741824
 few : L.length ≤ 4096
 left0 : 0 ≤ left
 leftM : left ≤ 9223372036854775807
def FP (d m : Nat) (L : FilesR) : Nat → Prop := fun k => k = d ∨ k = m ∨ ∃ p ∈ L, k = p.2.blk ∨ p.2.v.ownBlock = some k
def fuseOf (fused : Bool) (left : Int) : Option Nat := if fused then some left.toNat else none
def DiskAt (w : World) (d : Nat) (s : DSt) (F : Nat → Prop) : Prop :=
 ∃ m fused left L, DiskC w d m s.room fused left L ∧ s.fuse = fuseOf fused left ∧ s.files = absL L ∧ (∀ k, FP d m L k → F k) ∧ ∀ k, F k → k < w.heap.size
section
variable {w w' : World} {d m room : Nat} {fused : Bool} {left : Int} {L : FilesR}
theorem FileOk.keep {S : Nat → Prop} {c : FileR} (h : FileOk w c) (hk : Kp S w w') (h1 : ¬ S c.blk) (h2 : ∀ g, c.v.ownBlock = some g → ¬ S g) : FileOk w' c :=
 ⟨hk.get h.1 h1, h.2.1.keep hk h2, h.2.2⟩
theorem DiskC.keep {S : Nat → Prop} (h : DiskC w d m room fused left L) (hk : Kp S w w') (hS : ∀ k, FP d m L k → ¬ S k) : DiskC w' d m room fused left L :=
 { h with
  cell := hk.get h.cell (hS d (.inl rfl))
  map := h.map.of_heap (hk.block m h.map.lt (hS m (.inr (.inl rfl))))
  files := fun p hp => (h.files p hp).keep hk (hS _ (.inr (.inr ⟨p, hp, .inl rfl⟩))) fun g hg => hS g (.inr (.inr ⟨p, hp, .inr hg⟩)) }
theorem DiskC.keep_no (h : DiskC w d m room fused left L) (hk : Kp No w w') : DiskC w' d m room fused left L := h.keep hk fun _ _ x => x
theorem DiskC.lt (h : DiskC w d m room fused left L) : ∀ k, FP d m L k → k < w.heap.size := by
 rintro k (rfl | rfl | ⟨p, hp, rfl | hk⟩)
 ·exact get_lt h.cell
 ·exact h.map.lt
 ·exact get_lt (h.files p hp).1
 ·exact (h.files p hp).2.1.lt k hk
theorem keys_ptrL (L : FilesR) : (ptrL L).map (·.1) = L.map (·.1) := keys_mapv _ L
theorem keys_absL (L : FilesR) : (absL L).map (·.1) = L.map (·.1) := keys_mapv _ L
theorem DiskC.keys (h : DiskC w d m room fused left L) : (L.map (·.1)).Nodup := by have := h.map.nodup; rwa [keys_ptrL] at this
theorem DiskAt.keep {S F : Nat → Prop} {s : DSt} (h : DiskAt w d s F) (hk : Kp S w w') (hS : ∀ k, F k → ¬ S k) : DiskAt w' d s F := by
 obtain ⟨m, fused, left, L, h1, h2, h3, h4, h5⟩ := h
 exact ⟨m, fused, left, L, h1.keep hk (fun k hf => hS k (h4 k hf)), h2, h3, h4, fun k hf => hk.lt (h5 k hf)⟩
theorem DiskAt.keep_no {F : Nat → Prop} {s : DSt} (h : DiskAt w d s F) (hk : Kp No w w') : DiskAt w' d s F := h.keep hk fun _ _ x => x
theorem DiskC.setFuse (h : DiskC w d m room fused left L) (fused' : Bool) (left' : Int) (h0 : 0 ≤ left') (h1 : left' ≤ 9223372036854775807) (hk : Kp (One d) w w')
  (hc : w'.heap[d]? = some (.cells #[.int .i64 (room : Int), .map (some m), .bool fused', .int .i64 left'] 161 (0, 0))) : DiskC w' d m room fused' left' L :=
 have hne : ∀ k, FP d m L k → k ≠ d → ¬ One d k := fun _ _ h1 h2 => h1 h2
 have hmd : m ≠ d := fun e => by
  obtain ⟨es, c, hm, _⟩ := h.map
  subst e
  rw [h.cell] at hm
  cases hm
 { h with
  cell := hc
  map := h.map.of_heap (hk.block m h.map.lt hmd)
  files := fun p hp => (h.files p hp).keep hk (fun e => ne_of_type (h.files p hp).1 h.cell (by decide) e) fun g hg e => by
   obtain ⟨cur, hcur⟩ := (h.files p hp).2.1.type g hg
   exact ne_of_type hcur h.cell (by decide) e
  left0 := h0
  leftM := h1 }
end
def totV (l : Files) (V : List ByteArray) : Nat := totF (l.filter fun p => decide (p.1 ∈ V))
def restV {β : Type} (l : List (ByteArray × β)) (V : List ByteArray) : Nat := (l.filter fun p => decide (p.1 ∉ V)).length
theorem totF_nil : totF [] = 0 := rfl
theorem totF_cons (p : ByteArray × FileS) (l : Files) : totF (p :: l) = p.2.data.length + totF l := by simp [totF]
theorem totF_append (l k : Files) : totF (l ++ k) = totF l + totF k := by simp [totF]
theorem totV_nil (l : Files) : totV l [] = 0 := by
 unfold totV
 rw [List.filter_eq_nil_iff.2 (by simp)]
 rfl
theorem filter_step {β : Type} {l : List (ByteArray × β)} (hn : (l.map (·.1)).Nodup) {p : ByteArray × β} (hp : p ∈ l) {V : List ByteArray} (hV : p.1 ∉ V) :
  (l.filter fun q => decide (q.1 ∈ p.1 :: V)).Perm (p :: l.filter fun q => decide (q.1 ∈ V)) ∧ restV l V = restV l (p.1 :: V) + 1 := by
 induction l with
 | nil => cases hp
 | cons q l ih =>
  simp only [List.map_cons, List.nodup_cons] at hn
  rcases List.mem_cons.1 hp with rfl | hp'
  ·have e1 : (l.filter fun q => decide (q.1 ∈ p.1 :: V)) = l.filter fun q => decide (q.1 ∈ V) := by
    apply List.filter_congr
    intro x hx
    have : x.1 ≠ p.1 := fun e => hn.1 (e ▸ List.mem_map.2 ⟨x, hx, rfl⟩)
    simp [this]
   have e2 : (l.filter fun q => decide (q.1 ∉ p.1 :: V)) = l.filter fun q => decide (q.1 ∉ V) := by
    apply List.filter_congr
    intro x hx
    have : x.1 ≠ p.1 := fun e => hn.1 (e ▸ List.mem_map.2 ⟨x, hx, rfl⟩)
    simp [this]
   unfold restV
   rw [List.filter_cons, List.filter_cons, List.filter_cons, List.filter_cons, e1, e2]
   simp [hV]
  ·have hqp : q.1 ≠ p.1 := fun e => hn.1 (e ▸ List.mem_map.2 ⟨p, hp', rfl⟩)
   obtain ⟨i1, i2⟩ := ih hn.2 hp'
   unfold restV at i2 ⊢
   by_cases hq : q.1 ∈ V
   ·constructor
    ·have ea : decide (q.1 ∈ p.1 :: V) = true := by simp [hq]
     have eb : decide (q.1 ∈ V) = true := by simp [hq]
     rw [List.filter_cons, List.filter_cons, ea, eb, if_pos rfl, if_pos rfl]
     exact (i1.cons q).trans (List.Perm.swap _ _ _)
    ·have ea : decide (q.1 ∉ p.1 :: V) = false := by simp [hq]
     have eb : decide (q.1 ∉ V) = false := by simp [hq]
     rw [List.filter_cons, List.filter_cons, ea, eb]
     simpa using i2
   ·constructor
    ·have ea : decide (q.1 ∈ p.1 :: V) = false := by simp [hq, hqp]
     have eb : decide (q.1 ∈ V) = false := by simp [hq]
     rw [List.filter_cons, List.filter_cons, ea, eb]
     simpa using i1
    ·have ea : decide (q.1 ∉ p.1 :: V) = true := by simp [hq, hqp]
     have eb : decide (q.1 ∉ V) = true := by simp [hq]
     rw [List.filter_cons, List.filter_cons, ea, eb, if_pos rfl, if_pos rfl, List.length_cons, List.length_cons, i2]
theorem totF_perm {l k : Files} (h : l.Perm k) : totF l = totF k := by
 unfold totF
 exact (h.map _).sum_nat
theorem totV_step {l : Files} (hn : (l.map (·.1)).Nodup) {p : ByteArray × FileS} (hp : p ∈ l) {V : List ByteArray} (hV : p.1 ∉ V) : totV l (p.1 :: V) = totV l V + p.2.data.length := by
 unfold totV
 rw [totF_perm (filter_step hn hp hV).1, totF_cons]
 omega
theorem totF_filter (l : Files) (f : ByteArray × FileS → Bool) : totF (l.filter f) ≤ totF l := by
 induction l with
 | nil => simp
 | cons p l ih =>
  rw [List.filter_cons]
  split <;> simp only [totF_cons] <;> omega
theorem totV_le (l : Files) (V : List ByteArray) : totV l V ≤ totF l := totF_filter _ _
theorem totV_all {l : Files} {V : List ByteArray} (h : ∀ p ∈ l, p.1 ∈ V) : totV l V = totF l := by
 unfold totV
 rw [List.filter_eq_self.2 (by simpa using h)]
theorem mem_len {l : Files} {p : ByteArray × FileS} (h : p ∈ l) : p.2.data.length ≤ totF l := by
 induction l with
 | nil => cases h
 | cons q l ih =>
  rw [totF_cons]
  rcases List.mem_cons.1 h with rfl | h
  ·omega
  ·have := ih h; omega
theorem totF_gset {l : Files} (hn : (l.map (·.1)).Nodup) {k : ByteArray} {x y : FileS} (h : gget l k = some x) : totF (gset l k y) + x.data.length = totF l + y.data.length := by
 obtain ⟨l1, l2, rfl, _⟩ := gget_split h
 rw [gset_split hn]
 simp only [totF_append, totF_cons]
 omega
theorem totF_gset_new {l : Files} {k : ByteArray} {y : FileS} (h : gget l k = none) : totF (gset l k y) = totF l + y.data.length := by
 rw [gset_new (gget_none_iff.1 h), totF_append, totF_cons, totF_nil]
 rfl
theorem gget_abs (L : FilesR) (k : ByteArray) : gget (absL L) k = (gget L k).map FileR.abs := gget_mapv _ L k
theorem gset_abs (L : FilesR) (k : ByteArray) (c : FileR) : absL (gset L k c) = gset (absL L) k c.abs := gset_mapv _ L k c
section
variable {w w' : World} {d m room : Nat} {fused : Bool} {left : Int} {L l1 l2 : FilesR} {name : ByteArray} {c c' : FileR}
theorem DiskC.setFile (h : DiskC w d m room fused left L) (hc : gget L name = some c) (hblk : c'.blk = c.blk) (hk : Kp (fun k => k = c.blk ∨ c.v.ownBlock = some k) w w') (hok : FileOk w' c')
  (hrow : c'.v.ownBlock = c.v.ownBlock ∨ ∃ g, c'.v.ownBlock = some g ∧ w.heap.size ≤ g) (hfit : totF (absL (gset L name c')) ≤ room) :
  DiskC w' d m room fused left (gset L name c') ∧ Foot (FP d m L) (FP d m (gset L name c')) w ∧ Kp (FP d m L) w w' := by
 have hkeys := h.keys
 have hcf := h.files _ (gget_mem hc)
 have hmem := gget_mem hc
 obtain ⟨l1, l2, rfl, hn1⟩ := gget_split hc
 rw [gset_split hkeys] at hfit ⊢
 have hb := h.blks
 have hr := h.rows
 simp only [List.map_append, List.map_cons] at hb
 simp only [List.filterMap_append] at hr
 have hcrow : ∀ g, c.v.ownBlock = some g → ∃ cur, w.heap[g]? = some (.cells cur 5 (0, 0)) := fun g hg => hcf.2.1.type g hg
 obtain ⟨es, ck, hm, _⟩ := h.map
 have hother : ∀ p, p ∈ l1 ∨ p ∈ l2 → FileOk w' p.2 := fun p hp => by
  have hp' : p ∈ l1 ++ (name, c) :: l2 := by rcases hp with hp | hp <;> simp [hp]
  have hpf := h.files p hp'
  refine hpf.keep hk (fun hS => ?_) fun g hg hS => ?_
  ·rcases hS with hS | hS
   ·rw [List.nodup_append] at hb
    rcases hp with hp | hp
    ·exact hb.2.2 _ (List.mem_map.2 ⟨p, hp, rfl⟩) _ (List.mem_cons_self ..) hS
    ·have := (List.nodup_cons.1 hb.2.1).1
     exact this (List.mem_map.2 ⟨p, hp, hS⟩)
   ·obtain ⟨cur, hcur⟩ := hcrow _ hS
    exact ne_of_type hpf.1 hcur (by decide) rfl
  ·rcases hS with hS | hS
   ·obtain ⟨cur, hcur⟩ := hpf.2.1.type g hg
    exact ne_of_type hcur hcf.1 (by decide) hS
   ·rw [List.filterMap_cons, hS] at hr
    rw [List.nodup_append] at hr
    rcases hp with hp | hp
    ·exact hr.2.2 _ (List.mem_filterMap.2 ⟨p, hp, hg⟩) _ (List.mem_cons_self ..) rfl
    ·exact (List.nodup_cons.1 hr.2.1).1 (List.mem_filterMap.2 ⟨p, hp, hg⟩)
 refine ⟨{ h with cell := ?_, map := ?_, files := ?_, blks := ?_, rows := ?_, fits := hfit, few := ?_ }, ?_, hk.mono fun k _ hk => ?_⟩
 ·refine hk.get h.cell fun hS => ?_
  rcases hS with hS | hS
  ·exact ne_of_type h.cell hcf.1 (by decide) hS
  ·obtain ⟨cur, hcur⟩ := hcrow _ hS
   exact ne_of_type h.cell hcur (by decide) rfl
 ·have e : ptrL (l1 ++ (name, c') :: l2) = ptrL (l1 ++ (name, c) :: l2) := by simp [ptrL, FileR.ptr, hblk]
  rw [e]
  refine h.map.of_heap (hk.block m h.map.lt fun hS => ?_)
  rcases hS with hS | hS
  ·rw [hS, hcf.1] at hm
   cases hm
  ·obtain ⟨cur, hcur⟩ := hcrow _ hS
   rw [hcur] at hm
   cases hm
 ·intro p hp
  rcases List.mem_append.1 hp with hp | hp
  ·exact hother p (.inl hp)
  ·rcases List.mem_cons.1 hp with rfl | hp
   ·exact hok
   ·exact hother p (.inr hp)
 ·simpa [hblk] using h.blks
 ·rcases hrow with hrow | ⟨g, hg, hgs⟩
  ·have := h.rows
   simp only [List.filterMap_append, List.filterMap_cons] at this ⊢
   rw [hrow]
   exact this
  ·have hlt : ∀ p ∈ l1 ++ (name, c) :: l2, ∀ k, p.2.v.ownBlock = some k → k ≠ g := fun p hp k hk e => by
    have := (h.files p hp).2.1.lt k hk
    omega
   simp only [List.filterMap_append, List.filterMap_cons, hg] at hr ⊢
   rw [List.nodup_append] at hr ⊢
   have hr2 : (l2.filterMap (·.2.v.ownBlock)).Nodup := by
    rcases hv : c.v.ownBlock with _ | k
    ·have := hr.2.1; simpa only [hv] using this
    ·have := hr.2.1; simp only [hv] at this; exact (List.nodup_cons.1 this).2
   refine ⟨hr.1, List.nodup_cons.2 ⟨fun hm => ?_, hr2⟩, fun a ha b hb' e => ?_⟩
   ·obtain ⟨p, hp, hpg⟩ := List.mem_filterMap.1 hm
    exact hlt p (by simp [hp]) _ hpg rfl
   ·subst e
    rcases List.mem_cons.1 hb' with rfl | hb'
    ·obtain ⟨p, hp, hpg⟩ := List.mem_filterMap.1 ha
     exact hlt p (by simp [hp]) _ hpg rfl
    ·refine hr.2.2 a ha a ?_ rfl
     rcases hv : c.v.ownBlock with _ | k
     ·exact hb'
     ·exact List.mem_cons_of_mem _ hb'
 ·simpa using h.few
 ·rintro k (rfl | rfl | ⟨p, hp, hpk⟩)
  ·exact .inl (.inl rfl)
  ·exact .inl (.inr (.inl rfl))
  ·rcases List.mem_append.1 hp with hp | hp
   ·exact .inl (.inr (.inr ⟨p, by simp [hp], hpk⟩))
   ·rcases List.mem_cons.1 hp with rfl | hp
    ·rcases hpk with hpk | hpk
     ·exact .inl (.inr (.inr ⟨_, hmem, .inl (hpk.trans hblk)⟩))
     ·rcases hrow with hrow | ⟨g, hg, hgs⟩
      ·exact .inl (.inr (.inr ⟨_, hmem, .inr (hrow ▸ hpk)⟩))
      ·right
       have : some k = some g := hpk.symm.trans hg
       injection this with this
       omega
    ·exact .inl (.inr (.inr ⟨p, by simp [hp], hpk⟩))
 ·exact .inr (.inr ⟨_, hmem, hk⟩)
theorem DiskC.addFile (h : DiskC w d m room fused left L) (hc : gget L name = none) (hk : Kp (One m) w w') (hm' : GMap Value.string w' m (gset (ptrL L) name c'.ptr)) (hok : FileOk w' c')
  (hblk : w.heap.size ≤ c'.blk) (hrow : ∀ g, c'.v.ownBlock = some g → w.heap.size ≤ g) (hfit : totF (absL (gset L name c')) ≤ room) (hfew : L.length < 4096) :
  DiskC w' d m room fused left (gset L name c') ∧ Foot (FP d m L) (FP d m (gset L name c')) w ∧ Kp (FP d m L) w w' := by
 have hnk := gget_none_iff.1 hc
 have hmap : ptrL (gset L name c') = gset (ptrL L) name c'.ptr := gset_mapv _ L name c'
 rw [← hmap] at hm'
 rw [gset_new hnk] at hfit hm' ⊢
 obtain ⟨es, ck, hm, _⟩ := h.map
 refine ⟨{ h with cell := ?_, map := hm', files := ?_, blks := ?_, rows := ?_, fits := hfit, few := ?_ }, ?_, hk.mono fun k _ hk => .inr (.inl hk)⟩
 ·exact hk.get h.cell fun hS => by
   have hS : d = m := hS
   have hc := h.cell
   rw [hS, hm] at hc
   cases hc
 ·intro p hp
  rcases List.mem_append.1 hp with hp | hp
  ·refine (h.files p hp).keep hk (fun hS => ?_) fun g hg hS => ?_
   ·have hf := (h.files p hp).1
    rw [show p.2.blk = m from hS, hm] at hf
    cases hf
   ·obtain ⟨cur, hcur⟩ := (h.files p hp).2.1.type g hg
    rw [show g = m from hS, hm] at hcur
    cases hcur
  ·simp only [List.mem_singleton] at hp
   subst hp
   exact hok
 ·rw [List.map_append, List.nodup_append]
  refine ⟨h.blks, by simp, fun a ha b hb e => ?_⟩
  simp only [List.map_cons, List.map_nil, List.mem_singleton] at hb
  obtain ⟨p, hp, rfl⟩ := List.mem_map.1 ha
  have := get_lt (h.files p hp).1
  omega
 ·rw [List.filterMap_append, List.nodup_append]
  refine ⟨h.rows, ?_, fun a ha b hb e => ?_⟩
  ·cases hv : c'.v.ownBlock <;> simp [hv]
  ·obtain ⟨p, hp, hpa⟩ := List.mem_filterMap.1 ha
   obtain ⟨q, hq, hqb⟩ := List.mem_filterMap.1 hb
   simp only [List.mem_singleton] at hq
   subst hq
   have := (h.files p hp).2.1.lt a hpa
   have := hrow b hqb
   omega
 ·rw [List.length_append]
  simp
  omega
 ·rintro k (rfl | rfl | ⟨p, hp, hpk⟩)
  ·exact .inl (.inl rfl)
  ·exact .inl (.inr (.inl rfl))
  ·rcases List.mem_append.1 hp with hp | hp
   ·exact .inl (.inr (.inr ⟨p, hp, hpk⟩))
   ·simp only [List.mem_singleton] at hp
    subst hp
    right
    rcases hpk with rfl | hpk
    ·exact hblk
    ·exact hrow k hpk
end
theorem kindStr : Tryz.prog.underlying 9 = some .string := Tryz.underlying9
theorem strKey (k : ByteArray) : MapKept.IsKey .string (Value.string k) := trivial
theorem strInj (a b : ByteArray) (h : Value.string a = Value.string b) : a = b := by injection h
theorem zeroPtr (w : World) : (zeroValue 162).run Tryz.prog w = .ok (.pointer none) w := by kernel_rfl
theorem infoByte : (Tryz.prog.info? 5).map (fun i => (i.zero, i.size, i.bytes)) = some (some (.int .u8 0), 1, 1) := by kernel_rfl
theorem look_file {w : World} {m : Nat} {l : List (ByteArray × Value)} (h : GMap Value.string w m l) (k : ByteArray) :
  (Instr.lookup 159 (.map (some m)) (.string k) false).run Tryz.prog w = .ok ((gget l k).getD (.pointer none)) w :=
 (run_lookup_g Tryz.underlying159 kindStr strKey strInj zeroPtr h k).1
end Go.Proofs.YtgnkmjeoaoongaaGreatDoor
namespace Go.Proofs.YtgnkmjeoaoongaaGreatDoor
open Go.RowKit Go.Mer
theorem ret_int' {k : IntKind} {a b : Int} (h : a = b) : Ending.returned (.int k a) = .returned (.int k b) := by rw [h]
set_option maxHeartbeats 400000 in
theorem clone_any (a : Option Addr) (c : Nat) (xs : List UInt8) (B : Nat) (w : World) (hr : Rd w B a (u8s xs)) (hm : xs.length ≤ 140737488355328) :
  Calls Tryz.prog 103 #[.slice a xs.length c] w fun e w' => ∃ v, e = .returned v ∧ Own w' 5 1 v xs.length (u8s xs) ∧ Kp No w w' ∧ ∀ g, v.ownBlock = some g → w.heap.size ≤ g := by
 obtain ⟨i0, hi, hz0, hz1, hz2⟩ := info_parts infoByte
 cases a with
 | none =>
  have hx : xs = [] := by
   rcases Nat.eq_zero_or_pos xs.length with h | h
   ·exact List.eq_nil_of_length_eq_zero h
   ·obtain ⟨g, off, h1, _⟩ := hr (by rw [u8s_length]; exact h)
    cases h1
  subst hx
  have hq := fun w => Lib.run_eql_slice_nil (P := Tryz.prog) w 42 5 none 0 c 0 0 Tryz.underlying42
  simp only [List.length_nil]
  go_enter Tryz.func103, Tryz.ntmps103
  go_wp2_with fail
  go_ret
  exact ⟨_, rfl, Own.nil _ _ _, Kp.refl _ _, fun g h => by simp [Value.ownBlock] at h⟩
 | some ad =>
  have hq := fun w => Lib.run_eql_slice_nil (P := Tryz.prog) w 42 5 (some ad) xs.length c 0 0 Tryz.underlying42
  have hal : Kp No w (w.alloc (.cells #[] 5)) := (Kp.refl _ _).alloc _
  have hown0 : Own (w.alloc (.cells #[] 5)) 5 1 (.slice (some ⟨w.heap.size, 0, none⟩) 0 0) 0 [] := Own.made w 5 1 #[] 0 0 (Nat.le_refl _) (by simp [maxLen]) (by simp) rfl
  have hsrc : Src (w.alloc (.cells #[] 5)) 1 (.slice (some ad) xs.length c) xs.length (u8s xs) := ⟨by simp [u8s_length], some ad, c, rfl, fun hx => by
   obtain ⟨g, off, h1, h2, h3, h4⟩ := hr hx
   exact ⟨g, off, h1, by simp; omega, Nat.le_refl _, fun j u hu => (hal.cell (p := ⟨g, off + j, none⟩) (by show g < _; omega) (fun x => x)).trans (h4 j u hu)⟩⟩
  obtain ⟨v1, w1, hrun, hown, hkp, hblk⟩ := run_append_Own (P := Tryz.prog) (w := w.alloc (.cells #[] 5)) 42 42 42 5 i0 (.int .u8 0) 1 1 Tryz.underlying42 ⟨_, Tryz.underlying42⟩ hi hz0 hz1 hz2 rfl
   (.slice (some ⟨w.heap.size, 0, none⟩) 0 0) 0 [] hown0 (.slice (some ad) xs.length c) xs.length (u8s xs) hsrc (u8s_one xs) (by simp only [maxLen]; omega) (by omega)
  have HO := Lib.hid hown
  have HK := Lib.hid hkp
  have HB := Lib.hid hblk
  have HR := Lib.hid hrun
  clear hown hkp hblk hown0 hsrc hz0 hz1 hz2 hi hrun
  go_enter Tryz.func103, Tryz.ntmps103
  go_wp2_with (at_builtin; refine wpList_append_run rfl rfl rfl rfl HR.out ?_)
  go_ret
  refine ⟨_, rfl, by simpa using HO.out, hal.trans HK.out (fun k hk h => by simp [Value.ownBlock] at h; omega), fun g hg => ?_⟩
  rcases HB.out with h | ⟨g', h, h'⟩
  ·have hg2 : v1.ownBlock = some g := hg
   rw [h] at hg2
   simp [Value.ownBlock] at hg2
   omega
  ·have hg2 : v1.ownBlock = some g := hg
   rw [h] at hg2
   injection hg2 with hg2
   simp at h'
   omega
theorem new_any (room : Nat) (w : World) (hhi : room ≤ 1073741824) :
  Calls Tryz.prog 53 #[.int .i64 (room : Int)] w fun e w' =>
   e = .returned (.tuple #[.pointer (some ⟨w.heap.size + 1, 0, none⟩), .int .i64 0]) ∧ Kp No w w' ∧ ∃ F, DiskAt w' (w.heap.size + 1) ⟨room, none, []⟩ F ∧ ∀ k, F k → w.heap.size ≤ k := by
 have hmm := @run_makeMap Tryz.prog
 go_enter Tryz.func53, Tryz.ntmps53
 go_wp2_with fail
 go_ret2
 refine ⟨rfl, ((Kp.refl _ _).alloc _).alloc _, fun k => k = w.heap.size ∨ k = w.heap.size + 1, ⟨w.heap.size, false, 0, [], ?_, rfl, rfl, ?_, ?_⟩, ?_⟩
 ·refine { cell := ?_, map := ?_, files := (by simp), blks := (by simp), rows := (by simp), fits := (by simp [absL, totF]), roomy := hhi, few := (by simp), left0 := (by simp), leftM := (by simp) }
  ·have := heap_alloc_new (w.alloc (.map #[] 0)) (.cells #[.int .i64 (room : Int), .map (some w.heap.size), .bool false, .int .i64 0] 161)
   simpa using this
  ·exact (GMap.made Value.string w).of_heap (by
    rw [Below.heap_alloc _ _ _ (by simp)])
 ·rintro k (rfl | rfl | ⟨p, hp, _⟩)
  ·exact .inr rfl
  ·exact .inl rfl
  ·cases hp
 ·rintro k (rfl | rfl) <;> simp <;> omega
 ·rintro k (rfl | rfl) <;> omega
set_option maxHeartbeats 400000 in
theorem used_any (w : World) (d m room : Nat) (fused : Bool) (left : Int) (L : FilesR) (hD : DiskC w d m room fused left L) :
  Calls Tryz.prog 273 #[.pointer (some ⟨d, 0, none⟩)] w fun e w' => e = .returned (.int .i64 (totF (absL L) : Int)) ∧ Kp No w w' := by
 have HD := Lib.hid hD
 have c1 := cell_at hD.cell 1
 simp at c1
 obtain ⟨o, hrun, hit⟩ := run_range_g (P := Tryz.prog) Tryz.underlying159 hD.map
 have HI := Lib.hid hit
 clear hit hD
 go_enter Tryz.func273, Tryz.ntmps273
 go_wp2_with fail
 go_loopg [3] (restV (absL L) []) (fun g n wr => ∃ V, g = restV (absL L) V ∧ Hid (GIter Value.string wr w.heap.size m (ptrL L) V) ∧ Kp No w wr ∧ n = .int .i64 (totV (absL L) V : Int))
 case atStart => exact ⟨[], rfl, HI.out, (Kp.refl _ _).alloc _, by rw [totV_nil]; rfl⟩
 case round =>
  obtain ⟨V, rfl, hI, hk, rfl⟩ := hrel
  have hD' := HD.out.keep_no hk
  have hsum := totV_le (absL L) V
  have hfit := hD'.fits
  have hroom := hD'.roomy
  rcases run_next_g (P := Tryz.prog) 0 hI.out with ⟨hall, hnext⟩ | ⟨p, hp, hpV, n, o', hnext, hI', hent⟩
  ·have ht := totV_all (l := absL L) (V := V) (fun q hq => by
    obtain ⟨x, hx, rfl⟩ := List.mem_map.1 hq
    exact hall (x.1, x.2.ptr) (List.mem_map.2 ⟨x, hx, rfl⟩))
   have HT := Lib.hid ht
   clear ht hall hD'
   go_wp2_with fail
   go_ret
   exact ⟨ret_int' (by rw [HT.out]), hk⟩
  ·obtain ⟨x, hx, rfl⟩ := List.mem_map.1 hp
   have hxa : (x.1, x.2.abs) ∈ absL L := List.mem_map.2 ⟨x, hx, rfl⟩
   have hst := totV_step (V := V) (by rw [keys_absL]; exact HD.out.keys) hxa hpV
   have hsum' := totV_le (absL L) (x.1 :: V)
   have hre := (filter_step (V := V) (by rw [keys_absL]; exact HD.out.keys) hxa hpV).2
   have hrm : w.heap.size ≠ m := hI.out.ne
   have hk' : Kp No w (ChangeMaps.setBlock (wr.drewN n) w.heap.size o') := (hk.drewN n).setBlock (.inr (Nat.le_refl _)) o'
   have hrl : w.heap.size < wr.heap.size := hI.out.lt
   have hf := (HD.out.keep_no hk').files x hx
   have cf := cell_at hf.1 0
   simp at cf
   obtain ⟨fa, fc, hv, _⟩ := hf.2.1.rd
   have cf' : (ChangeMaps.setBlock (wr.drewN n) w.heap.size o').cell? ⟨x.2.blk, 0, none⟩ = some (.slice fa x.2.data.length fc) := by rw [← hv]; exact cf
   have hnx : (Instr.next (.pointer (some ⟨w.heap.size, 0, none⟩)) false 0).run Tryz.prog wr = .ok (.tuple #[.bool true, .string x.1, .pointer (some ⟨x.2.blk, 0, none⟩)]) (ChangeMaps.setBlock (wr.drewN n) w.heap.size o') := hnext
   have hen : (Instr.entry (.pointer (some ⟨w.heap.size, 0, none⟩))).run Tryz.prog (ChangeMaps.setBlock (wr.drewN n) w.heap.size o') = .ok (.tuple #[.string x.1, .pointer (some ⟨x.2.blk, 0, none⟩)]) (ChangeMaps.setBlock (wr.drewN n) w.heap.size o') :=
    hent _ (setBlock_at (w := wr.drewN n) hrl o') (by show (wr.heap.setIfInBounds _ o')[m]? = _; rw [Array.getElem?_setIfInBounds_ne hrm])
   have hI2 := Lib.hid hI'
   have hadd : totV (absL L) V + x.2.data.length ≤ totF (absL L) := by have := hst; simp only [FileR.abs] at this; omega
   have hst' := Lib.hid hst
   have hre' := Lib.hid hre
   obtain ⟨W2, hW2⟩ : ∃ W, W = ChangeMaps.setBlock (wr.drewN n) w.heap.size o' := ⟨_, rfl⟩
   rw [← hW2] at cf' hnx hen hI2 hk'
   clear hW2 hnext hent hI' hst hre hv cf hf hsum' hxa hp hpV hI hD' hk
   go_wp2_with fail
   go_roundg (restV (absL L) (x.1 :: V))
   case measure => have := hre'.out; omega
   case rel => exact ⟨x.1 :: V, rfl, hI2.out, hk', by rw [hst'.out]; go_num⟩
end Go.Proofs.YtgnkmjeoaoongaaGreatDoor
namespace Go.Proofs.YtgnkmjeoaoongaaGreatDoor
open Go.RowKit Go.Mer
def verV (x : VerR) : Value := .agg (verC x).toArray
theorem isV_cases (v : VerS) :
  (isSt v.m v.c = false ∧ isV v = false) ∨
  (isSt v.m v.c = true ∧ decide (0 ≤ v.o) = false ∧ isV v = false) ∨
  (isSt v.m v.c = true ∧ decide (0 ≤ v.o) = true ∧ decide (v.o < 5) = false ∧ isV v = false) ∨
  (isSt v.m v.c = true ∧ decide (0 ≤ v.o) = true ∧ decide (v.o < 5) = true ∧ (decide ((v.val.length : Int) ≤ 1024) = false ∧ decide (v.val.length ≤ 1024) = false) ∧ isV v = false) ∨
  (isSt v.m v.c = true ∧ decide (0 ≤ v.o) = true ∧ decide (v.o < 5) = true ∧ (decide ((v.val.length : Int) ≤ 1024) = true ∧ decide (v.val.length ≤ 1024) = true) ∧ decide (0 ≤ v.ttl) = false ∧ isV v = false) ∨
  (isSt v.m v.c = true ∧ decide (0 ≤ v.o) = true ∧ decide (v.o < 5) = true ∧ (decide ((v.val.length : Int) ≤ 1024) = true ∧ decide (v.val.length ≤ 1024) = true) ∧ decide (0 ≤ v.ttl) = true ∧ decide (v.ttl ≤ 281474976710655) = false ∧ isV v = false) ∨
  (isSt v.m v.c = true ∧ decide (0 ≤ v.o) = true ∧ decide (v.o < 5) = true ∧ (decide ((v.val.length : Int) ≤ 1024) = true ∧ decide (v.val.length ≤ 1024) = true) ∧ decide (0 ≤ v.ttl) = true ∧ decide (v.ttl ≤ 281474976710655) = true ∧ v.gone = false ∧ isV v = true) ∨
  (isSt v.m v.c = true ∧ decide (0 ≤ v.o) = true ∧ decide (v.o < 5) = true ∧ (decide ((v.val.length : Int) ≤ 1024) = true ∧ decide (v.val.length ≤ 1024) = true) ∧ decide (0 ≤ v.ttl) = true ∧ decide (v.ttl ≤ 281474976710655) = true ∧ v.gone = true ∧ (((v.val.length : Int) == 0) = false ∧ (v.val.length == 0) = false) ∧ isV v = false) ∨
  (isSt v.m v.c = true ∧ decide (0 ≤ v.o) = true ∧ decide (v.o < 5) = true ∧ (decide ((v.val.length : Int) ≤ 1024) = true ∧ decide (v.val.length ≤ 1024) = true) ∧ decide (0 ≤ v.ttl) = true ∧ decide (v.ttl ≤ 281474976710655) = true ∧ v.gone = true ∧ (((v.val.length : Int) == 0) = true ∧ (v.val.length == 0) = true) ∧ (v.ttl == 0) = false ∧ isV v = false) ∨
  (isSt v.m v.c = true ∧ decide (0 ≤ v.o) = true ∧ decide (v.o < 5) = true ∧ (decide ((v.val.length : Int) ≤ 1024) = true ∧ decide (v.val.length ≤ 1024) = true) ∧ decide (0 ≤ v.ttl) = true ∧ decide (v.ttl ≤ 281474976710655) = true ∧ v.gone = true ∧ (((v.val.length : Int) == 0) = true ∧ (v.val.length == 0) = true) ∧ (v.ttl == 0) = true ∧ isV v = true) := by
 have hV : isV v = (isSt v.m v.c && decide (0 ≤ v.o ∧ v.o < 5 ∧ v.val.length ≤ 1024 ∧ 0 ≤ v.ttl ∧ v.ttl ≤ 281474976710655 ∧ (v.gone = true → v.val.length = 0 ∧ v.ttl = 0))) := rfl
 rw [hV]
 cases h1 : isSt v.m v.c with
 | false => exact .inl ⟨rfl, rfl⟩
 | true =>
  right
  by_cases h2 : 0 ≤ v.o
  ·right
   by_cases h3 : v.o < 5
   ·right
    by_cases h4 : v.val.length ≤ 1024
    ·have h4' : (v.val.length : Int) ≤ 1024 := by omega
     right
     by_cases h5 : 0 ≤ v.ttl
     ·right
      by_cases h6 : v.ttl ≤ 281474976710655
      ·right
       cases h7 : v.gone with
       | false => left; simp [h2, h3, h4, h4', h5, h6]
       | true =>
        right
        by_cases h8 : v.val.length = 0
        ·right
         by_cases h9 : v.ttl = 0
         ·right; simp [h2, h3, h8, h9]
         ·left; simp [h2, h3, h5, h6, h8, h9]
        ·left
         have h8' : ¬ ((v.val.length : Int) = 0) := by omega
         simp [h2, h3, h4, h4', h5, h6, h8]
      ·left; simp [h2, h3, h4, h4', h5, h6]
     ·left; simp [h2, h3, h4, h4', h5]
    ·left
     have h4' : ¬ ((v.val.length : Int) ≤ 1024) := by omega
     simp [h2, h3, h4, h4']
   ·left; simp [h2, h3]
  ·left; simp [h2]
set_option maxRecDepth 20000 in
set_option maxHeartbeats 1000000 in
theorem cIs_any (x : VerR) (w : World) : Calls Tryz.prog 189 #[verV x] w fun e w' => e = .returned (.bool (isV x.v)) ∧ Kp No w w' := by
 obtain ⟨v, a, cap⟩ := x
 have hcs := isV_cases v
 simp only
 obtain ⟨r, hr⟩ : ∃ r, r = isV v := ⟨_, rfl⟩
 rw [← hr] at hcs ⊢
 unfold verV verC VerR.sl
 simp only
 clear hr
 rcases hcs with ⟨b1, hr⟩ | ⟨b1, b2, hr⟩ | ⟨b1, b2, b3, hr⟩ | ⟨b1, b2, b3, ⟨b4, b4'⟩, hr⟩ | ⟨b1, b2, b3, ⟨b4, b4'⟩, b5, hr⟩ | ⟨b1, b2, b3, ⟨b4, b4'⟩, b5, b6, hr⟩ | ⟨b1, b2, b3, ⟨b4, b4'⟩, b5, b6, b7, hr⟩ | ⟨b1, b2, b3, ⟨b4, b4'⟩, b5, b6, b7, ⟨b8, b8'⟩, hr⟩ | ⟨b1, b2, b3, ⟨b4, b4'⟩, b5, b6, b7, ⟨b8, b8'⟩, b9, hr⟩ | ⟨b1, b2, b3, ⟨b4, b4'⟩, b5, b6, b7, ⟨b8, b8'⟩, b9, hr⟩
 all_goals
  have HB := Lib.hid b1
  have HR := Lib.hid hr
  clear b1 hr
  go_enter Tryz.func189, Tryz.ntmps189
  go_wp2_with fail
  first | (refine (Pack_no _ _ _ HB.out).mono ?_) | (refine (Pack_any _ _ _ HB.out).mono ?_)
  rintro e w' ⟨rfl, hk⟩
  have hk' : Kp No w w' := ((Kp.refl _ _).alloc _).trans_same hk
  have hc := hk.get (heap_alloc_new w _) fun x => x
  have c2 := cell_at hc 2
  have c3 := cell_at hc 3
  have c4 := cell_at hc 4
  have c5 := cell_at hc 5
  have hlt := get_lt hc
  simp at c2 c3 c4 c5
  clear hc hk
  go_wp2_with fail
  go_ret
  exact ⟨by rw [HR.out]; rfl, hk'⟩
def ordZ (a b : VerS) : Int := ordF a.m a.c a.o b.m b.c b.o
theorem ordZ_neg (a b : VerS) : ordZ a b < 0 ↔ vLt a b = true := by
 rw [vLt_iff]
 unfold ordZ ordF cmpH cmpI
 repeat' split
 all_goals omega
theorem cOrder_any (x y : VerR) (w : World) : Calls Tryz.prog 191 #[verV x, verV y] w fun e w' => e = .returned (.int .i64 (ordZ x.v y.v)) ∧ Kp No w w' :=
 order_any x.v.m x.v.c x.v.o x.sl x.v.gone x.v.ttl y.v.m y.v.c y.v.o y.sl y.v.gone y.v.ttl w
theorem cmpH_st (m c n d : Int) : (cmpH m c n d ≤ 0 ↔ stLt n d m c = false) ∧ (cmpH m c n d < 0 ↔ stLt m c n d = true) ∧ (0 < cmpH m c n d ↔ stLt n d m c = true) := by
 rw [stLt_iff, stLt_iff, stLt_not]
 unfold cmpH
 repeat' split
 all_goals omega
theorem seen_eq (v : VerS) (hv : isV v = true) (m c : Int) (hm : m ≤ 9223372036854775807) : seenF v.m v.c v.gone v.ttl m c = seenV v m c := by
 obtain ⟨⟨h1, h2, _, _⟩, _⟩ := isV_iff.1 hv
 unfold seenF seenV
 have h := (cmpH_st v.m v.c m c).1
 cases hs : stLt m c v.m v.c with
 | true =>
  have : decide (cmpH v.m v.c m c ≤ 0) = false := by
   rw [decide_eq_false_iff_not, h, hs]
   decide
  rw [this]
  rfl
 | false =>
  have e : decide (cmpH v.m v.c m c ≤ 0) = true := by
   rw [decide_eq_true_iff, h]
   exact hs
  rw [e]
  rw [stLt_not] at hs
  rw [IntWalk.wrap64_in _ (by omega)]
  rfl
theorem cSeen_any (x : VerR) (hv : isV x.v = true) (m c : Int) (hm : m ≤ 9223372036854775807) (w : World) : Calls Tryz.prog 134 #[verV x, stv m c] w fun e w' => e = .returned (.bool (seenV x.v m c)) ∧ Kp No w w' := by
 rw [← seen_eq x.v hv m c hm]
 exact Seen_any x.v.m x.v.c x.v.o x.sl x.v.gone x.v.ttl m c w
set_option maxRecDepth 20000 in
set_option maxHeartbeats 1000000 in
theorem cOwn_any (x : VerR) (w : World) (hx : x.rd w) (hl : x.v.val.length ≤ 140737488355328) :
  Calls Tryz.prog 116 #[verV x] w fun e w' => ∃ y : VerR, y.v = x.v ∧ e = .returned (verV y) ∧ y.ok w' ∧ (∀ g, y.sl.ownBlock = some g → w.heap.size ≤ g) ∧ Kp No w w' := by
 obtain ⟨v, a, cap⟩ := x
 obtain ⟨hR, hc, _⟩ := hx
 simp only at hR hc hl ⊢
 unfold verV verC VerR.sl
 simp only
 obtain ⟨W2, hW2⟩ : ∃ W, W = (w.alloc (.cells #[.int .i64 v.m, .int .i64 v.c, .int .i64 v.o, .slice a v.val.length cap, .bool v.gone, .int .i64 v.ttl] 44)).alloc (.cells #[.int .i64 0, .int .i64 0, .int .i64 0, .slice none 0 0, .bool false, .int .i64 0] 44) := ⟨_, rfl⟩
 have k2 : Kp No w W2 := by rw [hW2]; exact ((Kp.refl _ _).alloc _).alloc _
 have b1 : W2.heap[w.heap.size]? = some (.cells #[.int .i64 v.m, .int .i64 v.c, .int .i64 v.o, .slice a v.val.length cap, .bool v.gone, .int .i64 v.ttl] 44 (0, 0)) := by rw [hW2]; exact alloc_far (heap_alloc_new w _) _
 have b2 : W2.heap[w.heap.size + 1]? = some (.cells #[.int .i64 0, .int .i64 0, .int .i64 0, .slice none 0 0, .bool false, .int .i64 0] 44 (0, 0)) := by rw [hW2]; exact (congrArg (fun k => ((w.alloc _).alloc _).heap[k]?) (by simp)).trans (heap_alloc_new (w.alloc _) _)
 have hcl := clone_any a cap v.val W2.heap.size W2 (Rd.kp hR k2) hl
 obtain ⟨n, hn⟩ : ∃ n, n = v.val.length := ⟨_, rfl⟩
 rw [← hn] at hcl b1 hW2 ⊢
 have c3 := cell_at b1 3
 have hl1 := get_lt b1
 simp at c3
 have HB := Lib.hid (And.intro b1 b2)
 have HK2 := Lib.hid k2
 have HCL := Lib.hid hcl
 have HN := Lib.hid hn
 clear b1 b2 k2 hcl hn hR hc hl
 go_enter Tryz.func116, Tryz.ntmps116
 go_wp2_with fail
 (try rw [← hW2])
 clear hW2
 have hc := HCL.out
 with_reducible refine hc.mono ?_
 rintro e w3 ⟨u, rfl, ho, hk, hf⟩
 obtain ⟨_, a1, c1, rfl, _⟩ := id ho
 have b1 := hk.get HB.out.1 fun x => x
 have b2 := hk.get HB.out.2 fun x => x
 have f1 := free_at b1 3
 have d3 := cell_at b1 3
 have hl1 := get_lt b1
 simp at d3
 have HB1 := Lib.hid b1
 have HB2 := Lib.hid b2
 have HO := Lib.hid (And.intro ho (And.intro (fun g hg => Nat.le_trans HK2.out.size (hf g hg)) (HK2.out.trans_same hk)))
 clear ho hf hk b1 b2 hc HCL c3 HB HK2
 go_upto_region 2 with fail
 obtain ⟨W4, hW4⟩ : ∃ W, W = w3.setCell ⟨w.heap.size, 3, none⟩ (.slice a1 n c1) := ⟨_, rfl⟩
 have k4 : Kp (Mer.One w.heap.size) w3 W4 := by rw [hW4]; exact (Kp.refl (Mer.One w.heap.size) _).setCell (p := ⟨w.heap.size, 3, none⟩) (.inl (show Mer.One w.heap.size w.heap.size from rfl)) _
 have b4 := set_at HB1.out 3 (.slice a1 n c1)
 rw [← hW4] at b4
 have HR1 := Lib.hid (show W4.rangeAt w.heap.size 0 [.int .i64 v.m, .int .i64 v.c, .int .i64 v.o, .slice a1 n c1, .bool v.gone, .int .i64 v.ttl] from rangeAt_block b4 0 6)
 have HB4 := Lib.hid (k4.get HB2.out fun e => by have e : w.heap.size + 1 = w.heap.size := e; omega)
 have HK4 := Lib.hid k4
 rw [← hW4]
 clear hW4 k4 b4 f1 d3 hl1
 go_wp2_with (first
  | (refine wpList_load_w rfl 44 _ rfl w.heap.size 0 rfl _ _ HR1 Tryz.underlying44 rfl (by kernel_rfl) ?_)
  | (refine wpList_store_r rfl 44 _ _ rfl (w.heap.size + 1) _ rfl rfl 44 _ HB4 (by kernel_rfl) (by rfl) (by rfl) ?_))
 obtain ⟨W5, hW5⟩ : ∃ W, W = W4.setRow (w.heap.size + 1) #[.int .i64 v.m, .int .i64 v.c, .int .i64 v.o, .slice a1 n c1, .bool v.gone, .int .i64 v.ttl] := ⟨_, rfl⟩
 have k5 : Kp (Mer.One (w.heap.size + 1)) W4 W5 := by rw [hW5]; exact (Kp.refl (Mer.One (w.heap.size + 1)) _).setRow (.inl (show Mer.One (w.heap.size + 1) (w.heap.size + 1) from rfl)) _
 have b5 := setRow_at (cs := #[.int .i64 v.m, .int .i64 v.c, .int .i64 v.o, .slice a1 n c1, .bool v.gone, .int .i64 v.ttl]) HB4.out
 rw [← hW5] at b5
 have d0 := cell_at b5 0
 have d1 := cell_at b5 1
 have d2 := cell_at b5 2
 have d3 := cell_at b5 3
 have d4 := cell_at b5 4
 have d5 := cell_at b5 5
 simp at d0 d1 d2 d3 d4 d5
 (try rw [← hW5])
 have hkF : Kp (fun k => k = w.heap.size ∨ k = w.heap.size + 1) w3 W5 := (HK4.out.mono fun _ _ h => .inl h).trans k5 fun _ _ h => .inr h
 refine bodyPost_ret (v := .agg #[.int .i64 v.m, .int .i64 v.c, .int .i64 v.o, .slice a1 n c1, .bool v.gone, .int .i64 v.ttl]) (by simp [results, Tryz.results116, go_sem, d0, d1, d2, d3, d4, d5]) rfl ⟨⟨v, a1, c1⟩, rfl, ?_, ?_, ?_, ?_⟩
 ·rw [show n = _ from HN.out]
 ·have h : Own w3 5 1 (.slice a1 v.val.length c1) v.val.length (u8s v.val) := by rw [← show n = _ from HN.out]; exact HO.out.1
  exact h.keep hkF fun g hg hS => by
   obtain ⟨cur, hcu⟩ := h.type g hg
   rcases hS with rfl | rfl
   ·exact ne_of_type hcu HB1.out (by decide) rfl
   ·exact ne_of_type hcu HB2.out (by decide) rfl
 ·intro g hg
  rw [← show n = _ from HN.out] at hg
  exact HO.out.2.1 g hg
 ·exact HO.out.2.2.trans hkF fun i hi hS => by rcases hS with rfl | rfl <;> omega
end Go.Proofs.YtgnkmjeoaoongaaGreatDoor

