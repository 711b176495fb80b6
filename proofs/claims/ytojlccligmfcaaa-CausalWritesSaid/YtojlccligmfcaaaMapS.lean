/-
  Maps whose keys are structs of plain values: what a look-up and a store do, over a list of pairs.
-/
import Derived.Test.YtojlccligmfcaaaMaps
import Derived.Laws.StructEq
namespace Go.Mer
open Go Go.RowKit Go.MapKept
open Go.ChangeMaps (setBlock)

/-- Keys that are compared as a whole. -/
structure KeyLaw (P : Program) (kt : TypeId) {K : Type} [DecidableEq K] (kv : K → Value) : Prop where
  inj : ∀ a b, kv a = kv b → a = b
  check : ∀ (w : World) (e : Bool) (k : K), (Instr.checkKey e 10000 kt (kv k)).run P w = .ok () w
  bits : ∀ k : K, Instr.sameBits 10000 (kv k) (kv k) = true
  eq : ∀ (w : World) (a b : K), (Op.equal kt (kv a) (kv b)).run P w = .ok (decide (a = b)) w
  now : ∃ d, P.underlying kt = some d ∧ ∀ a b : K, Instr.sameNow d (kv a) (kv b) = none

section
variable {K : Type} [DecidableEq K] {P : Program} {kt et t : TypeId} {kv : K → Value} {w : World}
theorem run_asking (h : KeyLaw P kt kv) (k : K) : ∀ (es : List MapEntry) (l : List (K × Value)) (i : Nat), es.map (fun e => (e.key, e.val)) = l.map (fun p => (kv p.1, p.2)) →
    ((Instr.findAsking kt (kv k) es i).run P w = .ok none w ∧ k ∉ l.map (·.1) ∧ ∀ x ∈ es, x.key ≠ kv k) ∨
    ∃ j e, (Instr.findAsking kt (kv k) es i).run P w = .ok (some (i + j, e.val)) w ∧ es[j]? = some e ∧ e.key = kv k ∧ l[j]? = some (k, e.val)
  | [], l, i, hp => by
    have : l = [] := by simpa using hp.symm
    subst this
    exact .inl ⟨rfl, by simp, by simp⟩
  | e :: es, [], i, hp => by simp at hp
  | e :: es, p :: l, i, hp => by
    simp only [List.map_cons, List.cons.injEq, Prod.mk.injEq] at hp
    obtain ⟨⟨h1, h2⟩, h3⟩ := hp
    have he := h.eq w k p.1
    by_cases hk : k = p.1
    · refine .inr ⟨0, e, ?_, rfl, by rw [h1, hk], by rw [hk, h2]; rfl⟩
      rw [hk] at he ⊢
      simp [Instr.findAsking, h1, he, Result.andThen]
    · rcases run_asking h k es l (i + 1) h3 with ⟨h4, h5, h6⟩ | ⟨j, e', h4, h5, h6, h7⟩
      · refine .inl ⟨?_, ?_, ?_⟩
        · simp [Instr.findAsking, h1, he, hk, h4, Result.andThen]
        · simp only [List.map_cons, List.mem_cons, not_or]
          exact ⟨hk, h5⟩
        · intro x hx
          rcases List.mem_cons.1 hx with rfl | hx
          · rw [h1]
            exact fun e => hk (h.inj _ _ e).symm
          · exact h6 x hx
      · refine .inr ⟨j + 1, e', ?_, by simpa using h5, h6, by simpa using h7⟩
        simp [Instr.findAsking, h1, he, hk, h4, Result.andThen]
        omega
theorem run_findKey_s (h : KeyLaw P kt kv) (k : K) (es : List MapEntry) (l : List (K × Value)) (hp : es.map (fun e => (e.key, e.val)) = l.map (fun p => (kv p.1, p.2))) :
    ((Instr.findKey kt (kv k) es).run P w = .ok none w ∧ k ∉ l.map (·.1) ∧ ∀ x ∈ es, x.key ≠ kv k) ∨
    ∃ j e, (Instr.findKey kt (kv k) es).run P w = .ok (some (j, e.val)) w ∧ es[j]? = some e ∧ e.key = kv k ∧ l[j]? = some (k, e.val) := by
  obtain ⟨d, hd, hnow⟩ := h.now
  cases es with
  | nil =>
    have : l = [] := by simpa using hp.symm
    subst this
    exact .inl ⟨by simp [Instr.findKey, run_underlying hd, Instr.findNow, Result.andThen], by simp, by simp⟩
  | cons e es =>
    have hn : Instr.findNow d (kv k) (e :: es) 0 = none := by
      cases l with
      | nil => simp at hp
      | cons p l =>
        simp only [List.map_cons, List.cons.injEq, Prod.mk.injEq] at hp
        simp [Instr.findNow, hp.1.1, hnow]
    rcases run_asking (w := w) h k (e :: es) l 0 hp with ⟨h4, h5, h6⟩ | ⟨j, e', h4, h5, h6, h7⟩
    · exact .inl ⟨by simp [Instr.findKey, run_underlying hd, hn, h4, Result.andThen], h5, h6⟩
    · refine .inr ⟨j, e', ?_, h5, h6, h7⟩
      rw [Nat.zero_add] at h4
      simp [Instr.findKey, run_underlying hd, hn, h4, Result.andThen]
/-- v := m[k]; v, ok := m[k] -/
theorem run_lookup_s {m : Nat} {l : List (K × Value)} (ht : P.underlying t = some (.map kt et)) (hk : KeyLaw P kt kv) {z : Value} (hz : ∀ w : World, (zeroValue et).run P w = .ok z w) (h : GMap kv w m l) (k : K) :
    (Instr.lookup t (.map (some m)) (kv k) false).run P w = .ok ((gget l k).getD z) w ∧
    (Instr.lookup t (.map (some m)) (kv k) true).run P w = .ok (.tuple #[(gget l k).getD z, .bool (gget l k).isSome]) w := by
  obtain ⟨es, clock, hm, hs, hp⟩ := id h
  rcases run_findKey_s (w := w) hk k es.toList l hp with ⟨h1, h2, _⟩ | ⟨j, e, h1, h2, h3, h4⟩
  · rw [gget_none h2]
    constructor <;> simp [Instr.lookup, run_underlying ht, MapKept.run_getObj_map hm, hk.check, h1, hz, Result.andThen]
  · rw [gget_some h.nodup (List.mem_of_getElem? h4)]
    constructor <;> simp [Instr.lookup, run_underlying ht, MapKept.run_getObj_map hm, hk.check, h1, Result.andThen]
/-- m[k] = v -/
theorem run_update_s {m : Nat} {l : List (K × Value)} (ht : P.underlying t = some (.map kt et)) (hk : KeyLaw P kt kv) (h : GMap kv w m l) (k : K) (v : Value) :
    ∃ o, (Instr.mapUpdate t (.map (some m)) (kv k) v).run P w = .ok () (setBlock w m o) ∧ ∀ w', w'.heap[m]? = some o → GMap kv w' m (gset l k v) := by
  obtain ⟨es, clock, hm, hs, hp⟩ := id h
  rcases run_findKey_s (w := w) hk k es.toList l hp with ⟨h1, h2, h3⟩ | ⟨j, e, h1, h2, h3, h4⟩
  · refine ⟨.map (es.push { key := kv k, val := v, born := clock }) (clock + 1), ?_, fun w' hw' => ⟨_, _, hw', stamped_push hs h3, ?_⟩⟩
    · simp [Instr.mapUpdate, run_underlying ht, MapKept.run_getObj_map hm, hk.check, h1, MapKept.run_setObj_map _ hm, Result.andThen, setBlock]
    · unfold gset
      rw [if_neg h2]
      simp [hp]
  · have hj : es[j]? = some e := by simpa using h2
    refine ⟨.map (es.modify j fun e => { e with key := kv k, val := v }) clock, ?_, fun w' hw' => ⟨_, _, hw', stamped_modify hs j _ (fun _ _ => rfl) (fun e' _ he' => by rw [hj] at he'; cases he'; exact h3.symm), ?_⟩⟩
    · simp [Instr.mapUpdate, run_underlying ht, MapKept.run_getObj_map hm, hk.check, h1, hj, h3, Instr.keyThatStays, hk.bits, MapKept.run_setObj_map _ hm, Result.andThen, setBlock]
    · rw [gset_set h.nodup h4, List.map_set, ← hp, Array.toList_modify]
      apply List.ext_getElem?
      intro i
      simp only [List.getElem?_map, List.getElem?_modify, List.getElem?_set, List.length_map]
      have hjl := (List.getElem?_eq_some_iff.1 h2).1
      by_cases hij : j = i
      · subst hij
        have hjs : j < es.size := by simpa using hjl
        simp [hjs]
      · simp [hij]
end
end Go.Mer
