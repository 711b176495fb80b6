/-
  Texts laid together: RCut, XOpen, WFit, WFit2.
-/
import Derived.Test.YtgnkmjeoaoongaaGreatDoorSb5
import Derived.Test.YtgnkmjeoaoongaaGreatDoorSa8
import Derived.Deep.CutRange
import Derived.Test.YtgnkmjeoaoongaaGreatDoorSc1
import Derived.Test.YtgnkmjeoaoongaaGreatDoorSc2
import Derived.Test.YtgnkmjeoaoongaaGreatDoorSc3
namespace Go.Proofs.YtgnkmjeoaoongaaGreatDoor
open Go.RowKit Go.Mer
end Go.Proofs.YtgnkmjeoaoongaaGreatDoor
namespace Go.Proofs.YtgnkmjeoaoongaaGreatDoor
open Go.RowKit Go.Mer
def XL0 (w : World) (x r : Nat) (P : ByteArray) (st : LSt) (G : Nat → Prop) : Prop :=
 ∃ sv ev E, RLogC w x r P sv ev (st.segs.map (·.1)) E 0 false ∧ st.ents = E.map Row.data ∧ (∀ k, RLFP x sv ev E k → G k) ∧ ∀ k, G k → k < w.heap.size
theorem XL0.keep {w w' : World} {x r : Nat} {P : ByteArray} {st : LSt} {G T : Nat → Prop} (h : XL0 w x r P st G) (hk : Kp T w w') (hT : ∀ k, G k → ¬ T k) : XL0 w' x r P st G := by
 obtain ⟨sv, ev, E, h1, h2, h3, h4⟩ := h
 exact ⟨sv, ev, E, h1.keep hk (fun k hf => hT k (h3 k hf)), h2, h3, fun k hf => hk.lt (h4 k hf)⟩
theorem XL0.keep_no {w w' : World} {x r : Nat} {P : ByteArray} {st : LSt} {G : Nat → Prop} (h : XL0 w x r P st G) (hk : Kp No w w') : XL0 w' x r P st G := h.keep hk fun _ _ x => x
theorem XL0.lt {w : World} {x r : Nat} {P : ByteArray} {st : LSt} {G : Nat → Prop} (h : XL0 w x r P st G) : ∀ k, G k → k < w.heap.size := by
 obtain ⟨_, _, _, _, _, _, h4⟩ := h
 exact h4
end Go.Proofs.YtgnkmjeoaoongaaGreatDoor
namespace Go.Proofs.YtgnkmjeoaoongaaGreatDoor
open Go.RowKit Go.Mer
section
variable {β : Type}
theorem gget_gset_ne (l : List (ByteArray × β)) {k y : ByteArray} (v : β) (h : y ≠ k) : gget (gset l k v) y = gget l y := by
 unfold gset
 split
 ·induction l with
  | nil => rfl
  | cons p l ih =>
   have ih' : gget (l.map fun p => if p.1 = k then (k, v) else p) y = gget l y := by
    by_cases hk : k ∈ l.map (·.1)
    ·exact ih hk
    ·congr 1
     conv => rhs; rw [← List.map_id l]
     refine List.map_congr_left fun q hq => ?_
     rw [if_neg fun e => hk (List.mem_map.2 ⟨q, hq, e⟩)]
     rfl
   unfold gget at ih' ⊢
   rw [List.map_cons, List.find?_cons, List.find?_cons]
   by_cases hp : p.1 = k
   ·rw [if_pos hp]
    have e1 : decide (k = y) = false := decide_eq_false (fun e => h e.symm)
    have e2 : decide (p.1 = y) = false := decide_eq_false (fun e => h (by rw [← e, hp]))
    simp only [e1, e2]
    exact ih'
   ·rw [if_neg hp]
    cases hd : decide (p.1 = y)
    ·exact ih'
    ·rfl
 ·unfold gget
  rw [List.find?_append]
  cases hf : l.find? fun p => decide (p.1 = y) with
  | some p => rfl
  | none =>
   have e1 : decide (k = y) = false := decide_eq_false (fun e => h e.symm)
   simp [e1]
end
theorem gset_mem_key {β : Type} {l : List (ByteArray × β)} {k : ByteArray} {v : β} {p : ByteArray × β} (h : p ∈ gset l k v) : p.1 = k ∨ ∃ q ∈ l, q.1 = p.1 := by
 unfold gset at h
 split at h
 ·obtain ⟨q, hq, rfl⟩ := List.mem_map.1 h
  split
  ·exact .inl rfl
  ·exact .inr ⟨q, hq, rfl⟩
 ·rcases List.mem_append.1 h with h | h
  ·exact .inr ⟨p, h, rfl⟩
  ·obtain rfl := List.mem_singleton.1 h
   exact .inl rfl
theorem ok_gset {l : Files} {k : ByteArray} {v : FileS} (h : FilesOk l) (hk : nameOk k = true) : FilesOk (gset l k v) := fun p hp => by
 rcases gset_mem_key hp with e | ⟨q, hq, e⟩
 ·rw [e]; exact hk
 ·rw [← e]; exact h q hq
theorem ents_pos {k : Nat} {b : List UInt8} (h : 0 < (entsF k b).2) : (entsF k b).1 ≠ [] := by
 cases hd : deF b with
 | none => rw [entsF_none k hd] at h; exact absurd h (Nat.lt_irrefl 0)
 | some x =>
  obtain ⟨p, n⟩ := x
  by_cases hq : ∃ q, numD 0 0 p = some (k, q)
  ·obtain ⟨q, hq⟩ := hq
   rw [entsF_more hd hq]
   simp
  ·rw [entsF_bad hd fun q h => hq ⟨q, h⟩] at h
   exact absurd h (Nat.lt_irrefl 0)
structure Sc (l : Files) (P : ByteArray) (st : LSt) (A : List ByteArray) : Prop where
 names : st.segs.map (fun z => bnm P z.1) = A
 full : ∀ z ∈ st.segs, z.2 = (rdS l (bnm P z.1)).1.length
 no : ∀ z ∈ st.segs, z.1 ≤ st.ents.length + 1
 rise : st.segs.Pairwise fun y z => y.1 < z.1
 pos : ∀ z ∈ st.segs, 0 < z.2 → z.1 ≤ st.ents.length
theorem Sc.take {l : Files} {P : ByteArray} {st : LSt} {A : List ByteArray} {x : ByteArray} (h : Sc l P st A) (hx : x ∉ A) (ht : (takeS l P st x).2 = true) : Sc l P (takeS l P st x).1 (A ++ [x]) := by
 unfold takeS at ht ⊢
 split at ht
 ·next hy =>
  simp only [decide_eq_true_eq] at ht
  rw [if_pos hy, if_pos (show 0 < (entsF (st.ents.length + 1) (rdS l x).1).2 ∨ (rdS l x).1.length = 0 by omega)]
  have hne : ∀ z ∈ st.segs, z.1 < st.ents.length + 1 := fun z hz => by
   have h1 := h.no z hz
   rcases Nat.lt_or_ge z.1 (st.ents.length + 1) with h2 | h2
   ·exact h2
   ·exfalso
    apply hx
    rw [← h.names, hy]
    exact List.mem_map.2 ⟨z, hz, by rw [show z.1 = st.ents.length + 1 by omega]⟩
  refine ⟨?_, ?_, ?_, ?_, ?_⟩
  ·simp only [List.map_append, List.map_cons, List.map_nil, h.names, ← hy]
  ·intro z hz
   rcases List.mem_append.1 hz with hz | hz
   ·exact h.full z hz
   ·obtain rfl := List.mem_singleton.1 hz
    simp only [← hy]
    exact ht
  ·intro z hz
   simp only [List.length_append]
   rcases List.mem_append.1 hz with hz | hz
   ·have := h.no z hz; omega
   ·obtain rfl := List.mem_singleton.1 hz
    simp only
    omega
  ·refine List.pairwise_append.2 ⟨h.rise, List.pairwise_singleton _ _, fun y hy z hz => ?_⟩
   obtain rfl := List.mem_singleton.1 hz
   exact hne y hy
  ·intro z hz hp
   simp only [List.length_append]
   rcases List.mem_append.1 hz with hz | hz
   ·have := h.pos z hz hp; omega
   ·obtain rfl := List.mem_singleton.1 hz
    simp only at hp ⊢
    have := List.length_pos_iff.2 (ents_pos hp)
    omega
 ·cases ht
theorem Sc.stop {l : Files} {P : ByteArray} {st : LSt} {A : List ByteArray} {x : ByteArray} (h : Sc l P st A) (hx : x ∉ A) (ht : (takeS l P st x).2 = false) :
  (takeS l P st x).1 = st ∨
  (x = bnm P (st.ents.length + 1) ∧ ∃ g, (takeS l P st x).1 = { st with ents := st.ents ++ (entsF (st.ents.length + 1) (rdS l x).1).1, segs := st.segs ++ [(st.ents.length + 1, g)] } ∧ 0 < g ∧ g = (entsF (st.ents.length + 1) (rdS l x).1).2 ∧ g < (rdS l x).1.length ∧ (∀ z ∈ st.segs, z.1 < st.ents.length + 1) ∧ (entsF (st.ents.length + 1) (rdS l x).1).1 ≠ []) := by
 unfold takeS at ht ⊢
 split at ht
 ·next hy =>
  simp only [decide_eq_false_iff_not] at ht
  have hle := entsF_le (rdS l x).1 (st.ents.length + 1)
  rw [if_pos hy]
  by_cases h0 : (entsF (st.ents.length + 1) (rdS l x).1).2 = 0
  ·left
   rw [if_neg (by omega), entsF_zero h0, List.append_nil]
  ·right
   refine ⟨hy, _, ?_, Nat.pos_of_ne_zero h0, rfl, by omega, fun z hz => ?_, ents_pos (Nat.pos_of_ne_zero h0)⟩
   ·rw [if_pos (.inl (Nat.pos_of_ne_zero h0))]
   ·have h1 := h.no z hz
    rcases Nat.lt_or_ge z.1 (st.ents.length + 1) with h2 | h2
    ·exact h2
    ·exfalso
     apply hx
     rw [← h.names, hy]
     exact List.mem_map.2 ⟨z, hz, by rw [show z.1 = st.ents.length + 1 by omega]⟩
 ·left
  next hy =>
  rw [if_neg hy]
end Go.Proofs.YtgnkmjeoaoongaaGreatDoor
namespace Go.Proofs.YtgnkmjeoaoongaaGreatDoor
open Go.RowKit Go.Mer
end Go.Proofs.YtgnkmjeoaoongaaGreatDoor

