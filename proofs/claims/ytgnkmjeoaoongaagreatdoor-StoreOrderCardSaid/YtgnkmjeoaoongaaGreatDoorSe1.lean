/-
  Texts laid together: SNext, SOrderP, SRows, SHeavy, SXVer, SXIs.
-/
import Derived.Test.YtgnkmjeoaoongaaGreatDoorSa5
import Derived.Test.YtgnkmjeoaoongaaGreatDoorSc5
import Derived.Test.YtgnkmjeoaoongaaGreatDoorSb7
import Derived.Test.YtgnkmjeoaoongaaGreatDoorSd2
import Derived.Test.YtgnkmjeoaoongaaGreatDoorSa1
import Derived.Test.YtgnkmjeoaoongaaGreatDoorSc7
import Derived.Test.YtgnkmjeoaoongaaGreatDoorSe0
namespace Go.Proofs.YtgnkmjeoaoongaaGreatDoor
open Go.RowKit Go.Mer
structure RowS where
 o : Int
 after : Int
 key : ByteArray
 val : List UInt8
 gone : Bool
 ttl : Int
def rowO (r : RowS) : Nat := (bits .and .i64 r.o 1023).toNat % 5
def rowA (r : RowS) : Int := bits .and .i64 r.after 65535
set_option maxRecDepth 100000 in
theorem low_65535 (x : Int) : ∃ v : Nat, v ≤ 65535 ∧ bits .and .i64 x 65535 = (v : Int) := by
 have h : ((BitVec.ofInt 64 x) &&& (BitVec.ofInt 64 65535)).toNat ≤ 65535 := by
  rw [BitVec.toNat_and]
  exact Nat.and_le_right
 refine ⟨_, h, ?_⟩
 simp only [bits]
 unfold IntKind.wrap
 have e : (2 ^ IntKind.i64.bits : Int) = 18446744073709551616 := by decide
 have e2 : IntKind.i64.bits = 64 := rfl
 rw [e2] at e ⊢
 rw [e]
 have h2 : ((((BitVec.ofInt 64 x) &&& (BitVec.ofInt 64 65535)).toNat : Nat) : Int) ≤ 65535 := Int.ofNat_le.2 h
 have h3 : (0 : Int) ≤ ((((BitVec.ofInt 64 x) &&& (BitVec.ofInt 64 65535)).toNat : Nat) : Int) := Int.natCast_nonneg _
 rw [Int.emod_eq_of_lt h3 (by omega)]
 rw [if_neg]
 simp only [Bool.and_eq_true, decide_eq_true_eq, not_and]
 intro _
 have e3 : (2 ^ (64 - 1) : Int) = 9223372036854775808 := by decide
 rw [e3]
 omega
set_option maxRecDepth 100000 in
theorem low_1023 (x : Int) : ∃ v : Nat, v ≤ 1023 ∧ bits .and .i64 x 1023 = (v : Int) := by
 have h : ((BitVec.ofInt 64 x) &&& (BitVec.ofInt 64 1023)).toNat ≤ 1023 := by
  rw [BitVec.toNat_and]
  exact Nat.and_le_right
 refine ⟨_, h, ?_⟩
 simp only [bits]
 unfold IntKind.wrap
 have e : (2 ^ IntKind.i64.bits : Int) = 18446744073709551616 := by decide
 have e2 : IntKind.i64.bits = 64 := rfl
 rw [e2] at e ⊢
 rw [e]
 have h2 : ((((BitVec.ofInt 64 x) &&& (BitVec.ofInt 64 1023)).toNat : Nat) : Int) ≤ 1023 := Int.ofNat_le.2 h
 have h3 : (0 : Int) ≤ ((((BitVec.ofInt 64 x) &&& (BitVec.ofInt 64 1023)).toNat : Nat) : Int) := Int.natCast_nonneg _
 rw [Int.emod_eq_of_lt h3 (by omega)]
 rw [if_neg]
 simp only [Bool.and_eq_true, decide_eq_true_eq, not_and]
 intro _
 have e3 : (2 ^ (64 - 1) : Int) = 9223372036854775808 := by decide
 rw [e3]
 omega
set_option maxRecDepth 100000 in
theorem low_3 (x : Int) : ∃ v : Nat, v ≤ 3 ∧ bits .and .i64 x 3 = (v : Int) := by
 have h : ((BitVec.ofInt 64 x) &&& (BitVec.ofInt 64 3)).toNat ≤ 3 := by
  rw [BitVec.toNat_and]
  exact Nat.and_le_right
 refine ⟨_, h, ?_⟩
 simp only [bits]
 unfold IntKind.wrap
 have e : (2 ^ IntKind.i64.bits : Int) = 18446744073709551616 := by decide
 have e2 : IntKind.i64.bits = 64 := rfl
 rw [e2] at e ⊢
 rw [e]
 have h2 : ((((BitVec.ofInt 64 x) &&& (BitVec.ofInt 64 3)).toNat : Nat) : Int) ≤ 3 := Int.ofNat_le.2 h
 have h3 : (0 : Int) ≤ ((((BitVec.ofInt 64 x) &&& (BitVec.ofInt 64 3)).toNat : Nat) : Int) := Int.natCast_nonneg _
 rw [Int.emod_eq_of_lt h3 (by omega)]
 rw [if_neg]
 simp only [Bool.and_eq_true, decide_eq_true_eq, not_and]
 intro _
 have e3 : (2 ^ (64 - 1) : Int) = 9223372036854775808 := by decide
 rw [e3]
 omega
def nextV (r : RowS) (m c : Int) : VerS := if r.gone = true then ⟨m, c, (rowO r : Nat), [], true, 0⟩ else ⟨m, c, (rowO r : Nat), r.val, false, r.ttl⟩
def nextM (of : List DoneS) (r : RowS) : Int := (ofAt of (rowO r)).m + rowA r
def nextC (of : List DoneS) (r : RowS) : Int := if rowA r = 0 then (ofAt of (rowO r)).c + 1 else (rowO r : Nat)
def nextS (of : List DoneS) (r : RowS) : RecS := ⟨(rowO r : Nat), (ofAt of (rowO r)).seq + 1, r.key, nextV r (nextM of r) (nextC of r)⟩
def nextL : List DoneS → List RowS → List RecS
 | _, [] => []
 | of, r :: l => nextS of r :: nextL (doneR of (nextS of r)) l
theorem rowO_lt (r : RowS) : rowO r < 5 := by unfold rowO; omega
theorem rowA_ge (r : RowS) : 0 ≤ rowA r ∧ rowA r < 65536 := by
 obtain ⟨v, h1, h2⟩ := low_65535 r.after
 unfold rowA
 rw [h2]
 omega
theorem nextV_st (r : RowS) (m c : Int) : (nextV r m c).m = m ∧ (nextV r m c).c = c ∧ (nextV r m c).o = (rowO r : Nat) := by
 unfold nextV
 split <;> exact ⟨rfl, rfl, rfl⟩
theorem nextL_length : ∀ (l : List RowS) (of : List DoneS), (nextL of l).length = l.length
 | [], _ => rfl
 | r :: l, of => by rw [nextL, List.length_cons, List.length_cons, nextL_length l]
def OfOk (of : List DoneS) : Prop := of.length = 5 ∧ ∀ i, 0 ≤ (ofAt of i).m ∧ 0 ≤ (ofAt of i).c ∧ 0 ≤ (ofAt of i).seq
theorem nextO (of : List DoneS) (r : RowS) : (nextS of r).o.toNat = rowO r := by
 unfold nextS
 simp
theorem nextS_ok {of : List DoneS} (h : OfOk of) (r : RowS) : stepOk 0 0 of (nextS of r) = true ∧ OfOk (doneR of (nextS of r)) := by
 obtain ⟨h5, hp⟩ := h
 obtain ⟨p1, p2, p3⟩ := hp (rowO r)
 have ho := rowO_lt r
 have ha := rowA_ge r
 obtain ⟨v1, v2, _⟩ := nextV_st r (nextM of r) (nextC of r)
 have hm : (nextS of r).v.m = nextM of r := v1
 have hc : (nextS of r).v.c = nextC of r := v2
 have hs : (nextS of r).seq = (ofAt of (rowO r)).seq + 1 := rfl
 have hlt : (ofAt of (rowO r)).m < nextM of r ∨ ((ofAt of (rowO r)).m = nextM of r ∧ (ofAt of (rowO r)).c < nextC of r) := by
  unfold nextM nextC
  by_cases h0 : rowA r = 0
  ·rw [if_pos h0]; right; omega
  ·left; omega
 have hc0 : 0 ≤ nextC of r := by unfold nextC; split <;> omega
 have hm0 : 0 ≤ nextM of r := by unfold nextM; omega
 constructor
 ·unfold stepOk
  rw [nextO, hm, hc, hs, Bool.and_eq_true, Bool.and_eq_true, decide_eq_true_iff, stLt_iff, stLt_iff]
  refine ⟨rfl, hlt, ?_⟩
  omega
 ·refine ⟨by unfold doneR; rw [List.length_set]; exact h5, fun i => ?_⟩
  unfold doneR
  rw [nextO, ofAt_set (by omega)]
  split
  ·exact ⟨by rw [hm]; exact hm0, by rw [hc]; exact hc0, by show 0 ≤ (nextS of r).seq; rw [hs]; omega⟩
  ·exact hp i
theorem next_may : ∀ (l : List RowS) (of : List DoneS), OfOk of → mayG 0 0 of (nextL of l) = true
 | [], _, _ => rfl
 | r :: l, of, h => by
  obtain ⟨h1, h2⟩ := nextS_ok h r
  rw [nextL, mayG, h1, next_may l _ h2]
  rfl
theorem ofok_emp : OfOk (List.replicate 5 ⟨0, 0, 0⟩) := ⟨rfl, fun i => by
 have : ofAt (List.replicate 5 ⟨0, 0, 0⟩) i = ⟨0, 0, 0⟩ := by
  unfold ofAt
  rw [List.getD_eq_getElem?_getD, List.getElem?_replicate]
  split <;> rfl
 rw [this]
 exact ⟨by decide, by decide, by decide⟩⟩
theorem doneR_seq (of : List DoneS) (r : RecS) (h : r.o.toNat < of.length) (i : Nat) : (ofAt (doneR of r) i).seq = if r.o.toNat = i then r.seq else (ofAt of i).seq := by
 unfold doneR
 rw [ofAt_set h]
 split <;> rfl
def nextOf : List DoneS → List RowS → List DoneS
 | of, [] => of
 | of, r :: l => nextOf (doneR of (nextS of r)) l
theorem nextL_snoc : ∀ (l : List RowS) (of : List DoneS) (r : RowS), nextL of (l ++ [r]) = nextL of l ++ [nextS (nextOf of l) r] ∧ nextOf of (l ++ [r]) = doneR (nextOf of l) (nextS (nextOf of l) r)
 | [], _, _ => ⟨rfl, rfl⟩
 | x :: l, of, r => by
  obtain ⟨h1, h2⟩ := nextL_snoc l (doneR of (nextS of x)) r
  refine ⟨?_, h2⟩
  show nextS of x :: nextL _ (l ++ [r]) = _
  rw [h1]
  rfl
structure OfHi (k : Nat) (of : List DoneS) : Prop where
 five : of.length = 5
 seq : ∀ i, 0 ≤ (ofAt of i).seq ∧ (ofAt of i).seq ≤ 1099511627776 + k
 m : ∀ i, 0 ≤ (ofAt of i).m ∧ (ofAt of i).m ≤ 281474976710655 + 65535 * k
 c : ∀ i, 0 ≤ (ofAt of i).c ∧ (ofAt of i).c ≤ 65535 + k
theorem OfHi.step {k : Nat} {of : List DoneS} (h : OfHi k of) (r : RowS) : OfHi (k + 1) (doneR of (nextS of r)) := by
 have ho := rowO_lt r
 have ha := rowA_ge r
 obtain ⟨v1, v2, _⟩ := nextV_st r (nextM of r) (nextC of r)
 have hm : (nextS of r).v.m = nextM of r := v1
 have hc : (nextS of r).v.c = nextC of r := v2
 have hs : (nextS of r).seq = (ofAt of (rowO r)).seq + 1 := rfl
 have b1 := h.seq (rowO r)
 have b2 := h.m (rowO r)
 have b3 := h.c (rowO r)
 have hcc : 0 ≤ nextC of r ∧ nextC of r ≤ 65535 + ((k + 1 : Nat) : Int) := by unfold nextC; split <;> omega
 have hmm : 0 ≤ nextM of r ∧ nextM of r ≤ 281474976710655 + 65535 * ((k + 1 : Nat) : Int) := by unfold nextM; omega
 have hat : ∀ i, ofAt (doneR of (nextS of r)) i = if rowO r = i then ⟨(nextS of r).seq, (nextS of r).v.m, (nextS of r).v.c⟩ else ofAt of i := fun i => by
  unfold doneR
  rw [nextO, ofAt_set (by rw [h.five]; omega)]
 refine ⟨by unfold doneR; rw [List.length_set]; exact h.five, fun i => ?_, fun i => ?_, fun i => ?_⟩
 ·rw [hat]
  split
  ·rw [hs]; simp only; omega
  ·have := h.seq i; omega
 ·rw [hat]
  split
  ·simp only [hm]; exact hmm
  ·have := h.m i; omega
 ·rw [hat]
  split
  ·simp only [hc]; exact hcc
  ·have := h.c i; omega
theorem OfHi.upto : ∀ (l : List RowS) {k : Nat} {of : List DoneS}, OfHi k of → OfHi (k + l.length) (nextOf of l)
 | [], _, _, h => h
 | r :: l, k, _, h => by
  have := OfHi.upto l (h.step r)
  rw [List.length_cons, show k + (l.length + 1) = k + 1 + l.length by omega]
  exact this
theorem ofhi_emp : OfHi 0 (List.replicate 5 ⟨0, 0, 0⟩) := by
 have h : ∀ i, ofAt (List.replicate 5 ⟨0, 0, 0⟩) i = ⟨0, 0, 0⟩ := fun i => by
  unfold ofAt
  rw [List.getD_eq_getElem?_getD, List.getElem?_replicate]
  split <;> rfl
 exact ⟨rfl, fun i => by rw [h i]; decide, fun i => by rw [h i]; decide, fun i => by rw [h i]; decide⟩
end Go.Proofs.YtgnkmjeoaoongaaGreatDoor
namespace Go.Proofs.YtgnkmjeoaoongaaGreatDoor
open Go.RowKit Go.Mer
theorem mayG_split {mm mc : Int} : ∀ (a b : List RecS) (of : List DoneS), mayG mm mc of (a ++ b) = (mayG mm mc of a && mayG mm mc (ofK of a) b)
 | [], _, _ => rfl
 | r :: a, b, of => by
  show (stepOk mm mc of r && mayG mm mc (doneR of r) (a ++ b)) = ((stepOk mm mc of r && mayG mm mc (doneR of r) a) && mayG mm mc (ofK (doneR of r) a) b)
  rw [mayG_split a b, Bool.and_assoc]
theorem doneR_at {of : List DoneS} (h5 : of.length = 5) {r : RecS} (hr : isR r = true) (i : Nat) : (ofAt (doneR of r) i).seq = if r.o.toNat = i then r.seq else (ofAt of i).seq := by
 obtain ⟨hv, e1, _⟩ := isR_iff.1 hr
 obtain ⟨_, o1, o2, _⟩ := isV_iff.1 hv
 exact doneR_seq of r (by rw [h5]; omega) i
theorem ofK_len {of : List DoneS} : ∀ (l : List RecS), (ofK of l).length = of.length := by
 intro l
 induction l generalizing of with
 | nil => rfl
 | cons r l ih =>
  show (ofK (doneR of r) l).length = _
  rw [ih]
  unfold doneR
  rw [List.length_set]
theorem seq_rise {mm mc : Int} : ∀ (l : List RecS) {of : List DoneS}, of.length = 5 → (∀ r ∈ l, isR r = true) → mayG mm mc of l = true → ∀ i, (ofAt of i).seq ≤ (ofAt (ofK of l) i).seq ∧ (ofAt (ofK of l) i).seq ≤ (ofAt of i).seq + l.length
 | [], _, _, _, _ => fun _ => ⟨Int.le_refl _, by simp [ofK]⟩
 | r :: l, of, h5, hr, hm => fun i => by
  have hm' : (stepOk mm mc of r && mayG mm mc (doneR of r) l) = true := hm
  rw [Bool.and_eq_true] at hm'
  have h1 := seq_rise l (of := doneR of r) (by unfold doneR; rw [List.length_set]; exact h5) (fun x hx => hr x (List.mem_cons_of_mem _ hx)) hm'.2 i
  have h2 := doneR_at h5 (hr r (List.mem_cons_self ..)) i
  have h3 := hm'.1
  rw [step_parts, Bool.and_eq_true, decide_eq_true_iff] at h3
  have h4 := h3.1
  have e : ofK of (r :: l) = ofK (doneR of r) l := rfl
  rw [e, List.length_cons]
  split at h2
  ·next hi =>
   rw [hi] at h4
   omega
  ·omega
theorem split_at {l : List RecS} {k : Nat} (hk : k < l.length) : l = l.take k ++ l[k] :: l.drop (k + 1) := by
 rw [← List.drop_eq_getElem_cons hk, List.take_append_drop]
theorem set_split {l : List RecS} {k : Nat} (hk : k < l.length) (x : RecS) : l.set k x = l.take k ++ x :: l.drop (k + 1) := by
 rw [List.set_eq_take_append_cons_drop, if_pos hk]
theorem may_bad {st : SSt} {l : List RecS} (h64 : l.length ≤ 64) (hr : ∀ r ∈ l, isR r = true) (hm : mayG st.mm st.mc st.of l = false) : mayS st l = 12 := by
 rw [may_go (by omega) hr, hm]
 rfl
theorem order_at {l : List RecS} {k : Nat} (h64 : l.length ≤ 64) (hr : ∀ r ∈ l, isR r = true) (hm : mayG 0 0 (List.replicate 5 ⟨0, 0, 0⟩) l = true) (hk : k < l.length) : mayG 0 0 (List.replicate 5 ⟨0, 0, 0⟩) (l.take k) = true ∧ l[k].seq = (ofAt (ofK (List.replicate 5 ⟨0, 0, 0⟩) (l.take k)) l[k].o.toNat).seq + 1 ∧ l[k].seq ≤ 64 ∧ 1 ≤ l[k].seq := by
 have h1 := hm
 rw [split_at hk, mayG_split, Bool.and_eq_true] at h1
 obtain ⟨h1, h2⟩ := h1
 have h2 : (stepOk 0 0 _ l[k] && _) = true := h2
 rw [Bool.and_eq_true, step_parts, Bool.and_eq_true, decide_eq_true_iff] at h2
 have h3 := seq_rise (l.take k) (of := List.replicate 5 ⟨0, 0, 0⟩) rfl (fun r h => hr r (List.mem_of_mem_take h)) h1 l[k].o.toNat
 have h4 : (ofAt (List.replicate 5 ⟨0, 0, 0⟩) l[k].o.toNat).seq = 0 := by
  unfold ofAt
  rw [List.getD_eq_getElem?_getD, List.getElem?_replicate]
  split <;> rfl
 rw [h4, List.length_take] at h3
 refine ⟨h1, h2.1.1, ?_, ?_⟩
 ·have := h2.1.1
  omega
 ·exact (isR_iff.1 (hr _ (List.getElem_mem hk))).2.2.1
theorem order_set {l : List RecS} {k : Nat} (h64 : l.length ≤ 64) (hr : ∀ r ∈ l, isR r = true) (hk : k < l.length) {x : RecS} (hx : isR x = true) (hs : stepOk 0 0 (ofK (List.replicate 5 ⟨0, 0, 0⟩) (l.take k)) x = false) : mayS empS (l.set k x) = 12 := by
 refine may_bad (by rw [List.length_set]; exact h64) (fun r h => ?_) ?_
 ·rcases List.mem_or_eq_of_mem_set h with h | h
  ·exact hr r h
  ·rw [h]; exact hx
 ·show mayG 0 0 (List.replicate 5 ⟨0, 0, 0⟩) _ = false
  rw [set_split hk, mayG_split]
  show (_ && (stepOk 0 0 _ x && _)) = false
  rw [hs]
  simp
theorem order_seq {l : List RecS} {k : Nat} (h64 : l.length ≤ 64) (hr : ∀ r ∈ l, isR r = true) (hm : mayG 0 0 (List.replicate 5 ⟨0, 0, 0⟩) l = true) (hk : k < l.length) (s : Int) (h1 : 1 ≤ s) (h2 : s ≤ 1099511627776) (hne : s ≠ l[k].seq) : mayS empS (l.set k { l[k] with seq := s }) = 12 := by
 obtain ⟨_, h4, _, _⟩ := order_at h64 hr hm hk
 refine order_set h64 hr hk ?_ ?_
 ·have := isR_iff.1 (hr _ (List.getElem_mem hk))
  exact isR_iff.2 ⟨this.1, this.2.1, h1, h2, this.2.2.2.2⟩
 ·rw [step_parts]
  show (decide (s = (ofAt _ l[k].o.toNat).seq + 1) && _) = false
  rw [← h4, decide_eq_false hne]
  rfl
theorem order_stamp {l : List RecS} {k : Nat} (h64 : l.length ≤ 64) (hr : ∀ r ∈ l, isR r = true) (hk : k < l.length) : mayS empS (l.set k { l[k] with v := { l[k].v with m := 0, c := 0 } }) = 12 := by
 refine order_set h64 hr hk ?_ ?_
 ·have h := isR_iff.1 (hr _ (List.getElem_mem hk))
  have hv := isV_iff.1 h.1
  exact isR_iff.2 ⟨isV_iff.2 ⟨⟨(show (0 : Int) ≤ 0 by decide), (show (0 : Int) ≤ 281474976710655 by decide), (show (0 : Int) ≤ 0 by decide), (show (0 : Int) ≤ 65535 by decide)⟩, hv.2⟩, h.2⟩
 ·rw [step_parts]
  show (_ && (_ && stLt 0 0 0 0)) = false
  rw [show stLt 0 0 0 0 = false from rfl]
  simp
theorem order_again {l : List RecS} {k : Nat} (hr : ∀ r ∈ l, isR r = true) (hm : mayG 0 0 (List.replicate 5 ⟨0, 0, 0⟩) l = true) (hk : k < l.length) (h1 : l.length + 1 ≤ 64) : mayS empS (l ++ [l[k]]) = 12 := by
 refine may_bad (by rw [List.length_append, List.length_singleton]; exact h1) (fun r h => ?_) ?_
 ·rcases List.mem_append.1 h with h | h
  ·exact hr r h
  ·rw [List.mem_singleton.1 h]; exact hr _ (List.getElem_mem hk)
 ·show mayG 0 0 (List.replicate 5 ⟨0, 0, 0⟩) _ = false
  rw [mayG_split, hm]
  show (true && (stepOk 0 0 _ l[k] && true)) = false
  have h2 := hm
  rw [split_at hk, mayG_split, Bool.and_eq_true] at h2
  obtain ⟨ha, hb⟩ := h2
  have hb : (stepOk 0 0 _ l[k] && mayG 0 0 (doneR _ l[k]) (l.drop (k + 1))) = true := hb
  rw [Bool.and_eq_true] at hb
  have h5 : (ofK (List.replicate 5 ⟨0, 0, 0⟩) (l.take k)).length = 5 := by rw [ofK_len]; rfl
  have h3 := (seq_rise (l.drop (k + 1)) (of := doneR (ofK (List.replicate 5 ⟨0, 0, 0⟩) (l.take k)) l[k]) (by unfold doneR; rw [List.length_set]; exact h5) (fun r h => hr r (List.mem_of_mem_drop h)) hb.2 l[k].o.toNat).1
  rw [doneR_at h5 (hr _ (List.getElem_mem hk)), if_pos rfl] at h3
  have e : ofK (List.replicate 5 ⟨0, 0, 0⟩) l = ofK (doneR (ofK (List.replicate 5 ⟨0, 0, 0⟩) (l.take k)) l[k]) (l.drop (k + 1)) := by
   conv => lhs; rw [split_at hk]
   unfold ofK
   rw [List.foldl_append]
   rfl
  rw [step_parts, e, decide_eq_false (by omega)]
  rfl
theorem put_no_st {P : ByteArray} {o : Nat} {s : DSt} {st : SSt} {lg : LSt} {l : List RecS} (hd : st.dead = false) (hl : l ≠ []) (hm : mayS st l ≠ 0) : putSt P o s st lg l = ((mayS st l : Int), s, st, lg) := by
 unfold putSt
 rw [if_neg (by rw [hd]; decide), if_neg (by rw [List.length_eq_zero_iff]; exact hl), if_neg hm]
end Go.Proofs.YtgnkmjeoaoongaaGreatDoor
namespace Go.Proofs.YtgnkmjeoaoongaaGreatDoor
open Go.RowKit Go.Mer
structure RowR where
 r : RowS
 a : Option Addr
 cap : Nat
def rwC (x : RowR) : List Value := [.int .i64 x.r.o, .int .i64 x.r.after, .string x.r.key, .slice x.a x.r.val.length x.cap, .bool x.r.gone, .int .i64 x.r.ttl]
theorem rwC_len (x : RowR) : (rwC x).length = 6 := rfl
structure RowArg (W : World) (x : RowR) : Prop where
 o : I64 x.r.o
 after : I64 x.r.after
 ttl : I64 x.r.ttl
 key : x.r.key.size ≤ 140737488351232
 rd : Rd W W.heap.size x.a (u8s x.r.val)
 le : x.r.val.length ≤ x.cap
 cap : x.cap ≤ 140737488351232
def RowsIn (w : World) (a : Option Addr) (L : List RowR) : Prop := Rd w w.heap.size a (L.flatMap rwC) ∧ ∀ x ∈ L, RowArg w x
theorem RowArg.kp {w w' : World} {x : RowR} (h : RowArg w x) (hk : Kp No w w') : RowArg w' x := { h with rd := Rd.kp h.rd hk }
theorem RowsIn.kp {w w' : World} {a : Option Addr} {L : List RowR} (h : RowsIn w a L) (hk : Kp No w w') : RowsIn w' a L := ⟨Rd.kp h.1 hk, fun x hx => (h.2 x hx).kp hk⟩
section
variable {W : World}
theorem ca_row : Tryz.prog.cellsOf 113 = 6 := by kernel_rfl
theorem ba_row : Tryz.prog.bytesOf 113 = 72 := by kernel_rfl
set_option maxRecDepth 100000 in
theorem good_row {n : Nat} {cs : List Value} (h : Opn Tryz.prog W n 113 cs) : ∃ x : RowR, cs = rwC x ∧ RowArg W x := by
 obtain ⟨n, rfl, hl, hf⟩ := good_struct h Tryz.underlying113
 rw [ca_row] at hl
 match cs, hl with
 | [a0, a1, a2, a3, a4, a5], _ =>
  obtain ⟨o, rfl, ho⟩ := ga_int (good_at hf 0 _ rfl ca_int)
  obtain ⟨af, rfl, haf⟩ := ga_int (good_at hf 1 _ rfl ca_int)
  obtain ⟨k, rfl, hk⟩ := ga_str (good_at hf 2 _ rfl ca_str)
  obtain ⟨b, cap, l, rfl, h1, h2, h3⟩ := ga_bytes (good_at hf 3 _ rfl ca_bytes)
  obtain ⟨g, rfl⟩ := ga_bool (good_at hf 4 _ rfl ca_bool)
  obtain ⟨t, rfl, ht⟩ := ga_int (good_at hf 5 _ rfl ca_int)
  exact ⟨⟨⟨o, af, k, l, g, t⟩, b, cap⟩, rfl, ho, haf, ht, hk, h1, h2, h3⟩
set_option maxRecDepth 100000 in
theorem good_rows {n : Nat} {cs : List Value} (h : Opn Tryz.prog W n 22 cs) : ∃ (a : Option Addr) (cap : Nat) (L : List RowR), cs = [.slice a L.length cap] ∧ RowsIn W a L ∧ L.length ≤ cap ∧ cap ≤ 140737488351232 := by
 obtain ⟨n', a, len, cap, rfl, rfl⟩ := good_slice h Tryz.underlying22
 obtain ⟨L, rfl, hr, hq, h1, h2⟩ := open_list h Tryz.underlying22 ca_row (by decide) rwC (RowArg W) rwC_len (fun cs hg => good_row hg)
 refine ⟨a, cap, L, rfl, ⟨hr, hq⟩, h1, ?_⟩
 rw [ba_row] at h2
 omega
theorem row_range {w : World} {a : Option Addr} {L : List RowR} (h : Rd w w.heap.size a (L.flatMap rwC)) {k : Nat} (hk : k < L.length) :
  ∃ g off, a = some ⟨g, off, none⟩ ∧ g < w.heap.size ∧ ∀ W, Kp No w W → W.rangeAt g (off + k * 6) (rwC L[k]) := by
 obtain ⟨g, off, ha, hc⟩ := rd_chunk (f := rwC) rwC_len (by decide) h hk
 obtain ⟨g', off', ha', hg', _⟩ := h (by rw [chunk_len rwC 6 rwC_len]; omega)
 rw [ha] at ha'
 injection ha' with ha'
 injection ha' with e1 e2
 exact ⟨g, off, ha, by rw [e1]; exact hg', fun W hW j u hu => hc W hW j u hu⟩
end
end Go.Proofs.YtgnkmjeoaoongaaGreatDoor
namespace Go.Proofs.YtgnkmjeoaoongaaGreatDoor
open Go.RowKit Go.Mer
def RowLi (x : RowR) : Prop := x.r.key.size ≤ 12000 ∧ x.r.val.length ≤ 12000
def HvS (w : World) (L : List RowR) (e : Ending) (w' : World) : Prop := ∃ b : Bool, e = .returned (.bool b) ∧ (b = false → (∀ x ∈ L, RowLi x) ∧ L.length ≤ 600) ∧ Kp No w w'
set_option maxRecDepth 100000 in
set_option maxHeartbeats 2000000 in
theorem heavy1_any (w : World) (b : Nat) (ra : Option Addr) (rc : Nat) (L : List RowR) (hc : w.heap[b]? = some (.cells #[.int .i64 0, .int .i64 0, .int .u8 0, .int .i64 0, .int .i64 0, .slice ra L.length rc, .slice none 0 0] 28 (0, 0))) (h : RowsIn w ra L) (hl : L.length ≤ 140737488351232) :
  Calls Tryz.prog 13 #[.slice (some ⟨b, 0, none⟩) 1 1] w (HvS w L) := by
 obtain ⟨n, hn⟩ : ∃ n, n = L.length := ⟨_, rfl⟩
 rw [← hn] at hc
 have HA := Lib.hid h
 have HC := Lib.hid hc
 have HN := Lib.hid hn
 have hnb : n ≤ 140737488351232 := by omega
 clear h hc hn hl
 go_enter Tryz.func13, Tryz.ntmps13
 go_wp2_with fail
 rename World => w0
 go_loopw [3, 4] (fun s i wr => Hid (Kp No w0 wr) ∧ ((s = .int .i64 0 ∧ i = .int .i64 0) ∨ ∃ N : Nat, N ≤ 12000 ∧ i = .int .i64 1 ∧ s = .int .i64 (N : Int) ∧ Hid ((∀ x ∈ L, RowLi x) ∧ L.length ≤ 600))) (fun _ i _ => 1 - (intOf i).toNat)
 case atStart => exact ⟨Lib.hid (Kp.refl _ _), .inl ⟨rfl, rfl⟩⟩
 case round =>
  obtain ⟨HKP, h1 | ⟨N, hN, rfl, rfl, HL⟩⟩ := hrel
  ·obtain ⟨rfl, rfl⟩ := h1
   go_wp2_with fail
   go_loopw [3, 5] (fun s i wx => ∃ j M : Nat, j ≤ n ∧ M ≤ 12000 ∧ 20 * j ≤ M ∧ i = .int .i64 (j : Int) ∧ s = .int .i64 (M : Int) ∧ Hid (∀ x ∈ L.take j, RowLi x) ∧ Hid (Kp No w0 wx)) (fun _ i _ => n - (intOf i).toNat)
   case atStart => exact ⟨0, 10, Nat.zero_le _, by decide, by decide, rfl, rfl, Lib.hid (by simp), HKP⟩
   case round =>
    clear HKP
    obtain ⟨j, M, hj, hM, hjM, rfl, rfl, HP, HK⟩ := hrel
    have c5 : wr.cell? ⟨b, 5, none⟩ = some (.slice ra n rc) := cell_at (HK.out.get HC.out fun x => x) 5
    have hbl := get_lt (HK.out.get HC.out fun x => x)
    by_cases hlt : j < n
    ·have hjL : j < L.length := by have := HN.out; omega
     obtain ⟨g, off, rfl, l0⟩ := rd_chunk (f := rwC) rwC_len (by decide) HA.out.1 hjL
     have HE := Lib.hid (List.take_succ_eq_append_getElem hjL)
     have hsz := HA.out.2 _ (List.getElem_mem hjL)
     obtain ⟨x, hx⟩ : ∃ x, x = L[j] := ⟨_, rfl⟩
     rw [← hx] at l0 HE hsz
     obtain ⟨⟨o, af, key, val, gone, ttl⟩, va, vc⟩ := x
     have t2 : wr.cell? ⟨g, off + j * 6 + 2, none⟩ = some (.string key) := l0 wr HK.out 2 _ rfl
     have t3 : wr.cell? ⟨g, off + j * 6 + 3, none⟩ = some (.slice va val.length vc) := l0 wr HK.out 3 _ rfl
     have z1 : key.size ≤ 140737488351232 := hsz.key
     have z2 : val.length ≤ 140737488351232 := Nat.le_trans hsz.le hsz.cap
     obtain ⟨vl, hvl⟩ : ∃ k, k = val.length := ⟨_, rfl⟩
     rw [← hvl] at t3 z2
     have HVL := Lib.hid hvl
     clear hx l0 hsz hvl
     obtain ⟨M1, hM1⟩ : ∃ M1, M1 = M + 20 + key.size + vl := ⟨_, rfl⟩
     have hM1' : (M : Int) + 20 + key.size + vl = (M1 : Int) := by rw [hM1]; push_cast; rfl
     have HM1 := Lib.hid hM1
     clear hM1
     go_wp2_with fail
     refine wp_region_ord [0,0,0,0,0,0,1,0,0,0,1,1,0,0,0,0,0,1,0,0,0,1,1,0,0] [0,1,2,3,4,5,7,13,14,15,16,18,6,8,9,10,11,12,17,19,20,21,22,23,24] (by kernel_rfl) (by kernel_rfl) ?_
     repeat (first
      | (apply wpOrd_skip rfl (by decide) rfl; (focus (go_simp; rfl)))
      | (apply wpOrd_pure rfl rfl rfl; (focus (intro _ _; go_simp; (try go_ints); rfl)); (focus (go_simp; rfl)))
      | (apply wpOrd_read rfl rfl rfl; (focus (intro _; go_simp; (try go_ints); rfl)); (focus (go_simp; rfl))))
     refine wpOrd_nil (fun nq => ?_)
     (try rw [hM1'])
     clear hM1'
     have HK4 := Lib.hid (HK.out.drewN nq)
     clear t2 t3 c5
     rcases Nat.lt_or_ge 12000 M1 with hh | hh
     ·go_wp2_with fail
      go_ret
      exact ⟨true, rfl, (fun h => by cases h), HK4.out⟩
     ·have hsm : key.size ≤ 12000 ∧ val.length ≤ 12000 := by have := HM1.out; have := HVL.out; omega
      have hj20 : 20 * (j + 1) ≤ M1 := by have := HM1.out; omega
      have HP2 : Hid (∀ x ∈ L.take (j + 1), RowLi x) := Lib.hid fun x hx => by
       rw [HE.out, List.mem_append, List.mem_singleton] at hx
       rcases hx with hx | rfl
       ·exact HP.out x hx
       ·exact hsm
      clear hsm
      go_wp2_with fail
      go_roundw
      case rel => exact ⟨j + 1, M1, by omega, hh, hj20, by go_num, by go_num, HP2, HK4⟩
      case measure => simp [intOf]; omega
    ·obtain rfl : j = n := by omega
     clear hlt
     have HLI : Hid ((∀ x ∈ L, RowLi x) ∧ L.length ≤ 600) := Lib.hid ⟨fun x hx => HP.out x (by rw [HN.out, List.take_length]; exact hx), by rw [← HN.out]; omega⟩
     have c6 : wr.cell? ⟨b, 6, none⟩ = some (.slice none 0 0) := cell_at (HK.out.get HC.out fun x => x) 6
     go_wp2_with fail
     go_loop [3, 6] (fun s z => s = .int .i64 (M : Int) ∧ z = .int .i64 0) (fun _ _ => 0)
     case atStart => exact ⟨rfl, rfl⟩
     case round =>
      obtain ⟨rfl, rfl⟩ := hrel
      go_wp2_with fail
      go_roundw
      case rel => exact ⟨HK, .inr ⟨M, hM, rfl, rfl, HLI⟩⟩
      case measure => simp [intOf]
  ·go_wp2_with fail
   go_ret
   exact ⟨false, rfl, fun _ => HL.out, HKP.out⟩
end Go.Proofs.YtgnkmjeoaoongaaGreatDoor
namespace Go.Proofs.YtgnkmjeoaoongaaGreatDoor
open Go.RowKit Go.Mer
set_option maxRecDepth 100000 in
set_option maxHeartbeats 2000000 in
theorem xver_x0 (v : VerS) (a : Option Addr) (cap : Nat) (w : World) (HB : Hid (isSt v.m v.c = false)) (HR : Hid (isV v = false)) :
  Calls Tryz.prog 54 #[.agg #[.int .i64 v.m, .int .i64 v.c, .int .i64 v.o, .slice a v.val.length cap, .bool v.gone, .int .i64 v.ttl]] w fun e w' => e = .returned (.bool (isV v)) ∧ Kp No w w' := by
 obtain ⟨z, hz⟩ : ∃ z, z = isV v := ⟨_, rfl⟩
 rw [← hz] at HR ⊢
 clear hz
 have isq := fun w => rIs_any v.m v.c w
 simp only [HB.out] at isq
 have HQ := Lib.hid isq
 clear isq
 go_enter Tryz.func54, Tryz.ntmps54
 go_wp2_with fail
 refine (HQ.out _).mono ?_
 rintro e w' ⟨rfl, hk⟩
 have hk' : Kp No w w' := ((Kp.refl _ _).alloc _).trans_same hk
 have hc := hk.get (heap_alloc_new w _) fun x => x
 have c2 := cell_at hc 2
 have c3 := cell_at hc 3
 have c4 := cell_at hc 4
 have c5 := cell_at hc 5
 have hlt := get_lt hc
 simp at c2 c3 c4 c5
 clear hc hk
 have hun : ∀ b : Bool, (undef = Value.bool b) = False := fun b => by unfold undef; simp
 go_wp2_with fail
 all_goals
  go_ret
  exact ⟨by rw [HR.out]; rfl, hk'⟩
set_option maxRecDepth 100000 in
set_option maxHeartbeats 2000000 in
theorem xver_d1 (v : VerS) (a : Option Addr) (cap : Nat) (w : World) (HB : Hid (isSt v.m v.c = true)) (d1 : decide (v.o < 0) = true) (HR : Hid (isV v = false)) :
  Calls Tryz.prog 54 #[.agg #[.int .i64 v.m, .int .i64 v.c, .int .i64 v.o, .slice a v.val.length cap, .bool v.gone, .int .i64 v.ttl]] w fun e w' => e = .returned (.bool (isV v)) ∧ Kp No w w' := by
 obtain ⟨z, hz⟩ : ∃ z, z = isV v := ⟨_, rfl⟩
 rw [← hz] at HR ⊢
 clear hz
 have isq := fun w => rIs_any v.m v.c w
 simp only [HB.out] at isq
 have HQ := Lib.hid isq
 clear isq
 go_enter Tryz.func54, Tryz.ntmps54
 go_wp2_with fail
 refine (HQ.out _).mono ?_
 rintro e w' ⟨rfl, hk⟩
 have hk' : Kp No w w' := ((Kp.refl _ _).alloc _).trans_same hk
 have hc := hk.get (heap_alloc_new w _) fun x => x
 have c2 := cell_at hc 2
 have c3 := cell_at hc 3
 have c4 := cell_at hc 4
 have c5 := cell_at hc 5
 have hlt := get_lt hc
 simp at c2 c3 c4 c5
 clear hc hk
 have hun : ∀ b : Bool, (undef = Value.bool b) = False := fun b => by unfold undef; simp
 go_wp2_with fail
 all_goals
  go_ret
  exact ⟨by rw [HR.out]; rfl, hk'⟩
set_option maxRecDepth 100000 in
set_option maxHeartbeats 2000000 in
theorem xver_d2 (v : VerS) (a : Option Addr) (cap : Nat) (w : World) (HB : Hid (isSt v.m v.c = true)) (d1 : decide (v.o < 0) = false) (d2 : decide (5 ≤ v.o) = true) (HR : Hid (isV v = false)) :
  Calls Tryz.prog 54 #[.agg #[.int .i64 v.m, .int .i64 v.c, .int .i64 v.o, .slice a v.val.length cap, .bool v.gone, .int .i64 v.ttl]] w fun e w' => e = .returned (.bool (isV v)) ∧ Kp No w w' := by
 obtain ⟨z, hz⟩ : ∃ z, z = isV v := ⟨_, rfl⟩
 rw [← hz] at HR ⊢
 clear hz
 have isq := fun w => rIs_any v.m v.c w
 simp only [HB.out] at isq
 have HQ := Lib.hid isq
 clear isq
 go_enter Tryz.func54, Tryz.ntmps54
 go_wp2_with fail
 refine (HQ.out _).mono ?_
 rintro e w' ⟨rfl, hk⟩
 have hk' : Kp No w w' := ((Kp.refl _ _).alloc _).trans_same hk
 have hc := hk.get (heap_alloc_new w _) fun x => x
 have c2 := cell_at hc 2
 have c3 := cell_at hc 3
 have c4 := cell_at hc 4
 have c5 := cell_at hc 5
 have hlt := get_lt hc
 simp at c2 c3 c4 c5
 clear hc hk
 have hun : ∀ b : Bool, (undef = Value.bool b) = False := fun b => by unfold undef; simp
 go_wp2_with fail
 all_goals
  go_ret
  exact ⟨by rw [HR.out]; rfl, hk'⟩
set_option maxRecDepth 100000 in
set_option maxHeartbeats 2000000 in
theorem xver_d3 (v : VerS) (a : Option Addr) (cap : Nat) (w : World) (HB : Hid (isSt v.m v.c = true)) (d1 : decide (v.o < 0) = false) (d2 : decide (5 ≤ v.o) = false) (d3 : decide ((1024 : Int) < (v.val.length : Int)) = true) (d3' : decide (1024 < v.val.length) = true) (HR : Hid (isV v = false)) :
  Calls Tryz.prog 54 #[.agg #[.int .i64 v.m, .int .i64 v.c, .int .i64 v.o, .slice a v.val.length cap, .bool v.gone, .int .i64 v.ttl]] w fun e w' => e = .returned (.bool (isV v)) ∧ Kp No w w' := by
 obtain ⟨z, hz⟩ : ∃ z, z = isV v := ⟨_, rfl⟩
 rw [← hz] at HR ⊢
 clear hz
 have isq := fun w => rIs_any v.m v.c w
 simp only [HB.out] at isq
 have HQ := Lib.hid isq
 clear isq
 go_enter Tryz.func54, Tryz.ntmps54
 go_wp2_with fail
 refine (HQ.out _).mono ?_
 rintro e w' ⟨rfl, hk⟩
 have hk' : Kp No w w' := ((Kp.refl _ _).alloc _).trans_same hk
 have hc := hk.get (heap_alloc_new w _) fun x => x
 have c2 := cell_at hc 2
 have c3 := cell_at hc 3
 have c4 := cell_at hc 4
 have c5 := cell_at hc 5
 have hlt := get_lt hc
 simp at c2 c3 c4 c5
 clear hc hk
 have hun : ∀ b : Bool, (undef = Value.bool b) = False := fun b => by unfold undef; simp
 go_wp2_with fail
 all_goals
  go_ret
  exact ⟨by rw [HR.out]; rfl, hk'⟩
set_option maxRecDepth 100000 in
set_option maxHeartbeats 2000000 in
theorem xver_d4 (v : VerS) (a : Option Addr) (cap : Nat) (w : World) (HB : Hid (isSt v.m v.c = true)) (d1 : decide (v.o < 0) = false) (d2 : decide (5 ≤ v.o) = false) (d3 : decide ((1024 : Int) < (v.val.length : Int)) = false) (d3' : decide (1024 < v.val.length) = false) (d4 : decide (v.ttl < 0) = true) (HR : Hid (isV v = false)) :
  Calls Tryz.prog 54 #[.agg #[.int .i64 v.m, .int .i64 v.c, .int .i64 v.o, .slice a v.val.length cap, .bool v.gone, .int .i64 v.ttl]] w fun e w' => e = .returned (.bool (isV v)) ∧ Kp No w w' := by
 obtain ⟨z, hz⟩ : ∃ z, z = isV v := ⟨_, rfl⟩
 rw [← hz] at HR ⊢
 clear hz
 have isq := fun w => rIs_any v.m v.c w
 simp only [HB.out] at isq
 have HQ := Lib.hid isq
 clear isq
 go_enter Tryz.func54, Tryz.ntmps54
 go_wp2_with fail
 refine (HQ.out _).mono ?_
 rintro e w' ⟨rfl, hk⟩
 have hk' : Kp No w w' := ((Kp.refl _ _).alloc _).trans_same hk
 have hc := hk.get (heap_alloc_new w _) fun x => x
 have c2 := cell_at hc 2
 have c3 := cell_at hc 3
 have c4 := cell_at hc 4
 have c5 := cell_at hc 5
 have hlt := get_lt hc
 simp at c2 c3 c4 c5
 clear hc hk
 have hun : ∀ b : Bool, (undef = Value.bool b) = False := fun b => by unfold undef; simp
 go_wp2_with fail
 all_goals
  go_ret
  exact ⟨by rw [HR.out]; rfl, hk'⟩
set_option maxRecDepth 100000 in
set_option maxHeartbeats 2000000 in
theorem xver_d5 (v : VerS) (a : Option Addr) (cap : Nat) (w : World) (HB : Hid (isSt v.m v.c = true)) (d1 : decide (v.o < 0) = false) (d2 : decide (5 ≤ v.o) = false) (d3 : decide ((1024 : Int) < (v.val.length : Int)) = false) (d3' : decide (1024 < v.val.length) = false) (d4 : decide (v.ttl < 0) = false) (d5 : decide (281474976710655 < v.ttl) = true) (HR : Hid (isV v = false)) :
  Calls Tryz.prog 54 #[.agg #[.int .i64 v.m, .int .i64 v.c, .int .i64 v.o, .slice a v.val.length cap, .bool v.gone, .int .i64 v.ttl]] w fun e w' => e = .returned (.bool (isV v)) ∧ Kp No w w' := by
 obtain ⟨z, hz⟩ : ∃ z, z = isV v := ⟨_, rfl⟩
 rw [← hz] at HR ⊢
 clear hz
 have isq := fun w => rIs_any v.m v.c w
 simp only [HB.out] at isq
 have HQ := Lib.hid isq
 clear isq
 go_enter Tryz.func54, Tryz.ntmps54
 go_wp2_with fail
 refine (HQ.out _).mono ?_
 rintro e w' ⟨rfl, hk⟩
 have hk' : Kp No w w' := ((Kp.refl _ _).alloc _).trans_same hk
 have hc := hk.get (heap_alloc_new w _) fun x => x
 have c2 := cell_at hc 2
 have c3 := cell_at hc 3
 have c4 := cell_at hc 4
 have c5 := cell_at hc 5
 have hlt := get_lt hc
 simp at c2 c3 c4 c5
 clear hc hk
 have hun : ∀ b : Bool, (undef = Value.bool b) = False := fun b => by unfold undef; simp
 go_wp2_with fail
 all_goals
  go_ret
  exact ⟨by rw [HR.out]; rfl, hk'⟩
set_option maxRecDepth 100000 in
set_option maxHeartbeats 2000000 in
theorem xver_db (v : VerS) (a : Option Addr) (cap : Nat) (w : World) (HB : Hid (isSt v.m v.c = true)) (d1 : decide (v.o < 0) = false) (d2 : decide (5 ≤ v.o) = false) (d3 : decide ((1024 : Int) < (v.val.length : Int)) = false) (d3' : decide (1024 < v.val.length) = false) (d4 : decide (v.ttl < 0) = false) (d5 : decide (281474976710655 < v.ttl) = false) (db : v.gone = false) (HR : Hid (isV v = true)) :
  Calls Tryz.prog 54 #[.agg #[.int .i64 v.m, .int .i64 v.c, .int .i64 v.o, .slice a v.val.length cap, .bool v.gone, .int .i64 v.ttl]] w fun e w' => e = .returned (.bool (isV v)) ∧ Kp No w w' := by
 obtain ⟨z, hz⟩ : ∃ z, z = isV v := ⟨_, rfl⟩
 rw [← hz] at HR ⊢
 clear hz
 have isq := fun w => rIs_any v.m v.c w
 simp only [HB.out] at isq
 have HQ := Lib.hid isq
 clear isq
 go_enter Tryz.func54, Tryz.ntmps54
 go_wp2_with fail
 refine (HQ.out _).mono ?_
 rintro e w' ⟨rfl, hk⟩
 have hk' : Kp No w w' := ((Kp.refl _ _).alloc _).trans_same hk
 have hc := hk.get (heap_alloc_new w _) fun x => x
 have c2 := cell_at hc 2
 have c3 := cell_at hc 3
 have c4 := cell_at hc 4
 have c5 := cell_at hc 5
 have hlt := get_lt hc
 simp at c2 c3 c4 c5
 clear hc hk
 have hun : ∀ b : Bool, (undef = Value.bool b) = False := fun b => by unfold undef; simp
 go_wp2_with fail
 all_goals
  go_ret
  exact ⟨by rw [HR.out]; rfl, hk'⟩
set_option maxRecDepth 100000 in
set_option maxHeartbeats 2000000 in
theorem xver_dc (v : VerS) (a : Option Addr) (cap : Nat) (w : World) (HB : Hid (isSt v.m v.c = true)) (d1 : decide (v.o < 0) = false) (d2 : decide (5 ≤ v.o) = false) (d3 : decide ((1024 : Int) < (v.val.length : Int)) = false) (d3' : decide (1024 < v.val.length) = false) (d4 : decide (v.ttl < 0) = false) (d5 : decide (281474976710655 < v.ttl) = false) (db : v.gone = true) (dc : ((v.val.length : Int) == 0) = false) (dc' : (v.val.length == 0) = false) (HR : Hid (isV v = false)) :
  Calls Tryz.prog 54 #[.agg #[.int .i64 v.m, .int .i64 v.c, .int .i64 v.o, .slice a v.val.length cap, .bool v.gone, .int .i64 v.ttl]] w fun e w' => e = .returned (.bool (isV v)) ∧ Kp No w w' := by
 obtain ⟨z, hz⟩ : ∃ z, z = isV v := ⟨_, rfl⟩
 rw [← hz] at HR ⊢
 clear hz
 have isq := fun w => rIs_any v.m v.c w
 simp only [HB.out] at isq
 have HQ := Lib.hid isq
 clear isq
 go_enter Tryz.func54, Tryz.ntmps54
 go_wp2_with fail
 refine (HQ.out _).mono ?_
 rintro e w' ⟨rfl, hk⟩
 have hk' : Kp No w w' := ((Kp.refl _ _).alloc _).trans_same hk
 have hc := hk.get (heap_alloc_new w _) fun x => x
 have c2 := cell_at hc 2
 have c3 := cell_at hc 3
 have c4 := cell_at hc 4
 have c5 := cell_at hc 5
 have hlt := get_lt hc
 simp at c2 c3 c4 c5
 clear hc hk
 have hun : ∀ b : Bool, (undef = Value.bool b) = False := fun b => by unfold undef; simp
 go_wp2_with fail
 all_goals
  go_ret
  exact ⟨by rw [HR.out]; rfl, hk'⟩
set_option maxRecDepth 100000 in
set_option maxHeartbeats 2000000 in
theorem xver_dd (v : VerS) (a : Option Addr) (cap : Nat) (w : World) (HB : Hid (isSt v.m v.c = true)) (d1 : decide (v.o < 0) = false) (d2 : decide (5 ≤ v.o) = false) (d3 : decide ((1024 : Int) < (v.val.length : Int)) = false) (d3' : decide (1024 < v.val.length) = false) (d4 : decide (v.ttl < 0) = false) (d5 : decide (281474976710655 < v.ttl) = false) (db : v.gone = true) (dc : ((v.val.length : Int) == 0) = true) (dc' : (v.val.length == 0) = true) (dd : (v.ttl == 0) = false) (HR : Hid (isV v = false)) :
  Calls Tryz.prog 54 #[.agg #[.int .i64 v.m, .int .i64 v.c, .int .i64 v.o, .slice a v.val.length cap, .bool v.gone, .int .i64 v.ttl]] w fun e w' => e = .returned (.bool (isV v)) ∧ Kp No w w' := by
 obtain ⟨z, hz⟩ : ∃ z, z = isV v := ⟨_, rfl⟩
 rw [← hz] at HR ⊢
 clear hz
 have isq := fun w => rIs_any v.m v.c w
 simp only [HB.out] at isq
 have HQ := Lib.hid isq
 clear isq
 go_enter Tryz.func54, Tryz.ntmps54
 go_wp2_with fail
 refine (HQ.out _).mono ?_
 rintro e w' ⟨rfl, hk⟩
 have hk' : Kp No w w' := ((Kp.refl _ _).alloc _).trans_same hk
 have hc := hk.get (heap_alloc_new w _) fun x => x
 have c2 := cell_at hc 2
 have c3 := cell_at hc 3
 have c4 := cell_at hc 4
 have c5 := cell_at hc 5
 have hlt := get_lt hc
 simp at c2 c3 c4 c5
 clear hc hk
 have hun : ∀ b : Bool, (undef = Value.bool b) = False := fun b => by unfold undef; simp
 go_wp2_with fail
 all_goals
  go_ret
  exact ⟨by rw [HR.out]; rfl, hk'⟩
set_option maxRecDepth 100000 in
set_option maxHeartbeats 2000000 in
theorem xver_all (v : VerS) (a : Option Addr) (cap : Nat) (w : World) (HB : Hid (isSt v.m v.c = true)) (d1 : decide (v.o < 0) = false) (d2 : decide (5 ≤ v.o) = false) (d3 : decide ((1024 : Int) < (v.val.length : Int)) = false) (d3' : decide (1024 < v.val.length) = false) (d4 : decide (v.ttl < 0) = false) (d5 : decide (281474976710655 < v.ttl) = false) (db : v.gone = true) (dc : ((v.val.length : Int) == 0) = true) (dc' : (v.val.length == 0) = true) (dd : (v.ttl == 0) = true) (HR : Hid (isV v = true)) :
  Calls Tryz.prog 54 #[.agg #[.int .i64 v.m, .int .i64 v.c, .int .i64 v.o, .slice a v.val.length cap, .bool v.gone, .int .i64 v.ttl]] w fun e w' => e = .returned (.bool (isV v)) ∧ Kp No w w' := by
 obtain ⟨z, hz⟩ : ∃ z, z = isV v := ⟨_, rfl⟩
 rw [← hz] at HR ⊢
 clear hz
 have isq := fun w => rIs_any v.m v.c w
 simp only [HB.out] at isq
 have HQ := Lib.hid isq
 clear isq
 go_enter Tryz.func54, Tryz.ntmps54
 go_wp2_with fail
 refine (HQ.out _).mono ?_
 rintro e w' ⟨rfl, hk⟩
 have hk' : Kp No w w' := ((Kp.refl _ _).alloc _).trans_same hk
 have hc := hk.get (heap_alloc_new w _) fun x => x
 have c2 := cell_at hc 2
 have c3 := cell_at hc 3
 have c4 := cell_at hc 4
 have c5 := cell_at hc 5
 have hlt := get_lt hc
 simp at c2 c3 c4 c5
 clear hc hk
 have hun : ∀ b : Bool, (undef = Value.bool b) = False := fun b => by unfold undef; simp
 go_wp2_with fail
 all_goals
  go_ret
  exact ⟨by rw [HR.out]; rfl, hk'⟩
structure XVP (v : VerS) : Prop where
 st : isSt v.m v.c = true
 o0 : ¬ v.o < 0
 o5 : ¬ 5 ≤ v.o
 vl : ¬ (1024 : Int) < (v.val.length : Int)
 t0 : ¬ v.ttl < 0
 t1 : ¬ 281474976710655 < v.ttl
 gg : v.gone = true → (v.val.length : Int) = 0 ∧ v.ttl = 0
theorem isV_P {v : VerS} : isV v = true ↔ XVP v := by
 rw [isV_iff, ← isSt_iff]
 constructor
 ·rintro ⟨st, o0, o5, vl, t0, t1, gg⟩
  exact ⟨st, by omega, by omega, by omega, by omega, by omega, fun h => ⟨by have := gg h; omega, (gg h).2⟩⟩
 ·rintro ⟨st, o0, o5, vl, t0, t1, gg⟩
  exact ⟨st, by omega, by omega, by omega, by omega, by omega, fun h => ⟨by have := gg h; omega, (gg h).2⟩⟩
theorem isV_no {v : VerS} (h : ¬ XVP v) : isV v = false := by
 cases hh : isV v with
 | false => rfl
 | true => exact absurd (isV_P.1 hh) h
theorem xVer_any (x : VerR) (w : World) : Calls Tryz.prog 54 #[verV x] w fun e w' => e = .returned (.bool (isV x.v)) ∧ Kp No w w' := by
 obtain ⟨v, a, cap⟩ := x
 unfold verV verC VerR.sl
 simp only
 cases b1 : isSt v.m v.c with
 | false => exact xver_x0 v a cap w (Lib.hid b1) (Lib.hid (isV_no fun h => absurd h.st (by rw [b1]; decide)))
 | true =>
 cases d1 : decide (v.o < 0) with
 | true => exact xver_d1 v a cap w (Lib.hid b1) d1 (Lib.hid (isV_no fun h => h.o0 (of_decide_eq_true d1)))
 | false =>
 cases d2 : decide (5 ≤ v.o) with
 | true => exact xver_d2 v a cap w (Lib.hid b1) d1 d2 (Lib.hid (isV_no fun h => h.o5 (of_decide_eq_true d2)))
 | false =>
 cases d3 : decide ((1024 : Int) < (v.val.length : Int)) with
 | true => exact xver_d3 v a cap w (Lib.hid b1) d1 d2 d3 (dec_same (by omega) d3) (Lib.hid (isV_no fun h => h.vl (of_decide_eq_true d3)))
 | false =>
 cases d4 : decide (v.ttl < 0) with
 | true => exact xver_d4 v a cap w (Lib.hid b1) d1 d2 d3 (dec_same (by omega) d3) d4 (Lib.hid (isV_no fun h => h.t0 (of_decide_eq_true d4)))
 | false =>
 cases d5 : decide (281474976710655 < v.ttl) with
 | true => exact xver_d5 v a cap w (Lib.hid b1) d1 d2 d3 (dec_same (by omega) d3) d4 d5 (Lib.hid (isV_no fun h => h.t1 (of_decide_eq_true d5)))
 | false =>
 rcases Bool.eq_false_or_eq_true v.gone with db | db
 rotate_left
 ·exact xver_db v a cap w (Lib.hid b1) d1 d2 d3 (dec_same (by omega) d3) d4 d5 db (Lib.hid (isV_P.2 ⟨b1, of_decide_eq_false d1, of_decide_eq_false d2, of_decide_eq_false d3, of_decide_eq_false d4, of_decide_eq_false d5, fun h => absurd h (by rw [db]; decide)⟩))
 cases dc : ((v.val.length : Int) == 0) with
 | false => exact xver_dc v a cap w (Lib.hid b1) d1 d2 d3 (dec_same (by omega) d3) d4 d5 db dc (beq_same dc) (Lib.hid (isV_no fun h => ne_of_beq_false dc (h.gg db).1))
 | true =>
 cases dd : (v.ttl == 0) with
 | false => exact xver_dd v a cap w (Lib.hid b1) d1 d2 d3 (dec_same (by omega) d3) d4 d5 db dc (beq_same dc) dd (Lib.hid (isV_no fun h => ne_of_beq_false dd (h.gg db).2))
 | true =>
 exact xver_all v a cap w (Lib.hid b1) d1 d2 d3 (dec_same (by omega) d3) d4 d5 db dc (beq_same dc) dd (Lib.hid (isV_P.2 ⟨b1, of_decide_eq_false d1, of_decide_eq_false d2, of_decide_eq_false d3, of_decide_eq_false d4, of_decide_eq_false d5, fun _ => ⟨eq_of_beq dc, eq_of_beq dd⟩⟩))
end Go.Proofs.YtgnkmjeoaoongaaGreatDoor
namespace Go.Proofs.YtgnkmjeoaoongaaGreatDoor
open Go.RowKit Go.Mer
set_option maxRecDepth 100000 in
set_option maxHeartbeats 2000000 in
theorem xis_x0 (r : RecS) (a : Option Addr) (cap : Nat) (w : World) (HB : Hid (isV r.v = false)) (HR : Hid (isR r = false)) :
  Calls Tryz.prog 17 #[.agg #[.int .i64 r.o, .int .i64 r.seq, .string r.key, .int .i64 r.v.m, .int .i64 r.v.c, .int .i64 r.v.o, .slice a r.v.val.length cap, .bool r.v.gone, .int .i64 r.v.ttl]] w fun e w' => e = .returned (.bool (isR r)) ∧ Kp No w w' := by
 obtain ⟨z, hz⟩ : ∃ z, z = isR r := ⟨_, rfl⟩
 rw [← hz] at HR ⊢
 clear hz
 have isq := fun w => xVer_any ⟨r.v, a, cap⟩ w
 unfold verV verC VerR.sl at isq
 simp only [HB.out] at isq
 have HQ := Lib.hid isq
 clear isq
 go_enter Tryz.func17, Tryz.ntmps17
 go_wp2_with fail
 refine (HQ.out _).mono ?_
 rintro e w' ⟨rfl, hk⟩
 have hk' : Kp No w w' := ((Kp.refl _ _).alloc _).trans_same hk
 have hc := hk.get (heap_alloc_new w _) fun x => x
 have c0 := cell_at hc 0
 have c1 := cell_at hc 1
 have c2 := cell_at hc 2
 have c5 := cell_at hc 5
 have hlt := get_lt hc
 simp at c0 c1 c2 c5
 clear hc hk
 have hun : ∀ b : Bool, (undef = Value.bool b) = False := fun b => by unfold undef; simp
 go_wp2_with fail
 all_goals
  go_ret
  exact ⟨by rw [HR.out]; rfl, hk'⟩
set_option maxRecDepth 100000 in
set_option maxHeartbeats 2000000 in
theorem xis_d1 (r : RecS) (a : Option Addr) (cap : Nat) (w : World) (HB : Hid (isV r.v = true)) (d1 : (r.v.o == r.o) = false) (HR : Hid (isR r = false)) :
  Calls Tryz.prog 17 #[.agg #[.int .i64 r.o, .int .i64 r.seq, .string r.key, .int .i64 r.v.m, .int .i64 r.v.c, .int .i64 r.v.o, .slice a r.v.val.length cap, .bool r.v.gone, .int .i64 r.v.ttl]] w fun e w' => e = .returned (.bool (isR r)) ∧ Kp No w w' := by
 obtain ⟨z, hz⟩ : ∃ z, z = isR r := ⟨_, rfl⟩
 rw [← hz] at HR ⊢
 clear hz
 have isq := fun w => xVer_any ⟨r.v, a, cap⟩ w
 unfold verV verC VerR.sl at isq
 simp only [HB.out] at isq
 have HQ := Lib.hid isq
 clear isq
 go_enter Tryz.func17, Tryz.ntmps17
 go_wp2_with fail
 refine (HQ.out _).mono ?_
 rintro e w' ⟨rfl, hk⟩
 have hk' : Kp No w w' := ((Kp.refl _ _).alloc _).trans_same hk
 have hc := hk.get (heap_alloc_new w _) fun x => x
 have c0 := cell_at hc 0
 have c1 := cell_at hc 1
 have c2 := cell_at hc 2
 have c5 := cell_at hc 5
 have hlt := get_lt hc
 simp at c0 c1 c2 c5
 clear hc hk
 have hun : ∀ b : Bool, (undef = Value.bool b) = False := fun b => by unfold undef; simp
 go_wp2_with fail
 all_goals
  go_ret
  exact ⟨by rw [HR.out]; rfl, hk'⟩
set_option maxRecDepth 100000 in
set_option maxHeartbeats 2000000 in
theorem xis_d2 (r : RecS) (a : Option Addr) (cap : Nat) (w : World) (HB : Hid (isV r.v = true)) (d1 : (r.v.o == r.o) = true) (d2 : decide (1 ≤ r.seq) = false) (HR : Hid (isR r = false)) :
  Calls Tryz.prog 17 #[.agg #[.int .i64 r.o, .int .i64 r.seq, .string r.key, .int .i64 r.v.m, .int .i64 r.v.c, .int .i64 r.v.o, .slice a r.v.val.length cap, .bool r.v.gone, .int .i64 r.v.ttl]] w fun e w' => e = .returned (.bool (isR r)) ∧ Kp No w w' := by
 obtain ⟨z, hz⟩ : ∃ z, z = isR r := ⟨_, rfl⟩
 rw [← hz] at HR ⊢
 clear hz
 have isq := fun w => xVer_any ⟨r.v, a, cap⟩ w
 unfold verV verC VerR.sl at isq
 simp only [HB.out] at isq
 have HQ := Lib.hid isq
 clear isq
 go_enter Tryz.func17, Tryz.ntmps17
 go_wp2_with fail
 refine (HQ.out _).mono ?_
 rintro e w' ⟨rfl, hk⟩
 have hk' : Kp No w w' := ((Kp.refl _ _).alloc _).trans_same hk
 have hc := hk.get (heap_alloc_new w _) fun x => x
 have c0 := cell_at hc 0
 have c1 := cell_at hc 1
 have c2 := cell_at hc 2
 have c5 := cell_at hc 5
 have hlt := get_lt hc
 simp at c0 c1 c2 c5
 clear hc hk
 have hun : ∀ b : Bool, (undef = Value.bool b) = False := fun b => by unfold undef; simp
 go_wp2_with fail
 all_goals
  go_ret
  exact ⟨by rw [HR.out]; rfl, hk'⟩
set_option maxRecDepth 100000 in
set_option maxHeartbeats 2000000 in
theorem xis_d3 (r : RecS) (a : Option Addr) (cap : Nat) (w : World) (HB : Hid (isV r.v = true)) (d1 : (r.v.o == r.o) = true) (d2 : decide (1 ≤ r.seq) = true) (d3 : decide (r.seq ≤ 1099511627776) = false) (HR : Hid (isR r = false)) :
  Calls Tryz.prog 17 #[.agg #[.int .i64 r.o, .int .i64 r.seq, .string r.key, .int .i64 r.v.m, .int .i64 r.v.c, .int .i64 r.v.o, .slice a r.v.val.length cap, .bool r.v.gone, .int .i64 r.v.ttl]] w fun e w' => e = .returned (.bool (isR r)) ∧ Kp No w w' := by
 obtain ⟨z, hz⟩ : ∃ z, z = isR r := ⟨_, rfl⟩
 rw [← hz] at HR ⊢
 clear hz
 have isq := fun w => xVer_any ⟨r.v, a, cap⟩ w
 unfold verV verC VerR.sl at isq
 simp only [HB.out] at isq
 have HQ := Lib.hid isq
 clear isq
 go_enter Tryz.func17, Tryz.ntmps17
 go_wp2_with fail
 refine (HQ.out _).mono ?_
 rintro e w' ⟨rfl, hk⟩
 have hk' : Kp No w w' := ((Kp.refl _ _).alloc _).trans_same hk
 have hc := hk.get (heap_alloc_new w _) fun x => x
 have c0 := cell_at hc 0
 have c1 := cell_at hc 1
 have c2 := cell_at hc 2
 have c5 := cell_at hc 5
 have hlt := get_lt hc
 simp at c0 c1 c2 c5
 clear hc hk
 have hun : ∀ b : Bool, (undef = Value.bool b) = False := fun b => by unfold undef; simp
 go_wp2_with fail
 all_goals
  go_ret
  exact ⟨by rw [HR.out]; rfl, hk'⟩
set_option maxRecDepth 100000 in
set_option maxHeartbeats 2000000 in
theorem xis_d4 (r : RecS) (a : Option Addr) (cap : Nat) (w : World) (HB : Hid (isV r.v = true)) (d1 : (r.v.o == r.o) = true) (d2 : decide (1 ≤ r.seq) = true) (d3 : decide (r.seq ≤ 1099511627776) = true) (d4 : decide (1 ≤ (r.key.size : Int)) = false) (d4' : decide (1 ≤ r.key.size) = false) (HR : Hid (isR r = false)) :
  Calls Tryz.prog 17 #[.agg #[.int .i64 r.o, .int .i64 r.seq, .string r.key, .int .i64 r.v.m, .int .i64 r.v.c, .int .i64 r.v.o, .slice a r.v.val.length cap, .bool r.v.gone, .int .i64 r.v.ttl]] w fun e w' => e = .returned (.bool (isR r)) ∧ Kp No w w' := by
 obtain ⟨z, hz⟩ : ∃ z, z = isR r := ⟨_, rfl⟩
 rw [← hz] at HR ⊢
 clear hz
 have isq := fun w => xVer_any ⟨r.v, a, cap⟩ w
 unfold verV verC VerR.sl at isq
 simp only [HB.out] at isq
 have HQ := Lib.hid isq
 clear isq
 go_enter Tryz.func17, Tryz.ntmps17
 go_wp2_with fail
 refine (HQ.out _).mono ?_
 rintro e w' ⟨rfl, hk⟩
 have hk' : Kp No w w' := ((Kp.refl _ _).alloc _).trans_same hk
 have hc := hk.get (heap_alloc_new w _) fun x => x
 have c0 := cell_at hc 0
 have c1 := cell_at hc 1
 have c2 := cell_at hc 2
 have c5 := cell_at hc 5
 have hlt := get_lt hc
 simp at c0 c1 c2 c5
 clear hc hk
 have hun : ∀ b : Bool, (undef = Value.bool b) = False := fun b => by unfold undef; simp
 go_wp2_with fail
 all_goals
  go_ret
  exact ⟨by rw [HR.out]; rfl, hk'⟩
set_option maxRecDepth 100000 in
set_option maxHeartbeats 2000000 in
theorem xis_d5 (r : RecS) (a : Option Addr) (cap : Nat) (w : World) (HB : Hid (isV r.v = true)) (d1 : (r.v.o == r.o) = true) (d2 : decide (1 ≤ r.seq) = true) (d3 : decide (r.seq ≤ 1099511627776) = true) (d4 : decide (1 ≤ (r.key.size : Int)) = true) (d4' : decide (1 ≤ r.key.size) = true) (d5 : decide ((r.key.size : Int) ≤ 64) = false) (d5' : decide (r.key.size ≤ 64) = false) (HR : Hid (isR r = false)) :
  Calls Tryz.prog 17 #[.agg #[.int .i64 r.o, .int .i64 r.seq, .string r.key, .int .i64 r.v.m, .int .i64 r.v.c, .int .i64 r.v.o, .slice a r.v.val.length cap, .bool r.v.gone, .int .i64 r.v.ttl]] w fun e w' => e = .returned (.bool (isR r)) ∧ Kp No w w' := by
 obtain ⟨z, hz⟩ : ∃ z, z = isR r := ⟨_, rfl⟩
 rw [← hz] at HR ⊢
 clear hz
 have isq := fun w => xVer_any ⟨r.v, a, cap⟩ w
 unfold verV verC VerR.sl at isq
 simp only [HB.out] at isq
 have HQ := Lib.hid isq
 clear isq
 go_enter Tryz.func17, Tryz.ntmps17
 go_wp2_with fail
 refine (HQ.out _).mono ?_
 rintro e w' ⟨rfl, hk⟩
 have hk' : Kp No w w' := ((Kp.refl _ _).alloc _).trans_same hk
 have hc := hk.get (heap_alloc_new w _) fun x => x
 have c0 := cell_at hc 0
 have c1 := cell_at hc 1
 have c2 := cell_at hc 2
 have c5 := cell_at hc 5
 have hlt := get_lt hc
 simp at c0 c1 c2 c5
 clear hc hk
 have hun : ∀ b : Bool, (undef = Value.bool b) = False := fun b => by unfold undef; simp
 go_wp2_with fail
 all_goals
  go_ret
  exact ⟨by rw [HR.out]; rfl, hk'⟩
set_option maxRecDepth 100000 in
set_option maxHeartbeats 2000000 in
theorem xis_all (r : RecS) (a : Option Addr) (cap : Nat) (w : World) (HB : Hid (isV r.v = true)) (d1 : (r.v.o == r.o) = true) (d2 : decide (1 ≤ r.seq) = true) (d3 : decide (r.seq ≤ 1099511627776) = true) (d4 : decide (1 ≤ (r.key.size : Int)) = true) (d4' : decide (1 ≤ r.key.size) = true) (d5 : decide ((r.key.size : Int) ≤ 64) = true) (d5' : decide (r.key.size ≤ 64) = true) (HR : Hid (isR r = true)) :
  Calls Tryz.prog 17 #[.agg #[.int .i64 r.o, .int .i64 r.seq, .string r.key, .int .i64 r.v.m, .int .i64 r.v.c, .int .i64 r.v.o, .slice a r.v.val.length cap, .bool r.v.gone, .int .i64 r.v.ttl]] w fun e w' => e = .returned (.bool (isR r)) ∧ Kp No w w' := by
 obtain ⟨z, hz⟩ : ∃ z, z = isR r := ⟨_, rfl⟩
 rw [← hz] at HR ⊢
 clear hz
 have isq := fun w => xVer_any ⟨r.v, a, cap⟩ w
 unfold verV verC VerR.sl at isq
 simp only [HB.out] at isq
 have HQ := Lib.hid isq
 clear isq
 go_enter Tryz.func17, Tryz.ntmps17
 go_wp2_with fail
 refine (HQ.out _).mono ?_
 rintro e w' ⟨rfl, hk⟩
 have hk' : Kp No w w' := ((Kp.refl _ _).alloc _).trans_same hk
 have hc := hk.get (heap_alloc_new w _) fun x => x
 have c0 := cell_at hc 0
 have c1 := cell_at hc 1
 have c2 := cell_at hc 2
 have c5 := cell_at hc 5
 have hlt := get_lt hc
 simp at c0 c1 c2 c5
 clear hc hk
 have hun : ∀ b : Bool, (undef = Value.bool b) = False := fun b => by unfold undef; simp
 go_wp2_with fail
 all_goals
  go_ret
  exact ⟨by rw [HR.out]; rfl, hk'⟩
theorem isR_not {r : RecS} (h : ¬ (isV r.v = true ∧ r.v.o = r.o ∧ 1 ≤ r.seq ∧ r.seq ≤ 1099511627776 ∧ 1 ≤ (r.key.size : Int) ∧ (r.key.size : Int) ≤ 64)) : isR r = false := by
 cases hh : isR r with
 | false => rfl
 | true =>
  obtain ⟨h1, h2, h3, h4, h5, h6⟩ := isR_iff.1 hh
  exact absurd ⟨h1, h2, h3, h4, by omega, by omega⟩ h
theorem xIs_any (x : RecR) (w : World) : Calls Tryz.prog 17 #[recV x] w fun e w' => e = .returned (.bool (isR x.r)) ∧ Kp No w w' := by
 obtain ⟨r, a, cap⟩ := x
 unfold recV recC RecR.sl
 simp only
 cases b1 : isV r.v with
 | false => exact xis_x0 r a cap w (Lib.hid b1) (Lib.hid (isR_not fun h => absurd h.1 (by rw [b1]; decide)))
 | true =>
 cases d1 : (r.v.o == r.o) with
 | false => exact xis_d1 r a cap w (Lib.hid b1) d1 (Lib.hid (isR_not fun h => ne_of_beq_false d1 h.2.1))
 | true =>
 cases d2 : decide (1 ≤ r.seq) with
 | false => exact xis_d2 r a cap w (Lib.hid b1) d1 d2 (Lib.hid (isR_not fun h => of_decide_eq_false d2 h.2.2.1))
 | true =>
 cases d3 : decide (r.seq ≤ 1099511627776) with
 | false => exact xis_d3 r a cap w (Lib.hid b1) d1 d2 d3 (Lib.hid (isR_not fun h => of_decide_eq_false d3 h.2.2.2.1))
 | true =>
 cases d4 : decide (1 ≤ (r.key.size : Int)) with
 | false => exact xis_d4 r a cap w (Lib.hid b1) d1 d2 d3 d4 (dec_same (by omega) d4) (Lib.hid (isR_not fun h => of_decide_eq_false d4 h.2.2.2.2.1))
 | true =>
 cases d5 : decide ((r.key.size : Int) ≤ 64) with
 | false => exact xis_d5 r a cap w (Lib.hid b1) d1 d2 d3 d4 (dec_same (by omega) d4) d5 (dec_same (by omega) d5) (Lib.hid (isR_not fun h => of_decide_eq_false d5 h.2.2.2.2.2))
 | true =>
 refine xis_all r a cap w (Lib.hid b1) d1 d2 d3 d4 (dec_same (by omega) d4) d5 (dec_same (by omega) d5) (Lib.hid (isR_iff.2 ⟨b1, eq_of_beq d1, of_decide_eq_true d2, of_decide_eq_true d3, ?_, ?_⟩))
 ·have := of_decide_eq_true d4
  omega
 ·have := of_decide_eq_true d5
  omega
end Go.Proofs.YtgnkmjeoaoongaaGreatDoor
