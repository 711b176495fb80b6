/-
  Texts laid together: Fin, WEnds, WSyncs, SStM.
-/
import Derived.Test.YtgnkmjeoaoongaaGreatDoorSa5
import Derived.Test.YtgnkmjeoaoongaaGreatDoorSb2
import Derived.Deep.CutBlock
import Derived.Deep.CutRange
import Derived.Test.YtgnkmjeoaoongaaGreatDoorSa4
import Derived.Test.YtgnkmjeoaoongaaGreatDoorSa6
namespace Go.Mer
open Go
section
variable {P : Program} {ops : Array Oper} {Q : Exit → Act → World → Prop} {S : World → Prop} {ks : List Nat} {z : Nat}
def anyF (P : Program) (ops : Array Oper) (z : Nat) (Q : Exit → Act → World → Prop) : Nat → Array Bool → Act → World → Prop
 | 0, _, _, _ => False
 | fuel + 1, listed, a, w =>
  Region.ready .any ops listed ≠ [] ∧
  ∀ i ∈ Region.ready .any ops listed, ∀ o, ops[i]? = some o →
   if i = z then ∀ n, wpOp P ops Q i (wpAny P .any ops Q fuel (listed.setIfInBounds i true)) a (w.drewN n)
   else ∃ v, YieldsIn P ops (Dr w) o v a ∧ anyF P ops z Q fuel (listed.setIfInBounds i true) (a.put o.dst v) w
theorem wpAny_of_anyF : ∀ (fuel : Nat) (listed : Array Bool) (a : Act) (w : World) (n : Nat), anyF P ops z Q fuel listed a w → wpAny P .any ops Q fuel listed a (w.drewN n)
 | 0, _, _, _, _, h => h.elim
 | fuel + 1, listed, a, w, n, h => by
  refine ⟨fun h0 => absurd h0 h.1, fun i hi => ?_⟩
  obtain ⟨_, o, ho, _⟩ := mem_ready.1 hi
  have h2 := h.2 i hi o ho
  split at h2
  ·exact h2 n
  ·obtain ⟨v, hy, hk⟩ := h2
   exact wpOp_of_qOp (C := Dr w) (K := fun a => anyF P ops z Q fuel (listed.setIfInBounds i true) a w) ⟨n, rfl⟩ (fun a' w' ⟨m, hw'⟩ hh => by subst hw'; exact wpAny_of_anyF fuel _ a' w m hh) (hy.qOp ho hk)
theorem anyF_held {w : World} {i : Nat} {oi : Oper} {v : Value} {dep : Array Bool} (hz : dep.getD z false = true) (hi : ops[i]? = some oi) (hiz : i ≠ z) (hsel : ∀ (j : Nat) (o : Oper) cs b, ops[j]? = some o → o.op ≠ .select cs b) :
  ∀ (fuel : Nat) (listed : Array Bool) (a : Act),
   (∀ j oj, ops[j]? = some oj → j ≠ i → listed.getD j true = false → (∀ e ∈ oj.after, Region.binds .any e = true → e.on ≠ i) → oi.apart ops oj = true) →
   (∀ j, dep.getD j false = true → j ≠ i ∧ listed.getD j true = false ∧ ∃ o, ops[j]? = some o ∧ ∃ e ∈ o.after, Region.binds .any e = true ∧ (e.on = i ∨ dep.getD e.on false = true)) →
   i ∈ Region.ready .any ops listed → YieldsIn P ops (Dr w) oi v a →
   anyF P ops z Q fuel (listed.setIfInBounds i true) (a.put oi.dst v) w → anyF P ops z Q (fuel + 1) listed a w := by
 intro fuel
 induction fuel with
 | zero => exact fun _ _ _ _ _ _ H => H.elim
 | succ fuel ih =>
  intro listed a hfree hdep hr hy H
  refine ⟨fun h => (by rw [h] at hr; cases hr), fun j hj o ho => ?_⟩
  by_cases hji : j = i
  ·subst hji
   rw [hi] at ho; injection ho with ho; subst ho
   rw [if_neg hiz]
   exact ⟨v, hy, H⟩
  ·have h1 := H.2 j (ready_mono hj hji) o ho
   obtain ⟨hjun, oj, hoj, hall⟩ := mem_ready.1 hj
   rw [ho] at hoj; injection hoj with hoj; subst hoj
   have unl : ∀ k, listed.getD k true = false → listed.getD k false = true → False := fun k h0 h1 => by
    rcases Nat.lt_or_ge k listed.size with h' | h'
    ·simp [h'] at h0 h1; rw [h0] at h1; cases h1
    ·simp [Array.getElem?_eq_none h'] at h1
   have hnot : ∀ e ∈ o.after, Region.binds .any e = true → e.on ≠ i := fun e he hb heq => unl i (mem_ready.1 hr).1 (heq ▸ hall e he hb)
   have hnd : dep.getD j false = false := by
    cases hd : dep.getD j false with
    | false => rfl
    | true =>
     obtain ⟨_, _, o', ho', e, he, hb, h⟩ := hdep j hd
     rw [ho] at ho'; injection ho' with ho'; subst ho'
     rcases h with h | h
     ·exact absurd h (hnot e he hb)
     ·exact (unl e.on (hdep e.on h).2.1 (hall e he hb)).elim
   have hjz : j ≠ z := fun e => by
    subst e
    rw [hz] at hnd
    cases hnd
   have hdep' : ∀ k, dep.getD k false = true → k ≠ i ∧ (listed.setIfInBounds j true).getD k true = false ∧ ∃ o, ops[k]? = some o ∧ ∃ e ∈ o.after, Region.binds .any e = true ∧ (e.on = i ∨ dep.getD e.on false = true) := fun k hk => by
    obtain ⟨k1, k2, k3⟩ := hdep k hk
    refine ⟨k1, ?_, k3⟩
    rw [getD_set_ne true (fun e => by subst e; rw [hnd] at hk; cases hk)]
    exact k2
   have hap := hfree j o ho hji hjun hnot
   have hfree' : ∀ k ok, ops[k]? = some ok → k ≠ i → (listed.setIfInBounds j true).getD k true = false →
     (∀ e ∈ ok.after, Region.binds .any e = true → e.on ≠ i) → oi.apart ops ok = true := fun k ok hk hki hun hno => by
    refine hfree k ok hk hki ?_ hno
    by_cases hjk : j = k
    ·subst hjk; exact hjun
    ·rw [getD_set_ne true hjk] at hun; exact hun
   have hcm : (listed.setIfInBounds i true).setIfInBounds j true = (listed.setIfInBounds j true).setIfInBounds i true := Array.setIfInBounds_comm _ _ (fun e => hji e.symm)
   rw [if_neg hjz] at h1 ⊢
   obtain ⟨u, hu, hK⟩ := h1
   obtain ⟨a1, a2, a3⟩ := Oper.apart_spec hap
   refine ⟨u, hu.of_same (execOp_put o (fun cs b => hsel j o cs b ho) a oi.dst v a1).symm (wanted_put o a oi.dst v a1).symm, ?_⟩
   refine ih (listed.setIfInBounds j true) _ hfree' hdep' (ready_mono hr (Ne.symm hji))
    (hy.of_same (execOp_put oi (fun cs b => hsel i oi cs b hi) a o.dst u a3) (wanted_put oi a o.dst u a3)) ?_
   rw [← hcm, ← Act.put_comm a v u a2]
   exact hK
def upto (Q : Exit → Act → World → Prop) (K : Act → World → Prop) : Exit → Act → World → Prop
 | .normal, a, w => K a w
 | e, a, w => Q e a w
def wpSeq (P : Program) (ops : Array Oper) (Q : Exit → Act → World → Prop) : List Nat → Act → World → Prop
 | [], a, w => Q .normal a w
 | i :: r, a, w => ∃ o, ops[i]? = some o ∧ wpList P ops (upto Q (wpSeq P ops Q r)) [o] a w
theorem wpSeq_step {i : Nat} {o : Oper} {r : List Nat} {a : Act} {w : World} (ho : ops[i]? = some o) (h : wpList P ops (upto Q (wpSeq P ops Q r)) [o] a w) : wpSeq P ops Q (i :: r) a w := ⟨o, ho, h⟩
theorem upto_out {K : Act → World → Prop} (h : LetsOut (upto Q K)) : LetsOut Q := h
theorem wp_upto {o : Oper} {a : Act} {w : World} {K : Act → World → Prop} (h : o.wp P a w K (upto Q K)) : o.wp P a w K Q := by
 unfold Oper.wp at *
 generalize (execOp a.eval o).run P w = r at *
 cases r with
 | ok n w' =>
  cases n <;> simp only [Oper.upon] at h ⊢
  case value => exact h
  case skip => exact h
  case defer => exact h
  case row => exact h
  case enter f args =>
   refine Calls.mono h fun e w'' he => ?_
   cases e with
   | returned v => exact he
   | panicked c => exact he
   | outgrown => exact he
 | halt x w' => cases x <;> simp only [Oper.upon] at h ⊢ <;> exact h
theorem wpOp_of_list {i : Nat} {o : Oper} {a : Act} {w : World} {K : Act → World → Prop} (ho : ops[i]? = some o) (h : wpList P ops (upto Q K) [o] a w) : wpOp P ops Q i K a w := by
 unfold wpOp
 simp only [ho]
 unfold wpList at h
 split
 ·rename_i hw
  rw [if_pos hw] at h
  refine h.imp (fun h => wp_upto ?_) (fun h => ⟨h.1, upto_out h.2⟩)
  exact h
 ·rename_i hw
  rw [if_neg hw] at h
  exact h
def tailOk (ops : Array Oper) : List Nat → Array Bool → Bool
 | [], listed => (Region.ready .any ops listed).isEmpty
 | t :: r, listed => Region.ready .any ops listed == [t] && tailOk ops r (listed.setIfInBounds t true)
theorem wpAny_of_seq : ∀ (r : List Nat) (listed : Array Bool) (a : Act) (w : World), tailOk ops r listed = true → wpSeq P ops Q r a w → wpAny P .any ops Q r.length listed a w
 | [], listed, a, w, hB, h => by
  simp only [tailOk, List.isEmpty_iff] at hB
  exact ⟨hB, h⟩
 | t :: r, listed, a, w, hB, h => by
  simp only [tailOk, Bool.and_eq_true, beq_iff_eq] at hB
  obtain ⟨o, ho, h⟩ := h
  refine ⟨fun h0 => (by rw [h0] at hB; cases hB.1), fun i hi => ?_⟩
  rw [hB.1, List.mem_singleton] at hi
  subst hi
  exact wpOp_mono (fun a w hh => wpAny_of_seq r _ a w hB.2 hh) (wpOp_of_list ho h)
def ordFin (ops : Array Oper) (ks : List Nat) (z : Nat) (tail : List Nat) : List Nat → Array Bool → Bool
 | [], listed => tailOk ops (z :: tail) listed
 | i :: rest, listed =>
  (Region.ready .any ops listed).contains i && Region.free .any ops listed i && i != z && decide (ks.getD i 2 < 2) &&
  (Region.ready .any ops listed == [i] || depsHold ops listed (depsOn ops i) i z) &&
  ordFin ops ks z tail rest (listed.setIfInBounds i true)
def finOk (ops : Array Oper) (ks : List Nat) (z : Nat) (tail pre : List Nat) : Bool := Region.noSelect ops && pre.length + 1 + tail.length == ops.size && ordFin ops ks z tail pre (Array.replicate ops.size false)
abbrev finQ (P : Program) (ops : Array Oper) (Q : Exit → Act → World → Prop) (z : Nat) (tail : List Nat) : Exit → Act → World → Prop := onward fun a w => wpSeq P ops Q (z :: tail) a w
theorem anyF_of_pre (hSd : ∀ w n, S w → S (w.drewN n)) (hs : Region.noSelect ops = true) (tail : List Nat) : ∀ (pre : List Nat) (listed : Array Bool) (a : Act) (w : World), S w →
  ordFin ops ks z tail pre listed = true → wpOrd P ops ks S (finQ P ops Q z tail) pre a w → anyF P ops z Q (pre.length + 1 + tail.length) listed a w
 | [], listed, a, w, _, hB, h => by
  simp only [ordFin, tailOk, Bool.and_eq_true, beq_iff_eq] at hB
  have e : ([] : List Nat).length + 1 + tail.length = tail.length + 1 := by simp; omega
  rw [e]
  refine ⟨fun h0 => (by rw [h0] at hB; cases hB.1), fun j hj oj hoj => ?_⟩
  rw [hB.1, List.mem_singleton] at hj
  subst hj
  rw [if_pos rfl]
  intro n
  obtain ⟨o, ho, h⟩ := h n
  exact wpOp_mono (fun a w hh => wpAny_of_seq tail _ a w hB.2 hh) (wpOp_of_list ho h)
 | i :: rest, listed, a, w, hS, hB, h => by
  obtain ⟨o, ho, h⟩ := h
  simp only [ordFin, Bool.and_eq_true, bne_iff_ne, decide_eq_true_iff] at hB
  obtain ⟨⟨⟨⟨⟨hr, hf⟩, hiz⟩, hk2⟩, hk⟩, hB'⟩ := hB
  have hready : i ∈ Region.ready .any ops listed := by simpa using hr
  have hy : ∃ v, YieldsIn P ops (Dr w) o v a ∧ wpOrd P ops ks S (finQ P ops Q z tail) rest (a.put o.dst v) w := by
   have hko : ks.getD i 2 = 0 ∨ ks.getD i 2 = 1 := by omega
   rcases hko with hko | hko
   ·rw [hko] at h
    obtain ⟨v, hy, hK⟩ := h
    exact ⟨v, yieldsIn_of_if (fun n => hSd w n hS) hy, hK⟩
   ·rw [hko] at h
    exact h
  obtain ⟨v, hy, hK⟩ := hy
  have e : (i :: rest).length + 1 + tail.length = (rest.length + 1 + tail.length) + 1 := by simp; omega
  rw [e]
  have IH := anyF_of_pre hSd hs tail rest _ _ _ hS hB' hK
  simp only [Bool.or_eq_true, beq_iff_eq] at hk
  rcases hk with hk | hk
  ·refine ⟨fun h0 => (by rw [h0] at hk; cases hk), fun j hj oj hoj => ?_⟩
   rw [hk, List.mem_singleton] at hj
   subst hj
   rw [ho] at hoj; injection hoj with hoj; subst hoj
   rw [if_neg hiz]
   exact ⟨v, hy, IH⟩
  ·exact anyF_held (depsHold_spec hk).1 ho hiz (Region.noSelect_spec hs) _ listed a (Region.free_spec ho hf) (depsHold_spec hk).2 hready hy IH
theorem wp_region_fin {id : Nat} {a : Act} {w : World} {l : List Oper} (S : World → Prop) (ks pre : List Nat) (z : Nat) (tail : List Nat) (hm : P.follows .mixedOrders = true) (hB : finOk l.toArray ks z tail pre = true)
  (hSd : ∀ w n, S w → S (w.drewN n)) (hS : S w) (h : wpOrd P l.toArray ks S (finQ P l.toArray Q z tail) pre a w) : (Code.region id l.toArray true).wp P Q a w := by
 simp only [finOk, Bool.and_eq_true, beq_iff_eq] at hB
 refine wp_region_any hm ?_
 have := wpAny_of_anyF _ (Array.replicate l.toArray.size false) a w 1 (anyF_of_pre hSd hB.1.1 tail pre _ a _ hS hB.2 h)
 rw [hB.1.2] at this
 exact this
theorem upto_done {a : Act} {w : World} (h : Q .normal a w) : upto Q (wpSeq P ops Q []) .normal a w := h
theorem fin_now {tail : List Nat} {a : Act} {w : World} (h : ∀ n, wpSeq P ops Q (z :: tail) a (w.drewN n)) : wpOrd P ops ks S (finQ P ops Q z tail) [] a w := h
end
end Go.Mer
namespace Go.Proofs.YtgnkmjeoaoongaaGreatDoor
open Go.RowKit Go.Mer
def failP (k : Int) : List PanicEntry := [{ v := .iface 280 (.agg #[.int .i64 k]), recovered := false }]
def GateP (k : Int) (e : Ending) : Prop := (k = 0 ∧ e = .returned (.tuple #[])) ∨ (k ≠ 0 ∧ e = .panicked (failP k))
theorem gate_any (k : Int) (h0 : 0 ≤ k) (h1 : k < 100) (w : World) : Calls Tryz.prog 160 #[.int .i64 k] w fun e w' => GateP k e ∧ w = w' := by
 obtain ⟨n, rfl⟩ := Int.eq_ofNat_of_zero_le h0
 rcases Nat.eq_zero_or_pos n with rfl | hn
 ·exact (gate_ok w).mono fun e w' h => ⟨.inl ⟨rfl, h.1⟩, h.2⟩
 ·exact (gate_bad n hn (by omega) w).mono fun e w' h => ⟨.inr ⟨by omega, h.1⟩, h.2⟩
theorem five_code {s : DSt} {ns : List ByteArray} {c : Int} {fs : Files} (h0 : 0 ≤ c) (h1 : c < 100) : 0 ≤ (five s ns c fs).1 ∧ (five s ns c fs).1 < 100 := by
 unfold five
 split
 ·show (0 : Int) ≤ 9 ∧ (9 : Int) < 100
  decide
 ·split
  ·split
   ·show (0 : Int) ≤ 0 ∧ (0 : Int) < 100
    decide
   ·exact ⟨h0, h1⟩
  ·show (0 : Int) ≤ 1 ∧ (1 : Int) < 100
   decide
theorem sy_code (s : DSt) (x : ByteArray) : 0 ≤ (syS s x).1 ∧ (syS s x).1 < 100 := by
 refine five_code ?_ ?_ <;> (unfold syCode; split <;> decide)
theorem wr_code (s : DSt) (x : ByteArray) (p : List UInt8) : 0 ≤ (wrS s x p).1 ∧ (wrS s x p).1 < 100 := by
 refine five_code ?_ ?_ <;> (unfold wrCode; split <;> decide)
theorem LogC.lastSeg {w : World} {l d : Nat} {P : ByteArray} {sv ev : Value} {S1 : List (Nat × Nat)} {z : Nat × Nat} {E : List Row} {synced : Nat} {dead : Bool} (h : LogC w l d P sv ev (S1 ++ [z]) E synced dead) :
  ∃ g off n cap, sv = .slice (some ⟨g, off, none⟩) n cap ∧ n = S1.length + 1 ∧ (n : Int) ≤ 9223372036854775807 ∧ g < w.heap.size ∧ (∀ i, w.frozen? ⟨g, i, none⟩ = false) ∧
   (∀ W, Kp No w W → W.cell? ⟨g, off + S1.length * 2, none⟩ = some (.string (bnm P z.1))) ∧ ∀ W, Kp No w W → W.cell? ⟨g, off + S1.length * 2 + 1, none⟩ = some (.int .i64 (z.2 : Int)) := by
 obtain ⟨sa, sc, rfl, hsc, hsr⟩ := h.segs.rd
 obtain ⟨g, off, rfl, hg, hfz⟩ := h.segs.place (by simp)
 obtain ⟨g', off', hg', hc⟩ := rd_chunk (segC_len P) (by decide) hsr (k := S1.length) (by simp)
 injection hg' with hg'
 injection hg' with e1 e2
 subst e1; subst e2
 have hget : (S1 ++ [z])[S1.length]'(by simp) = z := by simp
 rw [hget] at hc
 have hmx : (((S1 ++ [z]).length : Nat) : Int) ≤ 9223372036854775807 := by
  obtain ⟨_, a', cap', hv', q1, q2, _⟩ := h.segs
  simp only [maxLen] at q2
  omega
 refine ⟨g, off, _, sc, rfl, by simp, hmx, hg, hfz, fun W hW => ?_, fun W hW => hc W hW 1 _ rfl⟩
 have := hc W hW 0 _ rfl
 rwa [Nat.add_zero] at this
end Go.Proofs.YtgnkmjeoaoongaaGreatDoor
namespace Go.Proofs.YtgnkmjeoaoongaaGreatDoor
open Go.RowKit Go.Mer
structure WAt (w : World) (d l : Nat) (P : ByteArray) (s : DSt) (st : LSt) (F G : Nat → Prop) : Prop where
 disk : DiskAt w d s F
 log : LogAt w l d P st G
 sep : ∀ k, F k → ¬ G k
def Both (F G : Nat → Prop) : Nat → Prop := fun k => F k ∨ G k
def SaidW (w : World) (d l : Nat) (P : ByteArray) (F G : Nat → Prop) (s' : DSt) (st' : LSt) (w' : World) : Prop :=
 ∃ F' G', WAt w' d l P s' st' F' G' ∧ Foot F F' w ∧ Foot G G' w ∧ Kp (Both F G) w w'
theorem DiskAt.lt {w : World} {d : Nat} {s : DSt} {F : Nat → Prop} (h : DiskAt w d s F) : ∀ k, F k → k < w.heap.size := by
 obtain ⟨_, _, _, _, _, _, _, _, hF⟩ := h
 exact hF
theorem LogAt.lt {w : World} {l d : Nat} {P : ByteArray} {st : LSt} {G : Nat → Prop} (h : LogAt w l d P st G) : ∀ k, G k → k < w.heap.size := by
 obtain ⟨_, _, _, _, _, _, hG⟩ := h
 exact hG
theorem WAt.turnD {w w' : World} {d l : Nat} {P : ByteArray} {s s' : DSt} {st : LSt} {F G F' : Nat → Prop} (h : WAt w d l P s st F G) (hD : DiskAt w' d s' F') (hF : Foot F F' w) (hk : Kp F w w') : WAt w' d l P s' st F' G :=
 ⟨hD, h.log.keep hk fun k hg hf => h.sep k hf hg, fun k hf hg => by
  rcases hF k hf with h1 | h1
  ·exact h.sep k h1 hg
  ·have := h.log.lt k hg; omega⟩
theorem WAt.turnL {w w' : World} {d l : Nat} {P : ByteArray} {s : DSt} {st st' : LSt} {F G G' : Nat → Prop} (h : WAt w d l P s st F G) (hL : LogAt w' l d P st' G') (hG : Foot G G' w) (hk : Kp G w w') : WAt w' d l P s st' F G' :=
 ⟨h.disk.keep hk fun k hf hg => h.sep k hf hg, hL, fun k hf hg => by
  rcases hG k hg with h1 | h1
  ·exact h.sep k hf h1
  ·have := h.disk.lt k hf; omega⟩
theorem WAt.no {w w' : World} {d l : Nat} {P : ByteArray} {s : DSt} {st : LSt} {F G : Nat → Prop} (h : WAt w d l P s st F G) (hk : Kp No w w') : WAt w' d l P s st F G := ⟨h.disk.keep_no hk, h.log.keep_no hk, h.sep⟩
theorem SaidW.here {w w' : World} {d l : Nat} {P : ByteArray} {s : DSt} {st : LSt} {F G : Nat → Prop} (h : WAt w d l P s st F G) (hk : Kp No w w') : SaidW w d l P F G s st w' := ⟨F, G, h.no hk, Foot.refl _ _, Foot.refl _ _, Kp.of_no hk⟩
theorem SaidW.trans {w a b : World} {d l : Nat} {P : ByteArray} {s1 s2 : DSt} {st1 st2 : LSt} {F G : Nat → Prop} (h : ∃ F' G', WAt a d l P s1 st1 F' G' ∧ Foot F F' w ∧ Foot G G' w ∧ Kp (Both F G) w a ∧ SaidW a d l P F' G' s2 st2 b) : SaidW w d l P F G s2 st2 b := by
 obtain ⟨F', G', h1, h2, h3, h4, F2, G2, k1, k2, k3, k4⟩ := h
 refine ⟨F2, G2, k1, h2.trans k2 h4.size, h3.trans k3 h4.size, h4.trans k4 fun i hi hb => ?_⟩
 rcases hb with hb | hb
 ·rcases h2 i hb with x | x
  ·exact .inl x
  ·omega
 ·rcases h3 i hb with x | x
  ·exact .inr x
  ·omega
theorem LogC.cells {w : World} {l d : Nat} {P : ByteArray} {sv ev : Value} {S : List (Nat × Nat)} {E : List Row} {synced : Nat} {dead : Bool} (h : LogC w l d P sv ev S E synced dead) :
  (∀ W, Kp No w W → W.cell? ⟨l, 0, none⟩ = some (.pointer (some ⟨d, 0, none⟩))) ∧ (∀ W, Kp No w W → W.cell? ⟨l, 1, none⟩ = some (.string P)) ∧ (∀ W, Kp No w W → W.cell? ⟨l, 2, none⟩ = some sv) ∧ (∀ W, Kp No w W → W.cell? ⟨l, 3, none⟩ = some ev) ∧
   (∀ W, Kp No w W → W.cell? ⟨l, 4, none⟩ = some (.int .i64 (synced : Int))) ∧ (∀ W, Kp No w W → W.cell? ⟨l, 5, none⟩ = some (.bool dead)) ∧ ∀ W, Kp No w W → ∀ i, W.frozen? ⟨l, i, none⟩ = false :=
 ⟨fun W hW => by rw [cell_at (h.keep_no hW).cell]; rfl, fun W hW => by rw [cell_at (h.keep_no hW).cell]; rfl, fun W hW => by rw [cell_at (h.keep_no hW).cell]; rfl, fun W hW => by rw [cell_at (h.keep_no hW).cell]; rfl,
  fun W hW => by rw [cell_at (h.keep_no hW).cell]; rfl, fun W hW => by rw [cell_at (h.keep_no hW).cell]; rfl, fun W hW i => free_at (h.keep_no hW).cell i⟩
set_option maxRecDepth 100000 in
set_option maxHeartbeats 4000000 in
theorem syncs_any (w : World) (d l : Nat) (P : ByteArray) (s : DSt) (st : LSt) (F G : Nat → Prop) (h : WAt w d l P s st F G) (hne : st.segs = [] → st.ents.length ≤ st.synced) :
  Calls Tryz.prog 185 #[.pointer (some ⟨l, 0, none⟩)] w fun e w' => SaidW w d l P F G (syncsS P s st).2.1 (syncsS P s st).2.2 w' ∧ GateP (syncsS P s st).1 e := by
 obtain ⟨sv, ev, E, hC, hE, hLF, hGl⟩ := h.log
 obtain ⟨ea, ec, rfl, hec, _⟩ := hC.ents.rd
 obtain ⟨c0, _, c2, c3, c4, _, fr⟩ := hC.cells
 have hll := get_lt hC.cell
 obtain ⟨n, hn⟩ : ∃ n, n = E.length := ⟨_, rfl⟩
 have hnl : st.ents.length = n := by rw [hE, List.length_map, hn]
 rw [← hn] at c3
 obtain ⟨y, hy⟩ : ∃ y, y = st.synced := ⟨_, rfl⟩
 rw [← hy] at c4
 have H := Lib.hid h
 by_cases hlt : y < n
 ·rcases List.eq_nil_or_concat st.segs with hsg | ⟨S1, z, hsg⟩
  ·have := hne hsg
   omega
  ·rw [List.concat_eq_append] at hsg
   obtain ⟨sg, soff, sn, sc, rfl, hsn, hsnb, hsgl, _, hsc0, _⟩ := LogC.lastSeg (by rw [hsg] at hC; exact hC)
   obtain ⟨m2, hm2⟩ : ∃ m2, m2 = S1.length := ⟨_, rfl⟩
   rw [← hm2] at hsn hsc0
   have hms : m2 < sn := by omega
   have hw3 : (sn : Int) - 1 = (m2 : Int) := by omega
   obtain ⟨zn, hzn⟩ : ∃ zn, zn = bnm P z.1 := ⟨_, rfl⟩
   rw [← hzn] at hsc0
   have hsy : syncsS P s st = ((syS s zn).1, (syS s zn).2, if (syS s zn).1 = 0 then { st with synced := st.ents.length } else st) := by
    unfold syncsS
    rw [if_pos (by rw [← hy, hnl]; exact hlt), hsg, List.getLast?_append]
    simp only [List.getLast?_singleton, Option.some_or]
    rw [← hzn]
   have e1 : decide ((y : Int) < (n : Int)) = true := by rw [decide_eq_true_iff]; omega
   have HSY := Lib.hid hsy
   have HC := Lib.hid hC
   have HE := Lib.hid hE
   have HLF := Lib.hid hLF
   have HN := Lib.hid hn
   have HNL := Lib.hid hnl
   clear h hC hE hLF hGl hsg hm2 hsn hzn hsy hn hnl hy hne
   go_enter Tryz.func185, Tryz.ntmps185
   go_upto_region 0 with fail
   refine wp_region_held' (Kp No _) [0,0,0,0,0,0,0,0,1,0] [0,1,2,3,4,5,6,7,8,9] (by kernel_rfl) (by kernel_rfl) (fun _ n h => h.drewN n) (Kp.refl _ _) ?_
   repeat (first
    | (apply wpOrd_skip rfl (by decide) rfl; (focus (go_simp; rfl)))
    | (apply wpOrd_pure rfl rfl rfl; (focus (intro _ _; go_simp; (try go_ints); rfl)); (focus (go_simp; rfl)))
    | (apply wpOrd_read rfl rfl rfl; (focus (intro _; go_simp; (try go_ints); rfl)); (focus (go_simp; rfl))))
   refine wpOrd_nil (fun nq => ?_)
   have hkq : Kp No w (w.drewN nq) := (Kp.refl No w).drewN nq
   obtain ⟨w9, hw9⟩ : ∃ W, W = w.drewN nq := ⟨_, rfl⟩
   rw [← hw9] at hkq ⊢
   have d0 : ∀ W, Kp No w9 W → W.cell? ⟨l, 0, none⟩ = some (.pointer (some ⟨d, 0, none⟩)) := fun W hW => c0 W (hkq.trans_same hW)
   have d2 : ∀ W, Kp No w9 W → W.cell? ⟨l, 2, none⟩ = some (.slice (some ⟨sg, soff, none⟩) sn sc) := fun W hW => c2 W (hkq.trans_same hW)
   have dz : ∀ W, Kp No w9 W → W.cell? ⟨sg, soff + m2 * 2, none⟩ = some (.string zn) := fun W hW => hsc0 W (hkq.trans_same hW)
   have HC3 := Lib.hid c3
   have HC4 := Lib.hid c4
   have HKQ := Lib.hid hkq
   clear hw9 c0 c2 hsc0 c3 c4 hkq
   go_upto_region 1 with fail
   refine wp_region_fin (Kp No w9) [0,0,0,0,0,0,0,0,0,0,0,0,1,0,0,0,0,2,2] [0,1,2,3,4,5,6,7,8,9,10,11,12,13,14,15,16] 17 [18] (by kernel_rfl) (by kernel_rfl) (fun _ n h => h.drewN n) (Kp.refl _ _) ?_
   repeat (first
    | (apply wpOrd_skip rfl (by decide) rfl; (focus (go_simp; rfl)))
    | (apply wpOrd_pure rfl rfl rfl; (focus (intro _ _; go_simp; (try go_ints); rfl)); (focus (go_simp; rfl)))
    | (apply wpOrd_read rfl rfl rfl; (focus (intro _; go_simp; (try go_ints); rfl)); (focus (go_simp; rfl))))
   refine fin_now (fun n1 => ?_)
   refine wpSeq_step rfl ?_
   have hc := Sync_any (w9.drewN n1) d s F (H.out.disk.keep_no (HKQ.out.drewN n1)) zn
   obtain ⟨q, hq⟩ : ∃ q, q = syS s zn := ⟨_, rfl⟩
   have hqc := sy_code s zn
   have hsy := HSY.out
   rw [← hq] at hc hqc hsy
   have HQ := Lib.hid hsy
   clear hq hsy HSY
   go_wp2_with fail
   with_reducible refine hc.mono ?_
   rintro e w1 ⟨rfl, F1, hD1, hF1, hK1⟩
   clear hc
   have hW1 : WAt w1 d l P q.2 st F1 G := (H.out.no HKQ.out).turnD hD1 (fun k hk => hF1 k hk) hK1.of_drewN
   obtain ⟨qc, hqe⟩ : ∃ qc, qc = q.1 := ⟨_, rfl⟩
   rw [← hqe] at hqc ⊢
   have hKall : Kp F w w1 := (Kp.of_no HKQ.out).trans_same hK1.of_drewN
   have hFall : Foot F F1 w := fun k hk => (hF1 k hk).imp id fun h => Nat.le_trans HKQ.out.size h
   have hgp1 := fun k hk => H.out.sep k hk
   have HW1 := Lib.hid hW1
   have HKA := Lib.hid hKall
   have HFA := Lib.hid hFall
   have HQE := Lib.hid hqe
   clear hD1 hF1 hK1 hW1 hKall hFall hqe hgp1
   go_wp2_with fail
   refine wpSeq_step rfl ?_
   have hg := gate_any qc hqc.1 hqc.2 w1
   clear hqc
   go_wp2_with fail
   with_reducible refine hg.mono ?_
   rintro e w' ⟨hgp, rfl⟩
   clear hg
   rcases hgp with ⟨hz, rfl⟩ | ⟨hz, rfl⟩
   ·go_wp2_with fail
    refine upto_done ?_
    have hnl : ∀ k, LFP l (.slice (some ⟨sg, soff, none⟩) sn sc) (.slice ea E.length ec) E k → ¬ F k := fun k hk hf => H.out.sep k hf (HLF.out k hk)
    have hC1 := HC.out.keep HKA.out hnl
    have hLR : LRun w1 w1 l d P _ _ st.segs E st.synced st.dead G := ⟨hC1, fun k hk => .inl (HLF.out k hk), Kp.refl _ _⟩
    obtain ⟨_, _, _, g3, g4, _, gfr⟩ := hC1.cells
    have g3' := g3 w1 (Kp.refl _ _)
    have g4' := g4 w1 (Kp.refl _ _)
    have gf := gfr w1 (Kp.refl _ _) 4
    rw [← HN.out] at g3'
    have hcl := set_at hC1.cell 4 (.int .i64 (n : Int))
    have hLR2 := hLR.flag (synced' := n) (dead' := st.dead) (W' := w1.setCell ⟨l, 4, none⟩ (.int .i64 (n : Int))) ((Kp.refl (One l) _).setCell (p := ⟨l, 4, none⟩) (.inl rfl) _) (by simpa using hcl)
    obtain ⟨G2, hL2, hG2, hK2⟩ := hLR2.stop
    have hll1 := HKA.out.lt hll
    have hW2 := HW1.out.turnL hL2 hG2 hK2
    have HFIN := Lib.hid (show SaidW w d l P F G (syncsS P s st).2.1 (syncsS P s st).2.2 (w1.setCell ⟨l, 4, none⟩ (.int .i64 (n : Int))) ∧ GateP (syncsS P s st).1 (.returned (.tuple #[])) from by
     rw [HQ.out]
     simp only
     rw [if_pos (by rw [← HQE.out]; exact hz)]
     refine ⟨⟨F1, G2, ?_, HFA.out, fun k hk => (hG2 k hk).imp id fun h => Nat.le_trans HKA.out.size h, ?_⟩, .inl ⟨by rw [← HQE.out]; exact hz, rfl⟩⟩
     ·rw [← HE.out] at hW2
      rw [HNL.out]
      exact hW2
     ·exact (HKA.out.mono (T := Both F G) fun _ _ x => .inl x).trans hK2 fun i _ x => .inr x)
    clear hC1 hLR hcl hLR2 hL2 hG2 hK2 hW2 hnl g3 g4 gfr
    go_wp2_with fail
    exact bodyPost_end (results_none rfl _ _ _) rfl HFIN.out
   ·refine ⟨rfl, ?_⟩
    rw [HQ.out]
    simp only
    rw [if_neg (by rw [← HQE.out]; exact hz)]
    exact ⟨⟨F1, G, HW1.out, HFA.out, Foot.refl _ _, HKA.out.mono fun _ _ x => .inl x⟩, .inr ⟨by rw [← HQE.out]; exact hz, by rw [← HQE.out]⟩⟩
 ·have hsy : syncsS P s st = (0, s, st) := by
   unfold syncsS
   rw [if_neg (by rw [← hy, hnl]; exact hlt)]
  have e1 : decide ((y : Int) < (n : Int)) = false := by rw [decide_eq_false_iff_not]; omega
  have HSY := Lib.hid hsy
  clear h hC hE hLF hGl hsy hn hnl hy hne c0 c2 fr
  go_enter Tryz.func185, Tryz.ntmps185
  go_upto_region 0 with fail
  refine wp_region_held' (Kp No _) [0,0,0,0,0,0,0,0,1,0] [0,1,2,3,4,5,6,7,8,9] (by kernel_rfl) (by kernel_rfl) (fun _ n h => h.drewN n) (Kp.refl _ _) ?_
  repeat (first
   | (apply wpOrd_skip rfl (by decide) rfl; (focus (go_simp; rfl)))
   | (apply wpOrd_pure rfl rfl rfl; (focus (intro _ _; go_simp; (try go_ints); rfl)); (focus (go_simp; rfl)))
   | (apply wpOrd_read rfl rfl rfl; (focus (intro _; go_simp; (try go_ints); rfl)); (focus (go_simp; rfl))))
  refine wpOrd_nil (fun nq => ?_)
  go_wp2_with fail
  refine bodyPost_end (results_none rfl _ _ _) rfl ?_
  rw [HSY.out]
  exact ⟨SaidW.here H.out ((Kp.refl No w).drewN nq), .inl ⟨rfl, rfl⟩⟩
end Go.Proofs.YtgnkmjeoaoongaaGreatDoor
namespace Go.Proofs.YtgnkmjeoaoongaaGreatDoor
open Go.RowKit Go.Mer
def ptrN (b : Nat) : Value := .pointer (some ⟨b, 0, none⟩)
def stCells (d l : Nat) (P : ByteArray) (o : Nat) (st : SSt) (m : Nat) (kv : Value) : Array Value :=
 #[ptrN d, ptrN l, .string P, .int .i64 (o : Int), .int .i64 (st.age : Int), .int .i64 (st.n : Int), .bool st.dead, .map (some m), .int .i64 st.mm, .int .i64 st.mc,
  .int .i64 (ofAt st.of 0).seq, .int .i64 (ofAt st.of 0).m, .int .i64 (ofAt st.of 0).c, .int .i64 (ofAt st.of 1).seq, .int .i64 (ofAt st.of 1).m, .int .i64 (ofAt st.of 1).c,
  .int .i64 (ofAt st.of 2).seq, .int .i64 (ofAt st.of 2).m, .int .i64 (ofAt st.of 2).c, .int .i64 (ofAt st.of 3).seq, .int .i64 (ofAt st.of 3).m, .int .i64 (ofAt st.of 3).c,
  .int .i64 (ofAt st.of 4).seq, .int .i64 (ofAt st.of 4).m, .int .i64 (ofAt st.of 4).c, kv]
abbrev ChL := List (ByteArray × ChR)
def cptrL (cs : ChL) : List (ByteArray × Value) := cs.map fun p => (p.1, ptrN p.2.b)
def keysL2 (cs : ChL) : List (ByteArray × List VerS) := cs.map fun p => (p.1, p.2.vs)
structure ChsOk (t : TypeId) (w : World) (cs : ChL) : Prop where
 each : ∀ p ∈ cs, ChOk t w p.2
 blks : (cs.map (·.2.b)).Nodup
 rows : (cs.filterMap (·.2.row.ownBlock)).Nodup
 keys : (cs.map (·.1)).Nodup
structure KeptC (w : World) (ka : Option Addr) (kc : Nat) (K : List RecR) : Prop where
 own : Own w 46 9 (.slice ka K.length kc) K.length (K.flatMap recC)
 vals : ∀ x ∈ K, x.ok w
structure StC (w : World) (s d l : Nat) (P : ByteArray) (o : Nat) (st : SSt) (m : Nat) (cs : ChL) (ka : Option Addr) (kc : Nat) (K : List RecR) : Prop where
 cell : w.heap[s]? = some (.cells (stCells d l P o st m (.slice ka K.length kc)) 133 (0, 0))
 map : GMap Value.string w m (cptrL cs)
 chs : ChsOk 203 w cs
 kept : KeptC w ka kc K
 perm : (keysL2 cs).Perm st.keys
 keptD : st.kept = K.map RecR.r
def ChsF (cs : ChL) : Nat → Prop := fun k => ∃ p ∈ cs, ChF p.2 k
def KeptF (ka : Option Addr) (kc : Nat) (K : List RecR) : Nat → Prop := fun k => (Value.slice ka K.length kc).ownBlock = some k ∨ ∃ x ∈ K, x.sl.ownBlock = some k
def StF (s m : Nat) (cs : ChL) (ka : Option Addr) (kc : Nat) (K : List RecR) : Nat → Prop := fun k => k = s ∨ k = m ∨ ChsF cs k ∨ KeptF ka kc K k
def StM (w : World) (s d l : Nat) (P : ByteArray) (o : Nat) (st : SSt) (H : Nat → Prop) : Prop :=
 ∃ m cs ka kc K, StC w s d l P o st m cs ka kc K ∧ (∀ k, StF s m cs ka kc K k → H k) ∧ ∀ k, H k → k < w.heap.size
section
variable {t : TypeId} {w w' : World} {cs : ChL} {ka : Option Addr} {kc : Nat} {K : List RecR} {s d l o m : Nat} {P : ByteArray} {st : SSt}
theorem ChsOk.keep {S : Nat → Prop} (h : ChsOk t w cs) (hk : Kp S w w') (hS : ∀ k, ChsF cs k → ¬ S k) : ChsOk t w' cs :=
 { h with each := fun p hp => (h.each p hp).keep hk fun k hf => hS k ⟨p, hp, hf⟩ }
theorem KeptC.keep {S : Nat → Prop} (h : KeptC w ka kc K) (hk : Kp S w w') (hS : ∀ k, KeptF ka kc K k → ¬ S k) : KeptC w' ka kc K :=
 ⟨h.own.keep hk fun g hg => hS g (.inl hg), fun x hx => VerR.ok.keep (h.vals x hx) hk fun g hg => hS g (.inr ⟨x, hx, hg⟩)⟩
theorem StC.keep {S : Nat → Prop} (h : StC w s d l P o st m cs ka kc K) (hk : Kp S w w') (hS : ∀ k, StF s m cs ka kc K k → ¬ S k) : StC w' s d l P o st m cs ka kc K :=
 { h with
  cell := hk.get h.cell (hS s (.inl rfl))
  map := h.map.of_heap (hk.block m h.map.lt (hS m (.inr (.inl rfl))))
  chs := h.chs.keep hk fun k hf => hS k (.inr (.inr (.inl hf)))
  kept := h.kept.keep hk fun k hf => hS k (.inr (.inr (.inr hf))) }
theorem StC.keep_no (h : StC w s d l P o st m cs ka kc K) (hk : Kp No w w') : StC w' s d l P o st m cs ka kc K := h.keep hk fun _ _ x => x
theorem ChsOk.lt (h : ChsOk t w cs) : ∀ k, ChsF cs k → k < w.heap.size := by
 rintro k ⟨p, hp, hf⟩
 exact (h.each p hp).lt k hf
theorem KeptC.lt (h : KeptC w ka kc K) : ∀ k, KeptF ka kc K k → k < w.heap.size := by
 rintro k (hk | ⟨x, hx, hk⟩)
 ·exact h.own.lt k hk
 ·exact Own.lt (h.vals x hx) k hk
theorem StC.lt (h : StC w s d l P o st m cs ka kc K) : ∀ k, StF s m cs ka kc K k → k < w.heap.size := by
 rintro k (rfl | rfl | hk | hk)
 ·exact get_lt h.cell
 ·exact h.map.lt
 ·exact h.chs.lt k hk
 ·exact h.kept.lt k hk
theorem StM.keep {S H : Nat → Prop} (h : StM w s d l P o st H) (hk : Kp S w w') (hS : ∀ k, H k → ¬ S k) : StM w' s d l P o st H := by
 obtain ⟨m, cs, ka, kc, K, h1, h2, h3⟩ := h
 exact ⟨m, cs, ka, kc, K, h1.keep hk (fun k hf => hS k (h2 k hf)), h2, fun k hf => hk.lt (h3 k hf)⟩
theorem StM.keep_no {H : Nat → Prop} (h : StM w s d l P o st H) (hk : Kp No w w') : StM w' s d l P o st H := h.keep hk fun _ _ x => x
theorem StM.lt {H : Nat → Prop} (h : StM w s d l P o st H) : ∀ k, H k → k < w.heap.size := by
 obtain ⟨_, _, _, _, _, _, _, h⟩ := h
 exact h
theorem keys_cptr (cs : ChL) : (cptrL cs).map (·.1) = cs.map (·.1) := keys_mapv (fun c : ChR => ptrN c.b) cs
theorem keys_keysL2 (cs : ChL) : (keysL2 cs).map (·.1) = cs.map (·.1) := keys_mapv ChR.vs cs
theorem StC.s_ne_m (h : StC w s d l P o st m cs ka kc K) : s ≠ m := by
 obtain ⟨es, c, hm, _⟩ := h.map
 exact ne_of_map h.cell hm
theorem StC.s_apart (h : StC w s d l P o st m cs ka kc K) : ¬ ChsF cs s ∧ ¬ KeptF ka kc K s := by
 refine ⟨?_, ?_⟩
 ·rintro ⟨p, hp, hs | hs | ⟨x, hx, hs⟩⟩
  ·exact ne_of_type h.cell (h.chs.each p hp).cell (by decide) hs
  ·obtain ⟨cur, hc⟩ := (h.chs.each p hp).own.type s hs
   exact ne_of_type h.cell hc (by decide) rfl
  ·obtain ⟨cur, hc⟩ := Own.type ((h.chs.each p hp).vals x hx) s hs
   exact ne_of_type h.cell hc (by decide) rfl
 ·rintro (hs | ⟨x, hx, hs⟩)
  ·obtain ⟨cur, hc⟩ := h.kept.own.type s hs
   exact ne_of_type h.cell hc (by decide) rfl
  ·obtain ⟨cur, hc⟩ := Own.type (h.kept.vals x hx) s hs
   exact ne_of_type h.cell hc (by decide) rfl
theorem StC.turn {d' l' o' : Nat} {P' : ByteArray} {st' : SSt} (h : StC w s d l P o st m cs ka kc K) (hk : Kp (Mer.One s) w w') (hc : w'.heap[s]? = some (.cells (stCells d' l' P' o' st' m (.slice ka K.length kc)) 133 (0, 0))) (h1 : st'.keys = st.keys) (h2 : st'.kept = st.kept) : StC w' s d' l' P' o' st' m cs ka kc K :=
 ⟨hc, h.map.of_heap (hk.block m h.map.lt fun e => h.s_ne_m (show m = s from e).symm), h.chs.keep hk fun k hf e => h.s_apart.1 ((show k = s from e) ▸ hf), h.kept.keep hk fun k hf e => h.s_apart.2 ((show k = s from e) ▸ hf), by rw [h1]; exact h.perm, by rw [h2]; exact h.keptD⟩
end
theorem StC.at_ {w : World} {s d l o m : Nat} {P : ByteArray} {st : SSt} {cs : ChL} {ka : Option Addr} {kc : Nat} {K : List RecR} (h : StC w s d l P o st m cs ka kc K) {W : World} (hW : Kp No w W) (i : Nat) :
  W.cell? ⟨s, i, none⟩ = (stCells d l P o st m (.slice ka K.length kc))[i]? := cell_at (hW.get h.cell fun x => x) i
theorem kindStrC : Tryz.prog.underlying 9 = some .string := Tryz.underlying9
theorem zeroCPtr (w : World) : (zeroValue 134).run Tryz.prog w = .ok (.pointer none) w := by kernel_rfl
theorem look_chain {w : World} {m : Nat} {l : List (ByteArray × Value)} (h : GMap Value.string w m l) (k : ByteArray) :
  (Instr.lookup 128 (.map (some m)) (.string k) false).run Tryz.prog w = .ok ((gget l k).getD (.pointer none)) w :=
 (run_lookup_g Tryz.underlying128 kindStr strKey strInj zeroCPtr h k).1
theorem gget_cptr (cs : ChL) (k : ByteArray) : gget (cptrL cs) k = (gget cs k).map fun c => ptrN c.b := gget_mapv (fun c : ChR => ptrN c.b) cs k
theorem gget_keysL2 (cs : ChL) (k : ByteArray) : gget (keysL2 cs) k = (gget cs k).map ChR.vs := gget_mapv ChR.vs cs k
theorem gget_perm {β : Type} {l l' : List (ByteArray × β)} (hp : l.Perm l') (hn : (l.map (·.1)).Nodup) (k : ByteArray) : gget l k = gget l' k := by
 have hn' : (l'.map (·.1)).Nodup := (hp.map (·.1)).nodup_iff.1 hn
 cases h : gget l k with
 | none =>
  rw [gget_none_iff] at h
  exact (gget_none fun hm => h (((hp.map (·.1)).mem_iff).2 hm)).symm
 | some v => exact (gget_some hn' (hp.mem_iff.1 (gget_mem h))).symm
theorem StC.chain {w : World} {s d l o m : Nat} {P : ByteArray} {st : SSt} {cs : ChL} {ka : Option Addr} {kc : Nat} {K : List RecR} (h : StC w s d l P o st m cs ka kc K) (k : ByteArray) :
  gget st.keys k = (gget cs k).map ChR.vs := by
 rw [← gget_perm h.perm (by rw [keys_keysL2]; exact h.chs.keys) k, gget_keysL2]
end Go.Proofs.YtgnkmjeoaoongaaGreatDoor

