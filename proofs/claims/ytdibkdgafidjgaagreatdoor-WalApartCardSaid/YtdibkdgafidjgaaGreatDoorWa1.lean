/-
  Texts laid together: Region, Mem, Maps, Disk.
-/
import Derived.Deep.Quiet
import Derived.OrdersHeld
import Derived.Tactics2
import Derived.KernelRfl
import Derived.WalkKit
import Derived.ArgAppend
import Derived.Laws.OwnMore
import Derived.Maps.RangeRun
import Derived.Lib.Hide
import Derived.Deep.Draws
import Derived.Maps.OwnOps
import Derived.Test.YtdibkdgafidjgaaGreatDoorProg
namespace Go.Mer
open Go
def depsOn (ops : Array Oper) (i : Nat) : Array Bool :=
 (List.range ops.size).foldl (fun acc j => acc.push (match ops[j]? with
  | some o => o.after.any fun e => Region.binds .any e && (e.on == i || acc.getD e.on false)
  | none => false)) #[]
def depsOk (ops : Array Oper) (ks : List Nat) (listed dep : Array Bool) (i : Nat) : Bool :=
 (List.range ops.size).all fun j =>
  (!dep.getD j false || (j != i && !listed.getD j true && match ops[j]? with
   | some o => o.after.any fun e => Region.binds .any e && (e.on == i || dep.getD e.on false)
   | none => false)) &&
  (dep.getD j false || j == i || listed.getD j true || ks.getD j 2 != 2)
def ordFrom (ops : Array Oper) (ks : List Nat) : List Nat → Array Bool → Bool
 | [], listed => (Region.ready .any ops listed).isEmpty
 | i :: rest, listed =>
  (Region.ready .any ops listed).contains i && Region.free .any ops listed i &&
  (match ks.getD i 2 with
   | 0 => true
   | 1 => depsOk ops ks listed (depsOn ops i) i
   | 2 => Region.ready .any ops listed == [i]
   | _ => false) &&
  ordFrom ops ks rest (listed.setIfInBounds i true)
def ordB (ops : Array Oper) (ks ord : List Nat) : Bool := Region.noSelect ops && ord.length == ops.size && ordFrom ops ks ord (Array.replicate ops.size false)
def Dr (w : World) : World → Prop := fun w' => ∃ n, w' = w.drewN n
section
variable {P : Program} {ops : Array Oper} {Q : Exit → Act → World → Prop} {S : World → Prop} {ks : List Nat}
def anyK (P : Program) (ops : Array Oper) (ks : List Nat) (S : World → Prop) (Q : Exit → Act → World → Prop) : Nat → Array Bool → Act → World → Prop
 | 0, listed, a, w => Region.ready .any ops listed = [] ∧ ∀ n, Q .normal a (w.drewN n)
 | fuel + 1, listed, a, w =>
  (Region.ready .any ops listed = [] → ∀ n, Q .normal a (w.drewN n)) ∧
  ∀ i ∈ Region.ready .any ops listed, ∀ o, ops[i]? = some o →
   if ks.getD i 2 = 2 then ∀ n, wpOp P ops Q i (fun a' w' => S w' ∧ anyK P ops ks S Q fuel (listed.setIfInBounds i true) a' w') a (w.drewN n)
   else ∃ v, YieldsIn P ops (Dr w) o v a ∧ anyK P ops ks S Q fuel (listed.setIfInBounds i true) (a.put o.dst v) w
theorem wpAny_of_anyK : ∀ (fuel : Nat) (listed : Array Bool) (a : Act) (w : World) (n : Nat), anyK P ops ks S Q fuel listed a w → wpAny P .any ops Q fuel listed a (w.drewN n)
 | 0, _, _, _, n, h => ⟨h.1, h.2 n⟩
 | fuel + 1, listed, a, w, n, h => by
  refine ⟨fun h0 => h.1 h0 n, fun i hi => ?_⟩
  obtain ⟨_, o, ho, _⟩ := mem_ready.1 hi
  have h2 := h.2 i hi o ho
  split at h2
  ·exact wpOp_mono (fun a w hh => wpAny_of_anyK fuel _ a w 0 hh.2) (h2 n)
  ·obtain ⟨v, hy, hk⟩ := h2
   exact wpOp_of_qOp (C := Dr w) (K := fun a => anyK P ops ks S Q fuel (listed.setIfInBounds i true) a w) ⟨n, rfl⟩ (fun a' w' ⟨m, hw'⟩ hh => by subst hw'; exact wpAny_of_anyK fuel _ a' w m hh) (hy.qOp ho hk)
theorem yieldsIn_of_if {w : World} {o : Oper} {v : Value} {a : Act} (hS : ∀ n, S (w.drewN n)) (h : YieldsIf P ops S o v a) : YieldsIn P ops (Dr w) o v a :=
 h.imp (fun ⟨x, y⟩ => ⟨x, fun w' ⟨n, hn⟩ => by subst hn; unfold Oper.quietAt; rw [y _ (hS n)]; exact ⟨rfl, rfl⟩⟩) id
theorem anyK_held {i : Nat} {oi : Oper} {v : Value} (hSd : ∀ w n, S w → S (w.drewN n)) (hi : ops[i]? = some oi) (hki : ks.getD i 2 ≠ 2) (hsel : ∀ (j : Nat) (o : Oper) cs b, ops[j]? = some o → o.op ≠ .select cs b)
  (hQ : ∀ c a w, Q (.panic c) (a.put oi.dst v) w → Q (.panic c) a w) :
  ∀ (fuel : Nat) (listed : Array Bool) (a : Act) (w : World), S w →
   (∀ j oj, ops[j]? = some oj → j ≠ i → listed.getD j true = false → (∀ e ∈ oj.after, Region.binds .any e = true → e.on ≠ i) → oi.apart ops oj = true) →
   i ∈ Region.ready .any ops listed → YieldsIf P ops S oi v a →
   anyK P ops ks S Q fuel (listed.setIfInBounds i true) (a.put oi.dst v) w → anyK P ops ks S Q (fuel + 1) listed a w := by
 intro fuel
 induction fuel with
 | zero =>
  intro listed a w hS _ hr hy H
  refine ⟨fun h => (by rw [h] at hr; cases hr), fun j hj o ho => ?_⟩
  by_cases hji : j = i
  ·subst hji
   rw [hi] at ho; injection ho with ho; subst ho
   rw [if_neg hki]
   exact ⟨v, yieldsIn_of_if (fun n => hSd w n hS) hy, H⟩
  ·have := ready_mono hj hji
   rw [H.1] at this
   cases this
 | succ fuel ih =>
  intro listed a w hS hfree hr hy H
  refine ⟨fun h => (by rw [h] at hr; cases hr), fun j hj o ho => ?_⟩
  by_cases hji : j = i
  ·subst hji
   rw [hi] at ho; injection ho with ho; subst ho
   rw [if_neg hki]
   exact ⟨v, yieldsIn_of_if (fun n => hSd w n hS) hy, H⟩
  ·have h1 := H.2 j (ready_mono hj hji) o ho
   obtain ⟨hjun, oj, hoj, hall⟩ := mem_ready.1 hj
   rw [ho] at hoj; injection hoj with hoj; subst hoj
   have hnot : ∀ e ∈ o.after, Region.binds .any e = true → e.on ≠ i := fun e he hb heq => by
    have h1 := hall e he hb
    have h0 := (mem_ready.1 hr).1
    rw [heq] at h1
    rcases Nat.lt_or_ge i listed.size with h' | h'
    ·simp [h'] at h0 h1; rw [h0] at h1; cases h1
    ·simp [Array.getElem?_eq_none h'] at h1
   have hap := hfree j o ho hji hjun hnot
   have hfree' : ∀ k ok, ops[k]? = some ok → k ≠ i → (listed.setIfInBounds j true).getD k true = false →
     (∀ e ∈ ok.after, Region.binds .any e = true → e.on ≠ i) → oi.apart ops ok = true := fun k ok hk hki hun hno => by
    refine hfree k ok hk hki ?_ hno
    by_cases hjk : j = k
    ·subst hjk; exact hjun
    ·rw [getD_set_ne true hjk] at hun; exact hun
   have hcm : (listed.setIfInBounds i true).setIfInBounds j true = (listed.setIfInBounds j true).setIfInBounds i true := Array.setIfInBounds_comm _ _ (fun e => hji e.symm)
   by_cases hk2 : ks.getD j 2 = 2
   ·rw [if_pos hk2] at h1 ⊢
    intro n
    have h2 := wpOp_putIf ho hap (fun cs b => hsel i oi cs b hi) (fun cs b => hsel j o cs b ho) hQ hy (h1 n)
    refine wpOp_mono (fun a' w' h3 => ⟨h3.2.1, ih (listed.setIfInBounds j true) a' w' h3.2.1 hfree' (ready_mono hr (Ne.symm hji)) h3.1 ?_⟩) h2
    rw [← hcm]
    exact h3.2.2
   ·rw [if_neg hk2] at h1 ⊢
    obtain ⟨u, hu, hK⟩ := h1
    obtain ⟨a1, a2, a3⟩ := Oper.apart_spec hap
    refine ⟨u, hu.of_same (execOp_put o (fun cs b => hsel j o cs b ho) a oi.dst v a1).symm (wanted_put o a oi.dst v a1).symm, ?_⟩
    refine ih (listed.setIfInBounds j true) _ w hS hfree' (ready_mono hr (Ne.symm hji))
     (hy.of_same (execOp_put oi (fun cs b => hsel i oi cs b hi) a o.dst u a3) (wanted_put oi a o.dst u a3)) ?_
    rw [← hcm, ← Act.put_comm a v u a2]
    exact hK
theorem anyK_quiet {w : World} {i : Nat} {oi : Oper} {v : Value} {dep : Array Bool} (hi : ops[i]? = some oi) (hki : ks.getD i 2 ≠ 2) (hsel : ∀ (j : Nat) (o : Oper) cs b, ops[j]? = some o → o.op ≠ .select cs b) :
  ∀ (fuel : Nat) (listed : Array Bool) (a : Act),
   (∀ j oj, ops[j]? = some oj → j ≠ i → listed.getD j true = false → (∀ e ∈ oj.after, Region.binds .any e = true → e.on ≠ i) → oi.apart ops oj = true) →
   (∀ j, dep.getD j false = true → j ≠ i ∧ listed.getD j true = false ∧ ∃ o, ops[j]? = some o ∧ ∃ e ∈ o.after, Region.binds .any e = true ∧ (e.on = i ∨ dep.getD e.on false = true)) →
   (∀ j oj, ops[j]? = some oj → dep.getD j false = false → j ≠ i → listed.getD j true = false → ks.getD j 2 ≠ 2) →
   i ∈ Region.ready .any ops listed → YieldsIn P ops (Dr w) oi v a →
   anyK P ops ks S Q fuel (listed.setIfInBounds i true) (a.put oi.dst v) w → anyK P ops ks S Q (fuel + 1) listed a w := by
 intro fuel
 induction fuel with
 | zero =>
  intro listed a _ _ _ hr hy H
  refine ⟨fun h => (by rw [h] at hr; cases hr), fun j hj o ho => ?_⟩
  by_cases hji : j = i
  ·subst hji
   rw [hi] at ho; injection ho with ho; subst ho
   rw [if_neg hki]
   exact ⟨v, hy, H⟩
  ·have := ready_mono hj hji
   rw [H.1] at this
   cases this
 | succ fuel ih =>
  intro listed a hfree hdep hkind hr hy H
  refine ⟨fun h => (by rw [h] at hr; cases hr), fun j hj o ho => ?_⟩
  by_cases hji : j = i
  ·subst hji
   rw [hi] at ho; injection ho with ho; subst ho
   rw [if_neg hki]
   exact ⟨v, hy, H⟩
  ·have h1 := H.2 j (ready_mono hj hji) o ho
   obtain ⟨hjun, oj, hoj, hall⟩ := mem_ready.1 hj
   rw [ho] at hoj; injection hoj with hoj; subst hoj
   have unl : ∀ k, listed.getD k true = false → listed.getD k false = true → False := fun k h0 h1 => by
    rcases Nat.lt_or_ge k listed.size with h' | h'
    ·simp [h'] at h0 h1; rw [h0] at h1; cases h1
    ·simp [Array.getElem?_eq_none h'] at h1
   have hnot : ∀ e ∈ o.after, Region.binds .any e = true → e.on ≠ i := fun e he hb heq =>
    unl i (mem_ready.1 hr).1 (heq ▸ hall e he hb)
   have hnd : dep.getD j false = false := by
    cases hd : dep.getD j false with
    | false => rfl
    | true =>
     obtain ⟨_, _, o', ho', e, he, hb, h⟩ := hdep j hd
     rw [ho] at ho'; injection ho' with ho'; subst ho'
     rcases h with h | h
     ·exact absurd h (hnot e he hb)
     ·exact (unl e.on (hdep e.on h).2.1 (hall e he hb)).elim
   have hap := hfree j o ho hji hjun hnot
   have hset : ∀ k, (listed.setIfInBounds j true).getD k true = false → listed.getD k true = false := fun k hun => by
    by_cases hjk : j = k
    ·subst hjk; exact hjun
    ·rw [getD_set_ne true hjk] at hun; exact hun
   have hfree' : ∀ k ok, ops[k]? = some ok → k ≠ i → (listed.setIfInBounds j true).getD k true = false →
     (∀ e ∈ ok.after, Region.binds .any e = true → e.on ≠ i) → oi.apart ops ok = true := fun k ok hk hki hun hno => hfree k ok hk hki (hset k hun) hno
   have hcm : (listed.setIfInBounds i true).setIfInBounds j true = (listed.setIfInBounds j true).setIfInBounds i true := Array.setIfInBounds_comm _ _ (fun e => hji e.symm)
   have hk2 := hkind j o ho hnd hji hjun
   rw [if_neg hk2] at h1 ⊢
   obtain ⟨u, hu, hK⟩ := h1
   obtain ⟨a1, a2, a3⟩ := Oper.apart_spec hap
   refine ⟨u, hu.of_same (execOp_put o (fun cs b => hsel j o cs b ho) a oi.dst v a1).symm (wanted_put o a oi.dst v a1).symm, ?_⟩
   refine ih (listed.setIfInBounds j true) _ hfree' (fun k hk => ?_) (fun k ok hk h1 h2 h3 => hkind k ok hk h1 h2 (hset k h3)) (ready_mono hr (Ne.symm hji))
    (hy.of_same (execOp_put oi (fun cs b => hsel i oi cs b hi) a o.dst u a3) (wanted_put oi a o.dst u a3)) ?_
   ·obtain ⟨k1, k2, k3⟩ := hdep k hk
    refine ⟨k1, ?_, k3⟩
    rw [getD_set_ne true (fun e => by subst e; rw [hnd] at hk; cases hk)]
    exact k2
   ·rw [← hcm, ← Act.put_comm a v u a2]
    exact hK
def only (Q : Exit → Act → World → Prop) : Exit → Act → World → Prop
 | .normal, a, w => Q .normal a w
 | _, _, _ => False
def wpOrd (P : Program) (ops : Array Oper) (ks : List Nat) (S : World → Prop) (Q : Exit → Act → World → Prop) : List Nat → Act → World → Prop
 | [], a, w => ∀ n, Q .normal a (w.drewN n)
 | i :: rest, a, w => ∃ o, ops[i]? = some o ∧
  match ks.getD i 2 with
  | 0 => ∃ v, YieldsIf P ops S o v a ∧ wpOrd P ops ks S Q rest (a.put o.dst v) w
  | 1 => ∃ v, YieldsIn P ops (Dr w) o v a ∧ wpOrd P ops ks S Q rest (a.put o.dst v) w
  | _ => ∀ n, wpOp P ops (only Q) i (fun a' w' => S w' ∧ wpOrd P ops ks S Q rest a' w') a (w.drewN n)
theorem anyK_of_ord (hSd : ∀ w n, S w → S (w.drewN n)) (hs : Region.noSelect ops = true) : ∀ (ord : List Nat) (listed : Array Bool) (a : Act) (w : World), S w →
  ordFrom ops ks ord listed = true → wpOrd P ops ks S Q ord a w → anyK P ops ks S (only Q) ord.length listed a w
 | [], listed, a, w, _, hB, h => ⟨by simpa [ordFrom] using hB, h⟩
 | i :: rest, listed, a, w, hS, hB, h => by
  obtain ⟨o, ho, h⟩ := h
  simp only [ordFrom, Bool.and_eq_true] at hB
  obtain ⟨⟨⟨hr, hf⟩, hk⟩, hB'⟩ := hB
  have hready : i ∈ Region.ready .any ops listed := by simpa using hr
  have hko : ks.getD i 2 = 0 ∨ ks.getD i 2 = 1 ∨ ks.getD i 2 = 2 := by
   split at hk
   ·rename_i h; exact .inl h
   ·rename_i h; exact .inr (.inl h)
   ·rename_i h; exact .inr (.inr h)
   ·cases hk
  rcases hko with hko | hko | hko
  ·rw [hko] at h
   obtain ⟨v, hy, hK⟩ := h
   exact anyK_held hSd ho (by omega) (Region.noSelect_spec hs) (fun _ _ _ h => h.elim) rest.length listed a w hS (Region.free_spec ho hf) hready hy (anyK_of_ord hSd hs rest _ _ _ hS hB' hK)
  ·rw [hko] at h hk
   obtain ⟨v, hy, hK⟩ := h
   simp only [depsOk, List.all_eq_true, List.mem_range, Bool.and_eq_true] at hk
   have hlt : ∀ j oj, ops[j]? = some oj → j < ops.size := fun j oj h => (Array.getElem?_eq_some_iff.1 h).1
   refine anyK_quiet (dep := depsOn ops i) ho (by omega) (Region.noSelect_spec hs) rest.length listed a (Region.free_spec ho hf) (fun j hj => ?_) (fun j oj hoj hd hne hun => ?_) hready hy (anyK_of_ord hSd hs rest _ _ _ hS hB' hK)
   ·have hjs : j < ops.size := by
     rcases Nat.lt_or_ge j (depsOn ops i).size with h' | h'
     ·have : (depsOn ops i).size = ops.size := by
       unfold depsOn
       have key : ∀ (l : List Nat) (acc : Array Bool) (f : Array Bool → Nat → Bool), (l.foldl (fun acc j => acc.push (f acc j)) acc).size = acc.size + l.length := by
        intro l
        induction l with
        | nil => intro acc f; simp
        | cons x l ih => intro acc f; simp only [List.foldl_cons, ih, Array.size_push, List.length_cons]; omega
       rw [key (List.range ops.size) #[] (fun acc j => match ops[j]? with
        | some o => o.after.any fun e => Region.binds .any e && (e.on == i || acc.getD e.on false)
        | none => false)]
       simp
      omega
     ·simp [Array.getElem?_eq_none h'] at hj
    have h1 := (hk j hjs).1
    rw [hj] at h1
    simp only [Bool.not_true, Bool.false_or, Bool.and_eq_true, bne_iff_ne, Bool.not_eq_true'] at h1
    obtain ⟨⟨h1, h2⟩, h3⟩ := h1
    refine ⟨h1, h2, ?_⟩
    split at h3
    ·rename_i oj hoj
     obtain ⟨e, he, hb⟩ := Array.any_eq_true'.1 h3
     simp only [Bool.and_eq_true, Bool.or_eq_true, beq_iff_eq] at hb
     exact ⟨oj, hoj, e, he, hb.1, hb.2⟩
    ·cases h3
   ·have h1 := (hk j (hlt j oj hoj)).2
    rw [hd] at h1
    simp only [Bool.false_or, Bool.or_eq_true, beq_iff_eq, bne_iff_ne] at h1
    rcases h1 with (h1 | h1) | h1
    ·exact absurd h1 hne
    ·rw [hun] at h1; cases h1
    ·exact h1
  ·rw [hko] at h hk
   have hk' : Region.ready .any ops listed = [i] := by simpa using hk
   refine ⟨fun h0 => (by rw [h0] at hk'; cases hk'), fun j hj oj hoj => ?_⟩
   rw [hk'] at hj
   simp only [List.mem_singleton] at hj
   subst hj
   rw [ho] at hoj; injection hoj with hoj; subst hoj
   rw [if_pos hko]
   exact fun n => wpOp_mono (fun a w hh => ⟨hh.1, anyK_of_ord hSd hs rest _ a w hh.1 hB' hh.2⟩) (h n)
theorem wp_only {o : Oper} {a : Act} {w : World} {K : Act → World → Prop} (h : o.wp P a w K (only Q)) : o.wp P a w K Q := by
 unfold Oper.wp at *
 generalize (execOp a.eval o).run P w = r at *
 cases r with
 | ok n w' =>
  cases n <;> simp only [Oper.upon] at h ⊢
  case value => exact h
  case skip => exact h
  case defer => exact h
  case row => exact h
  case enter f args =>
   refine Calls.mono h fun e w'' he => ?_
   cases e with
   | returned v => exact he
   | panicked c => exact he.elim
   | outgrown => obtain ⟨_, _, h⟩ := he; exact h.elim
 | halt x w' => cases x <;> simp only [Oper.upon] at h ⊢; exact h.elim
theorem wpAny_only : ∀ (fuel : Nat) (listed : Array Bool) (a : Act) (w : World), wpAny P .any ops (only Q) fuel listed a w → wpAny P .any ops Q fuel listed a w
 | 0, _, _, _, h => h
 | fuel + 1, listed, a, w, h => by
  refine ⟨h.1, fun i hi => ?_⟩
  have h2 := wpOp_mono (fun a w => wpAny_only fuel _ a w) (h.2 i hi)
  unfold wpOp at *
  split
  ·rename_i hn; simp only [hn] at h2; exact h2
  ·rename_i o ho
   simp only [ho] at h2
   split
   ·rename_i hw
    simp only [hw, if_true] at h2
    exact .inl (h2.elim wp_only fun ⟨_, _, _, hh⟩ => hh.elim)
   ·rename_i hw; simp only [hw] at h2; exact h2
theorem wp_region_held' {id : Nat} {a : Act} {w : World} {l : List Oper} (S : World → Prop) (ks ord : List Nat) (hm : P.follows .mixedOrders = true) (hB : ordB l.toArray ks ord = true)
  (hSd : ∀ w n, S w → S (w.drewN n)) (hS : S w) (h : wpOrd P l.toArray ks S Q ord a w) : (Code.region id l.toArray true).wp P Q a w := by
 simp only [ordB, Bool.and_eq_true, beq_iff_eq] at hB
 refine wp_region_any hm (wpAny_only _ _ _ _ ?_)
 have := wpAny_of_anyK _ (Array.replicate l.toArray.size false) a w 1 (anyK_of_ord hSd hB.1.1 ord _ a _ hS hB.2 h)
 rw [hB.1.2] at this
 exact this
theorem wp_region_ord {id : Nat} {a : Act} {w : World} {l : List Oper} (ks ord : List Nat) (hm : P.follows .mixedOrders = true) (hB : ordB l.toArray ks ord = true)
  (h : wpOrd P l.toArray ks (fun _ => True) Q ord a w) : (Code.region id l.toArray true).wp P Q a w :=
 wp_region_held' (fun _ => True) ks ord hm hB (fun _ _ _ => trivial) trivial h
theorem wpOrd_nil {a : Act} {w : World} (h : ∀ n, Q .normal a (w.drewN n)) : wpOrd P ops ks S Q [] a w := h
theorem wpOrd_pure {i : Nat} {o : Oper} {rest : List Nat} {a : Act} {w : World} (ho : ops[i]? = some o) (hk : ks.getD i 2 = 0) (hg : Region.wanted o (yielded ops a.tmps) = true)
  {v : Value} (hv : ∀ w0 : World, S w0 → (execOp a.eval o).run P w0 = .ok (.value v) w0) {A : Act} (hA : a.put o.dst v = A) (h : wpOrd P ops ks S Q rest A w) : wpOrd P ops ks S Q (i :: rest) a w := by
 subst hA
 refine ⟨o, ho, ?_⟩
 rw [hk]
 exact ⟨v, .inl ⟨hg, hv⟩, h⟩
theorem wpOrd_read {i : Nat} {o : Oper} {rest : List Nat} {a : Act} {w : World} (ho : ops[i]? = some o) (hk : ks.getD i 2 = 1) (hg : Region.wanted o (yielded ops a.tmps) = true)
  {v : Value} (hv : ∀ n, (execOp a.eval o).run P (w.drewN n) = .ok (.value v) (w.drewN n)) {A : Act} (hA : a.put o.dst v = A) (h : wpOrd P ops ks S Q rest A w) : wpOrd P ops ks S Q (i :: rest) a w := by
 subst hA
 refine ⟨o, ho, ?_⟩
 rw [hk]
 exact ⟨v, .inl ⟨hg, fun w' ⟨n, hn⟩ => by subst hn; unfold Oper.quietAt; rw [hv n]; exact ⟨rfl, rfl⟩⟩, h⟩
theorem wpOrd_skip {i : Nat} {o : Oper} {rest : List Nat} {a : Act} {w : World} (ho : ops[i]? = some o) (hk : ks.getD i 2 < 2) (hg : Region.wanted o (yielded ops a.tmps) = false)
  {A : Act} (hA : a.put o.dst undef = A) (h : wpOrd P ops ks S Q rest A w) : wpOrd P ops ks S Q (i :: rest) a w := by
 subst hA
 refine ⟨o, ho, ?_⟩
 have : ks.getD i 2 = 0 ∨ ks.getD i 2 = 1 := by omega
 rcases this with hk | hk <;> rw [hk]
 ·exact ⟨undef, .inr ⟨hg, rfl⟩, h⟩
 ·exact ⟨undef, .inr ⟨hg, rfl⟩, h⟩
theorem wpOrd_eff {i : Nat} {o : Oper} {rest : List Nat} {a : Act} {w : World} (ho : ops[i]? = some o) (hk : ks.getD i 2 = 2)
  (h : ∀ n, wpList P ops (fun e a' w' => e = .normal ∧ S w' ∧ wpOrd P ops ks S Q rest a' w') [o] a (w.drewN n)) : wpOrd P ops ks S Q (i :: rest) a w := by
 refine ⟨o, ho, ?_⟩
 rw [hk]
 intro n
 unfold wpOp
 simp only [ho]
 have h := h n
 unfold wpList at h
 have hn : ¬ LetsOut (fun e a' w' => e = Exit.normal ∧ S w' ∧ wpOrd P ops ks S Q rest a' w') := by
  rintro ⟨_, _, h, _⟩
  cases h
 split
 ·rename_i hw
  rw [if_pos hw] at h
  refine .inl ?_
  rcases h with h | ⟨_, h⟩
  ·unfold Oper.wp at *
   generalize (execOp a.eval o).run P (w.drewN n) = r at *
   cases r with
   | ok n w' =>
    cases n <;> simp only [Oper.upon, wpList] at h ⊢
    case value => exact h.2
    case skip => exact h.2
    case defer => exact h.2
    case row => exact Rows.mono h fun _ _ h => h.2
    case enter f args =>
     refine Calls.mono h fun e w'' he => ?_
     cases e with
     | returned v => exact he.2
     | panicked c => exact absurd he.1 (by simp)
     | outgrown => obtain ⟨_, _, h, _⟩ := he; exact absurd h (by simp)
   | halt x w' => cases x <;> simp only [Oper.upon] at h ⊢; exact absurd h.1 (by simp)
  ·exact (hn h).elim
 ·rename_i hw
  rw [if_neg hw] at h
  exact h.2
end
end Go.Mer
namespace Go.Mer
open Go Go.RowKit
open Go.ChangeMaps (setBlock)
structure Kp (S : Nat → Prop) (w w' : World) : Prop where
 os : w'.os = w.os
 tape : w'.tape = w.tape
 output : w'.output = w.output
 size : w.heap.size ≤ w'.heap.size
 block : ∀ k, k < w.heap.size → ¬ S k → w'.heap[k]? = w.heap[k]?
def No : Nat → Prop := fun _ => False
def One (b : Nat) : Nat → Prop := fun k => k = b
def Foot (F F' : Nat → Prop) (w : World) : Prop := ∀ k, F' k → F k ∨ w.heap.size ≤ k
section
variable {S T U : Nat → Prop} {w a b c w' : World}
theorem Kp.refl (S : Nat → Prop) (w : World) : Kp S w w := ⟨rfl, rfl, rfl, Nat.le_refl _, fun _ _ _ => rfl⟩
theorem Kp.trans (h : Kp S a b) (k : Kp T b c) (hT : ∀ i, i < a.heap.size → T i → S i) : Kp S a c :=
 ⟨k.os.trans h.os, k.tape.trans h.tape, k.output.trans h.output, Nat.le_trans h.size k.size, fun i hi hn => (k.block i (Nat.lt_of_lt_of_le hi h.size) (fun ht => hn (hT i hi ht))).trans (h.block i hi hn)⟩
theorem Kp.trans_same (h : Kp S a b) (k : Kp S b c) : Kp S a c := h.trans k fun _ _ x => x
theorem Kp.trans_no (h : Kp S a b) (k : Kp No b c) : Kp S a c := h.trans k fun _ _ x => x.elim
theorem Kp.mono (h : Kp S a b) (hS : ∀ i, i < a.heap.size → S i → T i) : Kp T a b :=
 ⟨h.os, h.tape, h.output, h.size, fun i hi hn => h.block i hi fun hs => hn (hS i hi hs)⟩
theorem Kp.of_no (h : Kp No a b) : Kp S a b := h.mono fun _ _ x => x.elim
theorem Kp.drewN (h : Kp S a b) (n : Nat) : Kp S a (b.drewN n) := ⟨h.os, h.tape, h.output, h.size, h.block⟩
theorem Kp.drew (h : Kp S a b) : Kp S a b.drew := ⟨h.os, h.tape, h.output, h.size, h.block⟩
theorem Kp.of_drewN {n : Nat} (h : Kp S (a.drewN n) b) : Kp S a b := ⟨h.os, h.tape, h.output, h.size, h.block⟩
theorem Kp.from_drewN (h : Kp S a b) (n : Nat) : Kp S (a.drewN n) b := ⟨h.os, h.tape, h.output, h.size, h.block⟩
theorem Kp.alloc (h : Kp S a b) (o : Obj) : Kp S a (b.alloc o) :=
 h.trans_no ⟨rfl, rfl, rfl, by simp, fun k hk _ => Below.heap_alloc b o k hk⟩
theorem Kp.setCell (h : Kp S a b) {p : Addr} (hp : S p.block ∨ a.heap.size ≤ p.block) (u : Value) : Kp S a (b.setCell p u) :=
 h.trans (T := One p.block) ⟨rfl, rfl, rfl, by simp [World.setCell], fun k _ hn => Below.heap_setCell _ _ _ _ (fun e => hn e)⟩
  (fun i hi hT => by
   rw [show i = p.block from hT] at hi ⊢
   rcases hp with hp | hp
   ·exact hp
   ·omega)
theorem Kp.setBlock (h : Kp S a b) {k : Nat} (hp : S k ∨ a.heap.size ≤ k) (o : Obj) : Kp S a (setBlock b k o) :=
 h.trans (T := One k) ⟨rfl, rfl, rfl, by simp [ChangeMaps.setBlock], fun i _ hn => by
   show (b.heap.setIfInBounds k o)[i]? = _
   rw [Array.getElem?_setIfInBounds_ne (fun e => hn e.symm)]⟩
  (fun i hi hT => by
   rw [show i = k from hT] at hi ⊢
   rcases hp with hp | hp
   ·exact hp
   ·omega)
theorem Kp.cell (h : Kp S w w') {p : Addr} (hp : p.block < w.heap.size) (hn : ¬ S p.block) : w'.cell? p = w.cell? p := World.cell?_of_block (w := w) (h.block p.block hp hn)
theorem Kp.frozen (h : Kp S w w') {p : Addr} (hp : p.block < w.heap.size) (hn : ¬ S p.block) : w'.frozen? p = w.frozen? p := World.frozen?_of_block (w := w) (h.block p.block hp hn)
theorem Kp.get (h : Kp S w w') {k : Nat} {o : Obj} (hk : w.heap[k]? = some o) (hn : ¬ S k) : w'.heap[k]? = some o :=
 (h.block k (Array.getElem?_eq_some_iff.1 hk).1 hn).trans hk
theorem Kp.below (h : Kp S w w') {B : Nat} (hB : B ≤ w.heap.size) (hS : ∀ k, k < B → ¬ S k) : Below B w w' :=
 ⟨h.os, h.tape, h.output, h.size, fun k hk => h.block k (by omega) (hS k hk)⟩
theorem Kp.of_below {B : Nat} (h : Below B w w') (hS : ∀ k, k < w.heap.size → B ≤ k → S k) : Kp S w w' :=
 ⟨h.os, h.tape, h.output, h.size, fun k hk hn => h.block k (by
  rcases Nat.lt_or_ge k B with h' | h'
  ·exact h'
  ·exact absurd (hS k hk h') hn)⟩
theorem Kp.lt (h : Kp S w w') {k : Nat} (hk : k < w.heap.size) : k < w'.heap.size := Nat.lt_of_lt_of_le hk h.size
theorem get_lt {k : Nat} {o : Obj} (hk : w.heap[k]? = some o) : k < w.heap.size := (Array.getElem?_eq_some_iff.1 hk).1
theorem Foot.refl (F : Nat → Prop) (w : World) : Foot F F w := fun _ h => .inl h
theorem Foot.trans {F F' F'' : Nat → Prop} (h : Foot F F' w) (k : Foot F' F'' w') (hs : w.heap.size ≤ w'.heap.size) : Foot F F'' w := fun i hi => by
 rcases k i hi with hi | hi
 ·exact h i hi
 ·exact .inr (by omega)
theorem Foot.apart {F F' G : Nat → Prop} (h : Foot F F' w) (hG : ∀ k, G k → k < w.heap.size) (hd : ∀ k, F k → ¬ G k) : ∀ k, F' k → ¬ G k := fun k hk hg => by
 rcases h k hk with hk | hk
 ·exact hd k hk hg
 ·exact absurd (hG k hg) (by omega)
end
theorem cell_at {w : World} {g : Nat} {cs : Array Value} {t : TypeId} (h : w.heap[g]? = some (.cells cs t (0, 0))) (i : Nat) : w.cell? ⟨g, i, none⟩ = cs[i]? := cell_of_row w g i cs t (0, 0) h
theorem free_at {w : World} {g : Nat} {cs : Array Value} {t : TypeId} (h : w.heap[g]? = some (.cells cs t (0, 0))) (i : Nat) : w.frozen? ⟨g, i, none⟩ = false := by simp [World.frozen?, h]
theorem set_at {w : World} {g : Nat} {cs : Array Value} {t : TypeId} (h : w.heap[g]? = some (.cells cs t (0, 0))) (i : Nat) (u : Value) : (w.setCell ⟨g, i, none⟩ u).heap[g]? = some (.cells (cs.setIfInBounds i u) t (0, 0)) := by
 simp [World.setCell, Array.getElem?_modify, h]
theorem set_far {w : World} {g : Nat} {o : Obj} (h : w.heap[g]? = some o) {p : Addr} (hp : g ≠ p.block) (u : Value) : (w.setCell p u).heap[g]? = some o := (Below.heap_setCell w p u g hp).trans h
theorem alloc_far {w : World} {g : Nat} {o : Obj} (h : w.heap[g]? = some o) (o' : Obj) : (w.alloc o').heap[g]? = some o := (Below.heap_alloc w o' g (get_lt h)).trans h
theorem setBlock_at {w : World} {k : Nat} (hk : k < w.heap.size) (o : Obj) : (setBlock w k o).heap[k]? = some o := by simp [setBlock, hk]
theorem ne_of_type {w : World} {g g' : Nat} {cs cs' : Array Value} {t t' : TypeId} {f f' : Nat × Nat} (h : w.heap[g]? = some (.cells cs t f)) (h' : w.heap[g']? = some (.cells cs' t' f')) (hne : t ≠ t') : g ≠ g' := by
 rintro rfl
 rw [h] at h'
 injection h' with h'
 injection h' with _ ht
 exact hne ht
theorem ne_of_map {w : World} {g g' : Nat} {cs : Array Value} {t : TypeId} {f : Nat × Nat} {es : Array MapEntry} {c : Nat} (h : w.heap[g]? = some (.cells cs t f)) (h' : w.heap[g']? = some (.map es c)) : g ≠ g' := by
 rintro rfl
 rw [h] at h'
 cases h'
def u8 (b : UInt8) : Value := .int .u8 (b.toNat : Int)
def u8s (l : List UInt8) : List Value := l.map u8
theorem u8s_length (l : List UInt8) : (u8s l).length = l.length := by simp [u8s]
theorem u8s_append (l k : List UInt8) : u8s (l ++ k) = u8s l ++ u8s k := by simp [u8s]
theorem u8s_one (l : List UInt8) : ∀ u ∈ u8s l, u.oneCell' = true := by
 intro u hu
 obtain ⟨b, _, rfl⟩ := List.mem_map.1 hu
 rfl
def Rd (w : World) (B : Nat) (a : Option Addr) (xs : List Value) : Prop :=
 0 < xs.length → ∃ g off, a = some ⟨g, off, none⟩ ∧ g < B ∧ B ≤ w.heap.size ∧ ∀ j u, xs[j]? = some u → w.cell? ⟨g, off + j, none⟩ = some u
section
variable {w w' : World} {B : Nat} {a : Option Addr} {xs : List Value}
theorem Rd.nil (w : World) (B : Nat) (a : Option Addr) : Rd w B a [] := fun h => absurd h (by simp)
theorem Rd.keep {S : Nat → Prop} (h : Rd w B a xs) (hk : Kp S w w') (hS : ∀ k, k < B → ¬ S k) : Rd w' B a xs := fun hx => by
 obtain ⟨g, off, ha, hg, hB, hc⟩ := h hx
 exact ⟨g, off, ha, hg, Nat.le_trans hB hk.size, fun j u hu => (hk.cell (p := ⟨g, off + j, none⟩) (by show g < _; omega) (hS g hg)).trans (hc j u hu)⟩
theorem Rd.keep_map {S : Nat → Prop} (h : Rd w B a xs) (hk : Kp S w w') (hS : ∀ k o, S k → w.cell? ⟨k, o, none⟩ = none) : Rd w' B a xs := fun hx => by
 obtain ⟨g, off, ha, hg, hB, hc⟩ := h hx
 have hgS : ¬ S g := fun hs => by
  have h0 := hc 0 xs[0] (by simp)
  rw [hS g _ hs] at h0
  cases h0
 exact ⟨g, off, ha, hg, Nat.le_trans hB hk.size, fun j u hu => (hk.cell (p := ⟨g, off + j, none⟩) (by show g < _; omega) hgS).trans (hc j u hu)⟩
theorem cell_map {w : World} {m : Nat} {es : Array MapEntry} {c : Nat} (h : w.heap[m]? = some (.map es c)) (o : Nat) : w.cell? ⟨m, o, none⟩ = none := by simp [World.cell?, h]
theorem Rd.drewN (h : Rd w B a xs) (n : Nat) : Rd (w.drewN n) B a xs := h
theorem Rd.mono (h : Rd w B a xs) {B' : Nat} (hB : B ≤ B') (hs : B' ≤ w.heap.size) : Rd w B' a xs := fun hx => by
 obtain ⟨g, off, ha, hg, _, hc⟩ := h hx
 exact ⟨g, off, ha, by omega, hs, hc⟩
theorem Rd.at_ (h : Rd w B a xs) {i : Nat} {u : Value} (hu : xs[i]? = some u) : ∃ g off, a = some ⟨g, off, none⟩ ∧ g < B ∧ B ≤ w.heap.size ∧ w.cell? ⟨g, off + i, none⟩ = some u := by
 have hi := (List.getElem?_eq_some_iff.1 hu).1
 obtain ⟨g, off, ha, hg, hB, hc⟩ := h (by omega)
 exact ⟨g, off, ha, hg, hB, hc i u hu⟩
theorem Rd.byte {l : List UInt8} (h : Rd w B a (u8s l)) {i : Nat} (hi : i < l.length) :
  ∃ g off, a = some ⟨g, off, none⟩ ∧ g < B ∧ B ≤ w.heap.size ∧ w.cell? ⟨g, off + i, none⟩ = some (.int .u8 (l[i].toNat : Int)) :=
 h.at_ (by simp [u8s, u8, hi])
theorem Rd.drop (h : Rd w B a xs) (i : Nat) : Rd w B (a.map (·.add i)) (xs.drop i) := fun hx => by
 rw [List.length_drop] at hx
 obtain ⟨g, off, rfl, hg, hB, hc⟩ := h (by omega)
 refine ⟨g, off + i, ?_, hg, hB, fun j u hu => ?_⟩
 ·simp only [Option.map_some, Addr.add]
  split
  ·rename_i e; subst e; rfl
  ·rfl
 ·rw [List.getElem?_drop] at hu
  have := hc _ u hu
  rwa [← Nat.add_assoc] at this
theorem Rd.take (h : Rd w B a xs) (i : Nat) : Rd w B a (xs.take i) := fun hx => by
 rw [List.length_take] at hx
 obtain ⟨g, off, ha, hg, hB, hc⟩ := h (by omega)
 refine ⟨g, off, ha, hg, hB, fun j u hu => hc j u ?_⟩
 rw [List.getElem?_take] at hu
 split at hu
 ·exact hu
 ·cases hu
theorem Rd.row {cs : Array Value} {t : TypeId} {g off n : Nat} (hg : w.heap[g]? = some (.cells cs t (0, 0))) (hx : (cs.toList.drop off).take n = xs) (hgB : g < B) (hB : B ≤ w.heap.size) : Rd w B (some ⟨g, off, none⟩) xs := fun _ =>
 ⟨g, off, rfl, hgB, hB, fun j u hu => by
  rw [cell_at hg]
  subst hx
  rw [List.getElem?_take] at hu
  split at hu
  ·rw [List.getElem?_drop] at hu
   simpa using hu
  ·cases hu⟩
end
def Own (w : World) (e : TypeId) (sz : Nat) (v : Value) (n : Nat) (xs : List Value) : Prop :=
 xs.length = n * sz ∧ ∃ a cap, v = .slice a n cap ∧ n ≤ cap ∧ cap ≤ maxLen ∧ (a = none → cap = 0) ∧
  ∀ ad, a = some ad → ∃ g off cur, ad = ⟨g, off, none⟩ ∧ w.heap[g]? = some (.cells cur e (0, 0)) ∧ off + cap * sz ≤ cur.size ∧ (cur.toList.drop off).take (n * sz) = xs
section
variable {w w' : World} {e : TypeId} {sz n : Nat} {v : Value} {xs : List Value}
theorem Own.nil (w : World) (e : TypeId) (sz : Nat) : Own w e sz (.slice none 0 0) 0 [] :=
 ⟨by simp, none, 0, rfl, Nat.le_refl _, by simp [maxLen], fun _ => rfl, fun _ h => by cases h⟩
theorem Own.keep {S : Nat → Prop} (h : Own w e sz v n xs) (hk : Kp S w w') (hS : ∀ g, v.ownBlock = some g → ¬ S g) : Own w' e sz v n xs := by
 obtain ⟨hl, a, cap, rfl, h1, h2, h3, h4⟩ := h
 refine ⟨hl, a, cap, rfl, h1, h2, h3, fun ad had => ?_⟩
 subst had
 obtain ⟨g, off, cur, rfl, hg, hr⟩ := h4 ad rfl
 exact ⟨g, off, cur, rfl, hk.get hg (hS g rfl), hr⟩
theorem Own.drewN (h : Own w e sz v n xs) (k : Nat) : Own (w.drewN k) e sz v n xs := h
theorem Own.lt (h : Own w e sz v n xs) : ∀ g, v.ownBlock = some g → g < w.heap.size := by
 obtain ⟨_, a, cap, rfl, _, _, _, h4⟩ := h
 intro g hg
 cases a with
 | none => simp [Value.ownBlock] at hg
 | some ad =>
  obtain ⟨g', off, cur, rfl, hgg, _⟩ := h4 ad rfl
  simp [Value.ownBlock] at hg
  subst hg
  exact get_lt hgg
theorem Own.type (h : Own w e sz v n xs) : ∀ g, v.ownBlock = some g → ∃ cur, w.heap[g]? = some (.cells cur e (0, 0)) := by
 obtain ⟨_, a, cap, rfl, _, _, _, h4⟩ := h
 intro g hg
 cases a with
 | none => simp [Value.ownBlock] at hg
 | some ad =>
  obtain ⟨g', off, cur, rfl, hgg, _⟩ := h4 ad rfl
  simp [Value.ownBlock] at hg
  subst hg
  exact ⟨cur, hgg⟩
theorem Own.rd (h : Own w e sz v n xs) : ∃ a cap, v = .slice a n cap ∧ n ≤ cap ∧ Rd w w.heap.size a xs := by
 obtain ⟨hl, a, cap, rfl, h1, h2, h3, h4⟩ := h
 refine ⟨a, cap, rfl, h1, fun hx => ?_⟩
 cases a with
 | none =>
  have := h3 rfl
  have : n = 0 := by omega
  subst this
  simp at hl
  rw [hl] at hx
  simp at hx
 | some ad =>
  obtain ⟨g, off, cur, rfl, hg, _, hr⟩ := h4 ad rfl
  exact Rd.row hg hr (get_lt hg) (Nat.le_refl _) hx
theorem Own.rd' {a : Option Addr} {cap m : Nat} (h : Own w e sz (.slice a m cap) n xs) : Rd w w.heap.size a xs := by
 obtain ⟨a', c', e', _, hr⟩ := h.rd
 injection e' with e1 _ _
 rw [e1]
 exact hr
theorem Own.made (w : World) (e : TypeId) (sz : Nat) (cur : Array Value) (n cap : Nat) (hn : n ≤ cap) (hm : cap ≤ maxLen) (hs : cap * sz ≤ cur.size) (hx : cur.toList.take (n * sz) = xs) :
  Own (w.alloc (.cells cur e)) e sz (.slice (some ⟨w.heap.size, 0, none⟩) n cap) n xs := by
 refine ⟨?_, some ⟨w.heap.size, 0, none⟩, cap, rfl, hn, hm, fun h => (by cases h), fun ad h => ?_⟩
 ·rw [← hx, List.length_take, Array.length_toList]
  have : n * sz ≤ cap * sz := Nat.mul_le_mul_right _ hn
  omega
 ·injection h with h
  subst h
  exact ⟨w.heap.size, 0, cur, rfl, heap_alloc_new w _, by omega, by simpa using hx⟩
end
def Src (w : World) (sz : Nat) (x : Value) (m : Nat) (news : List Value) : Prop :=
 news.length = m * sz ∧ ∃ a c, x = .slice a m c ∧ Rd w w.heap.size a news
section
variable {P : Program} {w : World}
theorem Src.first {sz : Nat} {x : Value} {m : Nat} {news : List Value} (h : Src w sz x m news) : (Builtin.firstCells sz m x).run P w = .ok news.toArray w ∧ (Builtin.lenOf x).run P w = .ok m w := by
 obtain ⟨hl, a, c, rfl, hr⟩ := h
 refine ⟨?_, rfl⟩
 rcases Nat.eq_zero_or_pos news.length with h0 | h0
 ·have hn : news = [] := List.eq_nil_of_length_eq_zero h0
  subst hn
  have hm : m * sz = 0 := by simpa using hl.symm
  cases a with
  | none => rfl
  | some ad => simp [Builtin.firstCells, hm, loadCells, loadCellsFrom]
 ·obtain ⟨g, off, rfl, _, _, hc⟩ := hr h0
  refine run_firstCells_some w sz m ⟨g, off, none⟩ m c news hl fun j u hu => ?_
  have := hc j u hu
  have hadd : (⟨g, off, none⟩ : Addr).add j = ⟨g, off + j, none⟩ := by unfold Addr.add; split <;> simp_all
  rwa [hadd]
theorem add_lit' (g off j : Nat) : (⟨g, off, none⟩ : Addr).add j = ⟨g, off + j, none⟩ := by unfold Addr.add; split <;> simp_all
theorem setCells_block (g : Nat) (e : TypeId) : ∀ (news : List Value) (w : World) (off : Nat) (cur : Array Value), w.heap[g]? = some (.cells cur e (0, 0)) → off + news.length ≤ cur.size →
  ∃ cur', (w.setCells g off news).heap[g]? = some (.cells cur' e (0, 0)) ∧ cur'.size = cur.size ∧ cur'.toList = cur.toList.take off ++ news ++ cur.toList.drop (off + news.length)
 | [], w, off, cur, hg, _ => ⟨cur, by simpa [World.setCells] using hg, rfl, by simp⟩
 | x :: r, w, off, cur, hg, hs => by
  simp only [List.length_cons] at hs
  obtain ⟨cur', h1, h2, h3⟩ := setCells_block g e r (w.setCell ⟨g, off, none⟩ x) (off + 1) (cur.setIfInBounds off x) (set_at hg off x) (by simp; omega)
  refine ⟨cur', by simpa [World.setCells] using h1, by simpa using h2, ?_⟩
  rw [h3]
  have hlt : off < cur.toList.length := by simp; omega
  simp only [Array.toList_setIfInBounds, List.length_cons]
  rw [List.take_add_one, List.getElem?_set_self hlt, List.take_set_of_le (Nat.le_refl _), List.drop_set_of_lt (by omega)]
  simp [Nat.add_assoc, Nat.add_comm 1]
theorem run_append_Own (t t' ty e : TypeId) (i : TypeInfo) (z : Value) (sz bytes : Nat) (ht : P.underlying t = some (.slice e)) (ht' : ∃ e', P.underlying t' = some (.slice e'))
  (hi : P.info? e = some i) (hz : i.zero = some z) (hsize : i.size = sz) (hby : i.bytes = bytes) (hzs : z.cells.size = sz)
  (v : Value) (n : Nat) (xs : List Value) (hown : Own w e sz v n xs) (x : Value) (m : Nat) (news : List Value) (hx : Src w sz x m news) (h1 : ∀ u ∈ news, u.oneCell' = true)
  (h63 : n + m ≤ maxLen) (hbytes : (n + m) * bytes ≤ 140737488355328) :
  ∃ v' w', (Builtin.append_ #[t, t'] ty #[v, x]).run P w = .ok v' w' ∧ Own w' e sz v' (n + m) (xs ++ news) ∧ Kp (fun k => v.ownBlock = some k) w w' ∧
   (v'.ownBlock = v.ownBlock ∨ ∃ g, v'.ownBlock = some g ∧ w.heap.size ≤ g) := by
 obtain ⟨hl, a, cap, rfl, hnc, hcm, hnil, hblk⟩ := hown
 obtain ⟨hfc, hln⟩ := hx.first (P := P)
 have hnl := hx.1
 obtain ⟨e', ht'⟩ := ht'
 by_cases hroom : n + m ≤ cap
 ·cases a with
  | none =>
   have h0 := hnil rfl
   have hn : n = 0 := by omega
   have hm : m = 0 := by omega
   subst hn; subst hm
   have hne : news = [] := List.eq_nil_of_length_eq_zero (by simpa using hnl)
   subst hne
   refine ⟨.slice none 0 cap, w, ?_, ⟨by simpa using hl, none, cap, by simp, by omega, hcm, hnil, fun _ h => by cases h⟩, Kp.refl _ _, .inl rfl⟩
   simp [Builtin.append_, run_underlying ht, run_underlying ht', sizeOf, typeInfo, hi, hln, hsize, hfc]
  | some ad =>
   obtain ⟨g, off, cur, rfl, hg, hfit, hcur⟩ := hblk ad rfl
   have hle : off + n * sz + news.length ≤ cur.size := by
    rw [hnl]
    have : (n + m) * sz ≤ cap * sz := Nat.mul_le_mul_right _ hroom
    rw [Nat.add_mul] at this
    omega
   have hst := run_storeCells_cells (P := P) g (off + n * sz) news 0 w (by
     intro j hj
     rw [Nat.add_zero, cell_at hg]
     simp; omega) (by intro j _; exact free_at hg _) h1
   obtain ⟨cur', hg', hsz', hcur'⟩ := setCells_block g e news w (off + n * sz) cur hg hle
   have hkp : Kp (fun k => (Value.slice (some ⟨g, off, none⟩) n cap).ownBlock = some k) w (w.setCells g (off + n * sz) news) := by
    have key : ∀ (l : List Value) (o : Nat) (a : World), Kp (One g) a (a.setCells g o l) := by
     intro l
     induction l with
     | nil => intro o a; exact Kp.refl _ _
     | cons u l ih =>
      intro o a
      have h1 : Kp (One g) a (a.setCell ⟨g, o, none⟩ u) := (Kp.refl (One g) a).setCell (p := ⟨g, o, none⟩) (.inl rfl) u
      have h2 := h1.trans_same (ih (o + 1) (a.setCell ⟨g, o, none⟩ u))
      simpa [World.setCells] using h2
    exact (key news _ w).mono fun k _ hk => by rw [show k = g from hk]; rfl
   refine ⟨.slice (some ⟨g, off, none⟩) (n + m) cap, w.setCells g (off + n * sz) news, ?_, ⟨?_, some ⟨g, off, none⟩, cap, rfl, hroom, hcm, fun h => (by cases h), fun ad h => ?_⟩, hkp, .inl rfl⟩
   ·simp only [Nat.add_zero] at hst
    simp [Builtin.append_, run_underlying ht, run_underlying ht', sizeOf, typeInfo, hi, hln, hsize, hfc, hroom, add_lit', hst]
   ·rw [List.length_append, hl, hnl, Nat.add_mul]
   ·injection h with h
    subst h
    refine ⟨g, off, cur', rfl, hg', by rw [hsz']; exact hfit, ?_⟩
    rw [hcur', ← hcur]
    have e1 : (cur.toList.take (off + n * sz) ++ news ++ cur.toList.drop (off + n * sz + news.length)).drop off = (cur.toList.drop off).take (n * sz) ++ news ++ cur.toList.drop (off + n * sz + news.length) := by
     have hlt : off ≤ (cur.toList.take (off + n * sz)).length := by simp; omega
     rw [List.append_assoc, List.drop_append_of_le_length hlt, List.append_assoc]
     congr 1
     rw [List.drop_take]
     congr 1
     omega
    rw [e1]
    have e2 : ((cur.toList.drop off).take (n * sz) ++ news).length = (n + m) * sz := by rw [hcur, List.length_append, hl, hnl, Nat.add_mul]
    rw [← e2, List.take_left]
 ·have hge := grownCap_ge w (n + m) cap e
  have hcm' : grownCap w (n + m) cap e ≤ maxLen := grownCap_le_maxLen w (n + m) cap e h63
  have hold : (Builtin.firstCells sz n (.slice a n cap)).run P w.drew = .ok xs.toArray w.drew := by
   cases a with
   | none =>
    have h0 := hnil rfl
    have hn : n = 0 := by omega
    subst hn
    have : xs = [] := List.eq_nil_of_length_eq_zero (by simpa using hl)
    subst this
    rfl
   | some ad =>
    obtain ⟨g, off, cur, rfl, hg, hfit, hcur⟩ := hblk ad rfl
    refine run_firstCells_some w.drew sz n ⟨g, off, none⟩ n cap xs hl fun j u hu => ?_
    rw [add_lit', World.cell?_drew, cell_at hg]
    rw [← hcur, List.getElem?_take] at hu
    split at hu
    ·rw [List.getElem?_drop] at hu
     simpa using hu
    ·cases hu
  have hfc' : (Builtin.firstCells sz m x).run P w.drew = .ok news.toArray w.drew := (Src.first (w := w.drew) (P := P) ⟨hx.1, hx.2⟩).1
  have h63' : ¬ (9223372036854775807 < ((n + m : Nat) : Int)) := by simp only [maxLen] at h63; omega
  have hfit : Builtin.nextslicecap (n + m) cap * bytes ≤ 281474976710656 := growslice_fits (by omega) hbytes
  refine ⟨.slice (some ⟨w.heap.size, 0, none⟩) (n + m) (grownCap w (n + m) cap e), w.drew.alloc (.cells (xs.toArray ++ news.toArray ++ Builtin.zeroCells z.cells (grownCap w (n + m) cap e - (n + m))) e), ?_, ?_, ?_, .inr ⟨w.heap.size, rfl, Nat.le_refl _⟩⟩
  ·have hfit' : ¬ (281474976710656 < Builtin.nextslicecap (n + m) cap * bytes) := by omega
   have hn1 : ¬ ((n : Int) + m > 9223372036854775807) := by simp only [maxLen] at h63; omega
   simp [Builtin.append_, run_underlying ht, run_underlying ht', sizeOf, typeInfo, hi, hln, hsize, hby, hroom, hfit', hold, hfc', zeroValue, hz, IntKind.max, IntKind.signed, IntKind.bits, hn1, Question.forced, newRow]
   refine ⟨rfl, ?_⟩
   have hta : (xs ++ news).toArray = xs.toArray ++ news.toArray := by simp
   rw [hta, Array.append_assoc]
   rfl
  ·refine Own.made w.drew e sz _ (n + m) (grownCap w (n + m) cap e) hge hcm' ?_ ?_
   ·simp only [Array.size_append, List.size_toArray, size_zeroCells, hzs, hl, hnl, ← Nat.add_mul]
    exact Nat.mul_le_mul_right _ (by omega)
   ·simp only [Array.toList_append, List.append_assoc]
    rw [← List.append_assoc, show (n + m) * sz = (xs ++ news).length from by rw [List.length_append, hl, hnl, Nat.add_mul]]
    exact List.take_left
  ·exact ((Kp.refl _ w).drew).alloc _
theorem wpList_append_run {ops : Array Oper} {rest : List Oper} {o : Oper} {a : Act} {Q : Exit → Act → World → Prop} {w' : World} {s x : Operand} {t t' : TypeId} {v xv v' : Value} (hgd : o.guard = none)
  (ho : o.op = .call { callee := .builtin .append, args := #[s, x], argTypes := #[t, t'] }) (hs : a.eval s = v) (hx : a.eval x = xv)
  (hrun : (Builtin.append_ #[t, t'] o.type #[v, xv]).run P w = .ok v' w') (h : wpList P ops Q rest (a.put o.dst v') w') : wpList P ops Q (o :: rest) a w :=
 wpList_plain hgd fun _ hK => by
  unfold Oper.wp execOp
  simp only [ho, resolve, invoke, builtin, Sem.run_bind, Sem.run_pure, Result.andThen_ok, List.map_toArray, List.map_cons, List.map_nil, hs, hx, hrun]
  exact hK _ _ h
end
end Go.Mer
namespace Go.Mer
open Go Go.RowKit Go.MapKept
open Go.ChangeMaps (setBlock)
instance decBytes : DecidableEq ByteArray := fun a b =>
 if h : a.data = b.data then isTrue (by cases a; cases b; simp only at h; rw [h]) else isFalse fun e => h (by rw [e])
instance lawBytes : LawfulBEq ByteArray where
 eq_of_beq h := (MapKept.bytes_beq _ _).1 h
 rfl := (MapKept.bytes_beq _ _).2 rfl
section
variable {K β : Type} [DecidableEq K]
def gget (l : List (K × β)) (k : K) : Option β := (l.find? fun p => decide (p.1 = k)).map (·.2)
def gset (l : List (K × β)) (k : K) (v : β) : List (K × β) := if k ∈ l.map (·.1) then l.map (fun p => if p.1 = k then (k, v) else p) else l ++ [(k, v)]
def gdel (l : List (K × β)) (k : K) : List (K × β) := l.filter fun p => decide (p.1 ≠ k)
theorem gget_none {l : List (K × β)} {k : K} (h : k ∉ l.map (·.1)) : gget l k = none := by
 simp only [gget, Option.map_eq_none_iff, List.find?_eq_none, decide_eq_true_eq]
 intro p hp e
 exact h (List.mem_map.2 ⟨p, hp, e⟩)
theorem gget_some {l : List (K × β)} {k : K} {v : β} (hn : (l.map (·.1)).Nodup) (h : (k, v) ∈ l) : gget l k = some v := by
 induction l with
 | nil => cases h
 | cons p l ih =>
  simp only [List.map_cons, List.nodup_cons] at hn
  unfold gget
  by_cases hp : p.1 = k
  ·simp only [List.find?_cons, hp, decide_true, Option.map_some]
   rcases List.mem_cons.1 h with h | h
   ·rw [← h]
   ·exact absurd (List.mem_map.2 ⟨_, h, rfl⟩) (hp ▸ hn.1)
  ·rcases List.mem_cons.1 h with h | h
   ·exact absurd (by rw [← h]) hp
   ·simp only [List.find?_cons, hp, decide_false]
    exact ih hn.2 h
theorem gget_mem {l : List (K × β)} {k : K} {v : β} (h : gget l k = some v) : (k, v) ∈ l := by
 unfold gget at h
 obtain ⟨p, hp, rfl⟩ := Option.map_eq_some_iff.1 h
 have h1 := List.find?_some hp
 have h2 := List.mem_of_find?_eq_some hp
 simp only [decide_eq_true_eq] at h1
 rw [← h1]
 exact h2
theorem gset_set {l : List (K × β)} {k : K} {v : β} {j : Nat} {u : β} (hn : (l.map (·.1)).Nodup) (h : l[j]? = some (k, u)) : gset l k v = l.set j (k, v) := by
 have hm : k ∈ l.map (·.1) := List.mem_map.2 ⟨_, List.mem_of_getElem? h, rfl⟩
 unfold gset
 rw [if_pos hm]
 apply List.ext_getElem?
 intro i
 rw [List.getElem?_map, List.getElem?_set]
 by_cases hij : j = i
 ·subst hij
  have hj := (List.getElem?_eq_some_iff.1 h).1
  rw [if_pos rfl, if_pos hj, h]
  simp
 ·rw [if_neg hij]
  cases hi : l[i]? with
  | none => rfl
  | some p =>
   have : p.1 ≠ k := fun e => hij (by
    have h1 : (l.map (·.1))[j]? = some k := by simp [h]
    have h2 : (l.map (·.1))[i]? = some k := by simp [hi, e]
    have hjl := (List.getElem?_eq_some_iff.1 h1).1
    exact (List.getElem?_inj hjl hn).1 (h1.trans h2.symm))
   simp [this]
theorem gdel_erase {l : List (K × β)} {k : K} {j : Nat} {u : β} (hn : (l.map (·.1)).Nodup) (h : l[j]? = some (k, u)) : gdel l k = l.eraseIdx j := by
 induction l generalizing j with
 | nil => simp at h
 | cons p l ih =>
  simp only [List.map_cons, List.nodup_cons] at hn
  cases j with
  | zero =>
   simp only [List.getElem?_cons_zero, Option.some.injEq] at h
   subst h
   simp only [gdel, List.filter_cons, ne_eq, not_true_eq_false, decide_false, Bool.false_eq_true, if_false, List.eraseIdx_cons_zero]
   refine List.filter_eq_self.2 fun q hq => ?_
   simp only [decide_eq_true_eq]
   exact fun e => hn.1 (List.mem_map.2 ⟨q, hq, e⟩)
  | succ j =>
   simp only [List.getElem?_cons_succ] at h
   have hpk : p.1 ≠ k := fun e => hn.1 (by
    rw [e]
    exact List.mem_map.2 ⟨_, List.mem_of_getElem? h, rfl⟩)
   have := ih hn.2 h
   simp only [gdel, List.filter_cons, hpk, ne_eq, not_false_eq_true, decide_true, if_true, List.eraseIdx_cons_succ] at this ⊢
   rw [this]
theorem gdel_none {l : List (K × β)} {k : K} (h : k ∉ l.map (·.1)) : gdel l k = l :=
 List.filter_eq_self.2 fun p hp => by
  simp only [decide_eq_true_eq]
  exact fun e => h (List.mem_map.2 ⟨p, hp, e⟩)
omit [DecidableEq K] in
theorem keys_mapv {γ : Type} (f : β → γ) (l : List (K × β)) : (l.map fun p => (p.1, f p.2)).map (·.1) = l.map (·.1) := by simp [List.map_map, Function.comp_def]
theorem gget_mapv {γ : Type} (f : β → γ) (l : List (K × β)) (k : K) : gget (l.map fun p => (p.1, f p.2)) k = (gget l k).map f := by
 induction l with
 | nil => rfl
 | cons p l ih =>
  unfold gget at ih ⊢
  by_cases hp : p.1 = k
  ·simp [hp]
  ·simpa [List.find?_cons, hp] using ih
theorem gset_mapv {γ : Type} (f : β → γ) (l : List (K × β)) (k : K) (v : β) : (gset l k v).map (fun p => (p.1, f p.2)) = gset (l.map fun p => (p.1, f p.2)) k (f v) := by
 unfold gset
 rw [keys_mapv]
 split
 ·simp only [List.map_map]
  apply List.map_congr_left
  intro p _
  simp only [Function.comp_def]
  split <;> rfl
 ·simp
theorem gdel_mapv {γ : Type} (f : β → γ) (l : List (K × β)) (k : K) : (gdel l k).map (fun p => (p.1, f p.2)) = gdel (l.map fun p => (p.1, f p.2)) k := by
 unfold gdel
 rw [List.filter_map]
 rfl
theorem gget_none_iff {l : List (K × β)} {k : K} : gget l k = none ↔ k ∉ l.map (·.1) := by
 constructor
 ·intro h hm
  obtain ⟨p, hp, he⟩ := List.mem_map.1 hm
  simp only [gget, Option.map_eq_none_iff, List.find?_eq_none, decide_eq_true_eq] at h
  exact h p hp he
 ·exact gget_none
theorem gget_split {l : List (K × β)} {k : K} {v : β} (h : gget l k = some v) : ∃ l1 l2, l = l1 ++ (k, v) :: l2 ∧ k ∉ l1.map (·.1) := by
 induction l with
 | nil => simp [gget] at h
 | cons p l ih =>
  by_cases hp : p.1 = k
  ·refine ⟨[], l, ?_, by simp⟩
   simp only [gget, List.find?_cons, hp, decide_true, Option.map_some, Option.some.injEq] at h
   rw [List.nil_append, ← h, ← hp]
  ·have h' : gget l k = some v := by simpa [gget, List.find?_cons, hp] using h
   obtain ⟨l1, l2, rfl, hn⟩ := ih h'
   refine ⟨p :: l1, l2, rfl, ?_⟩
   simp only [List.map_cons, List.mem_cons, not_or]
   exact ⟨fun e => hp e.symm, hn⟩
theorem gset_split {l1 l2 : List (K × β)} {k : K} {u v : β} (hn : ((l1 ++ (k, u) :: l2).map (·.1)).Nodup) : gset (l1 ++ (k, u) :: l2) k v = l1 ++ (k, v) :: l2 := by
 rw [gset_set (j := l1.length) (u := u) hn (by simp)]
 simp
theorem gset_new {l : List (K × β)} {k : K} {v : β} (h : k ∉ l.map (·.1)) : gset l k v = l ++ [(k, v)] := by unfold gset; rw [if_neg h]
end
section
variable {K : Type}
def GMap (kv : K → Value) (w : World) (m : Nat) (l : List (K × Value)) : Prop :=
 ∃ es clock, w.heap[m]? = some (.map es clock) ∧ Stamped es clock ∧ es.toList.map (fun e => (e.key, e.val)) = l.map (fun p => (kv p.1, p.2))
section
variable {kv : K → Value} {w w' : World} {m : Nat} {l : List (K × Value)}
theorem GMap.of_heap (h : GMap kv w m l) (hh : w'.heap[m]? = w.heap[m]?) : GMap kv w' m l := by
 obtain ⟨es, clock, h1, h2⟩ := h
 exact ⟨es, clock, hh.trans h1, h2⟩
theorem GMap.drewN (h : GMap kv w m l) (n : Nat) : GMap kv (w.drewN n) m l := h
theorem GMap.lt (h : GMap kv w m l) : m < w.heap.size := by
 obtain ⟨es, clock, h1, h2⟩ := h
 exact (Array.getElem?_eq_some_iff.1 h1).1
theorem GMap.nodup (h : GMap kv w m l) : (l.map (·.1)).Nodup := by
 obtain ⟨es, clock, _, ⟨_, _, h3⟩, h4⟩ := h
 have : es.toList.map (·.key) = (l.map (·.1)).map kv := by
  have := congrArg (List.map (·.1)) h4
  simpa [List.map_map, Function.comp_def] using this
 rw [this] at h3
 exact (List.pairwise_map.1 h3).imp fun hne e => hne (congrArg _ e)
theorem GMap.made (kv : K → Value) (w : World) : GMap kv (w.alloc (.map #[] 0)) w.heap.size [] := ⟨#[], 0, (heap_alloc w _).1, stamped_empty 0, rfl⟩
end
section
variable {P : Program} {kv : K → Value} {w : World} {m : Nat} {l : List (K × Value)} {t kt et : TypeId} {d : TypeDesc}
theorem find_at (hkv : ∀ k, IsKey d (kv k)) (hinj : ∀ a b, kv a = kv b → a = b) {es : Array MapEntry} (hp : es.toList.map (fun e => (e.key, e.val)) = l.map (fun p => (kv p.1, p.2))) (k : K) :
  (Instr.findNow d (kv k) es.toList 0 = some none ∧ k ∉ l.map (·.1) ∧ ∀ x ∈ es.toList, x.key ≠ kv k) ∨ ∃ j e, Instr.findNow d (kv k) es.toList 0 = some (some (j, e.val)) ∧ es.toList[j]? = some e ∧ e.key = kv k ∧ l[j]? = some (k, e.val) := by
 have hkeys : ∀ x ∈ es.toList, IsKey d x.key := fun x hx => by
  have : (x.key, x.val) ∈ l.map (fun p => (kv p.1, p.2)) := hp ▸ List.mem_map.2 ⟨x, hx, rfl⟩
  obtain ⟨p, _, he⟩ := List.mem_map.1 this
  injection he with he _
  rw [← he]
  exact hkv _
 rcases findNow_spec (hkv k) es.toList 0 hkeys with ⟨h1, h2⟩ | ⟨j, e, h1, h2, h3⟩
 ·refine .inl ⟨h1, fun hm => ?_, h2⟩
  obtain ⟨p, hpl, hpk⟩ := List.mem_map.1 hm
  have : (kv p.1, p.2) ∈ es.toList.map (fun e => (e.key, e.val)) := hp ▸ List.mem_map.2 ⟨p, hpl, rfl⟩
  obtain ⟨x, hx, he⟩ := List.mem_map.1 this
  injection he with he _
  exact h2 x hx (by rw [he, hpk])
 ·refine .inr ⟨j, e, by simpa using h1, h2, h3, ?_⟩
  have h5 : (es.toList.map (fun e => (e.key, e.val)))[j]? = some (e.key, e.val) := by simp [h2]
  rw [hp, List.getElem?_map] at h5
  obtain ⟨p, hpj, he⟩ := Option.map_eq_some_iff.1 h5
  injection he with he1 he2
  rw [hpj]
  have : p.1 = k := hinj _ _ (he1.trans h3)
  rw [← this, ← he2]
end
section
variable [DecidableEq K]
variable {P : Program} {kv : K → Value} {w : World} {m : Nat} {l : List (K × Value)} {t kt et : TypeId} {d : TypeDesc}
theorem run_lookup_g (ht : P.underlying t = some (.map kt et)) (hk : P.underlying kt = some d) (hkv : ∀ k, IsKey d (kv k)) (hinj : ∀ a b, kv a = kv b → a = b)
  {z : Value} (hz : ∀ w : World, (zeroValue et).run P w = .ok z w) (h : GMap kv w m l) (k : K) :
  (Instr.lookup t (.map (some m)) (kv k) false).run P w = .ok ((gget l k).getD z) w ∧
  (Instr.lookup t (.map (some m)) (kv k) true).run P w = .ok (.tuple #[(gget l k).getD z, .bool (gget l k).isSome]) w := by
 obtain ⟨es, clock, hm, hs, hp⟩ := id h
 rcases find_at hkv hinj hp k with ⟨h1, h2, _⟩ | ⟨j, e, h1, h2, h3, h4⟩
 ·rw [gget_none h2]
  constructor <;> simp [Instr.lookup, run_underlying ht, MapKept.run_getObj_map hm, run_checkKey hk (hkv k), run_findKey hk h1, hz, Result.andThen]
 ·rw [gget_some h.nodup (List.mem_of_getElem? h4)]
  constructor <;> simp [Instr.lookup, run_underlying ht, MapKept.run_getObj_map hm, run_checkKey hk (hkv k), run_findKey hk h1, Result.andThen]
end
section
variable {P : Program} {kv : K → Value} {w : World} {m : Nat} {l : List (K × Value)} {t kt et : TypeId} {d : TypeDesc}
end
section
variable [DecidableEq K]
variable {P : Program} {kv : K → Value} {w : World} {m : Nat} {l : List (K × Value)} {t kt et : TypeId} {d : TypeDesc}
theorem run_update_g (ht : P.underlying t = some (.map kt et)) (hk : P.underlying kt = some d) (hkv : ∀ k, IsKey d (kv k)) (hinj : ∀ a b, kv a = kv b → a = b)
  (h : GMap kv w m l) (k : K) (v : Value) :
  ∃ o, (Instr.mapUpdate t (.map (some m)) (kv k) v).run P w = .ok () (setBlock w m o) ∧ ∀ w', w'.heap[m]? = some o → GMap kv w' m (gset l k v) := by
 obtain ⟨es, clock, hm, hs, hp⟩ := id h
 rcases find_at hkv hinj hp k with ⟨h1, h2, h3⟩ | ⟨j, e, h1, h2, h3, h4⟩
 ·refine ⟨.map (es.push { key := kv k, val := v, born := clock }) (clock + 1), ?_, fun w' hw' => ⟨_, _, hw', stamped_push hs h3, ?_⟩⟩
  ·simp [Instr.mapUpdate, run_underlying ht, MapKept.run_getObj_map hm, run_checkKey hk (hkv k), run_findKey hk h1, MapKept.run_setObj_map _ hm, Result.andThen, setBlock]
  ·unfold gset
   rw [if_neg h2]
   simp [hp]
 ·have hj : es[j]? = some e := by simpa using h2
  refine ⟨.map (es.modify j fun e => { e with key := kv k, val := v }) clock, ?_, fun w' hw' => ⟨_, _, hw', stamped_modify hs j _ (fun _ _ => rfl) (fun e' _ he' => by rw [hj] at he'; cases he'; exact h3.symm), ?_⟩⟩
  ·simp [Instr.mapUpdate, run_underlying ht, MapKept.run_getObj_map hm, run_checkKey hk (hkv k), run_findKey hk h1, hj, h3, run_keyThatStays (hkv k), MapKept.run_setObj_map _ hm, Result.andThen, setBlock]
  ·rw [gset_set h.nodup h4, List.map_set, ← hp, Array.toList_modify]
   apply List.ext_getElem?
   intro i
   simp only [List.getElem?_map, List.getElem?_modify, List.getElem?_set, List.length_map]
   have hjl := (List.getElem?_eq_some_iff.1 h2).1
   by_cases hij : j = i
   ·subst hij
    have hjs : j < es.size := by simpa using hjl
    simp [hjs]
   ·simp [hij]
theorem run_delete_g {ty : TypeId} (ht : P.underlying t = some (.map kt et)) (hk : P.underlying kt = some d) (hkv : ∀ k, IsKey d (kv k)) (hinj : ∀ a b, kv a = kv b → a = b)
  (h : GMap kv w m l) (k : K) :
  ∃ o, (Builtin.delete_ #[t, kt] ty #[.map (some m), kv k]).run P w = .ok (.tuple #[]) (setBlock w m o) ∧ ∀ w', w'.heap[m]? = some o → GMap kv w' m (gdel l k) := by
 obtain ⟨es, clock, hm, hs, hp⟩ := id h
 rcases find_at hkv hinj hp k with ⟨h1, h2, h3⟩ | ⟨j, e, h1, h2, h3, h4⟩
 ·refine ⟨.map es clock, ?_, fun w' hw' => ⟨_, _, hw', hs, ?_⟩⟩
  ·simp [Builtin.delete_, run_underlying ht, MapKept.run_getObj_map hm, run_checkKey hk (hkv k), run_findKey hk h1, MapKept.run_setObj_map _ hm, Result.andThen, setBlock]
  ·rw [gdel_none h2, hp]
 ·refine ⟨.map (es.eraseIdxIfInBounds j) clock, ?_, fun w' hw' => ⟨_, _, hw', stamped_erase hs j, ?_⟩⟩
  ·simp [Builtin.delete_, run_underlying ht, MapKept.run_getObj_map hm, run_checkKey hk (hkv k), run_findKey hk h1, MapKept.run_setObj_map _ hm, Result.andThen, setBlock]
  ·have hjl := (List.getElem?_eq_some_iff.1 h2).1
   rw [gdel_erase h.nodup h4]
   unfold Array.eraseIdxIfInBounds
   rw [dif_pos (by simpa using hjl)]
   rw [Array.toList_eraseIdx, ChangeMaps.map_eraseIdx, ChangeMaps.map_eraseIdx, hp]
end
section
variable {P : Program} {kv : K → Value} {w : World} {m : Nat} {l : List (K × Value)} {t kt et : TypeId} {d : TypeDesc}
theorem run_len_g {ty : TypeId} (ht : P.underlying t = some (.map kt et)) (h : GMap kv w m l) : (Builtin.len_ #[t] ty #[.map (some m)]).run P w = .ok (.int .i64 (l.length : Int)) w := by
 obtain ⟨es, clock, hm, hs, hp⟩ := h
 have : es.size = l.length := by
  have := congrArg List.length hp
  simpa using this
 simp [Builtin.len_, run_underlying ht, MapKept.run_getObj_map hm, Result.andThen, goInt, this]
def GIter (kv : K → Value) (w : World) (r m : Nat) (l : List (K × Value)) (V : List K) : Prop :=
 ∃ es clock since seen c0, w.heap[r]? = some (.mapIter (some m) since seen c0) ∧ w.heap[m]? = some (.map es clock) ∧ Stamped es clock ∧
  es.toList.map (fun e => (e.key, e.val)) = l.map (fun p => (kv p.1, p.2)) ∧ (∀ x ∈ es.toList, x.born < since) ∧ since ≤ c0 ∧ since ≤ clock ∧
  ∀ (i : Nat) (e : MapEntry) (p : K × Value), es.toList[i]? = some e → l[i]? = some p → (seen.contains e.born = true ↔ p.1 ∈ V)
theorem GIter.map {r : Nat} {V : List K} (h : GIter kv w r m l V) : GMap kv w m l := by
 obtain ⟨es, clock, since, seen, c0, h1, h2, h3, h4, _⟩ := h
 exact ⟨es, clock, h2, h3, h4⟩
theorem GIter.of_heap {r : Nat} {V : List K} {w' : World} (h : GIter kv w r m l V) (hr : w'.heap[r]? = w.heap[r]?) (hm : w'.heap[m]? = w.heap[m]?) : GIter kv w' r m l V := by
 obtain ⟨es, clock, since, seen, c0, h1, h2, h3⟩ := h
 exact ⟨es, clock, since, seen, c0, hr.trans h1, hm.trans h2, h3⟩
theorem GIter.lt {r : Nat} {V : List K} (h : GIter kv w r m l V) : r < w.heap.size := by
 obtain ⟨es, clock, since, seen, c0, h1, _⟩ := h
 exact (Array.getElem?_eq_some_iff.1 h1).1
theorem GIter.ne {r : Nat} {V : List K} (h : GIter kv w r m l V) : r ≠ m := by
 obtain ⟨es, clock, since, seen, c0, h1, h2, _⟩ := h
 rintro rfl
 rw [h1] at h2
 cases h2
theorem GIter.ne_cells {r g : Nat} {V : List K} (h : GIter kv w r m l V) {cs : Array Value} {t : TypeId} {f : Nat × Nat} (hg : w.heap[g]? = some (.cells cs t f)) : r ≠ g := by
 obtain ⟨es, clock, since, seen, c0, h1, h2, _⟩ := h
 rintro rfl
 rw [h1] at hg
 cases hg
theorem run_range_g (ht : P.underlying t = some (.map kt et)) (h : GMap kv w m l) :
  ∃ o, (Instr.range t (.map (some m))).run P w = .ok (.pointer (some ⟨w.heap.size, 0, none⟩)) (w.alloc o) ∧ GIter kv (w.alloc o) w.heap.size m l [] := by
 obtain ⟨es, clock, hm, hs, hp⟩ := h
 refine ⟨_, run_range_map w t kt et m es clock ht hm, es, clock, clock, #[], clock, (heap_alloc w _).1, ((heap_alloc w _).2 m (Array.getElem?_eq_some_iff.1 hm).1).trans hm, hs, hp, hs.1, Nat.le_refl _, Nat.le_refl _, ?_⟩
 intro i e p _ _
 simp
theorem run_next_g {r : Nat} {V : List K} (ty : TypeId) (h : GIter kv w r m l V) :
  ((∀ p ∈ l, p.1 ∈ V) ∧ (Instr.next (.pointer (some ⟨r, 0, none⟩)) false ty).run P w = .ok (.tuple #[.bool false]) w) ∨
  ∃ p ∈ l, p.1 ∉ V ∧ ∃ (n : Nat) (o : Obj), (Instr.next (.pointer (some ⟨r, 0, none⟩)) false ty).run P w = .ok (.tuple #[.bool true, kv p.1, p.2]) (setBlock (w.drewN n) r o) ∧
   GIter kv (setBlock (w.drewN n) r o) r m l (p.1 :: V) ∧ ∀ w', w'.heap[r]? = some o → w'.heap[m]? = w.heap[m]? → (Instr.entry (.pointer (some ⟨r, 0, none⟩))).run P w' = .ok (.tuple #[kv p.1, p.2]) w' := by
 have hnd := h.map.nodup
 have hne := h.ne
 obtain ⟨es, clock, since, seen, c0, hr, hm, hs, hp, hold, hsc, hsk, hV⟩ := h
 have hlen : es.toList.length = l.length := by have := congrArg List.length hp; simpa using this
 rcases run_next_at (P := P) w ty r m since c0 seen es clock hr hm hold hsc with ⟨h0, hrun⟩ | ⟨e, he, w1, hw1, hrun⟩
 ·refine .inl ⟨fun p hpl => ?_, hrun⟩
  obtain ⟨i, hi⟩ := List.getElem?_of_mem hpl
  have hil := (List.getElem?_eq_some_iff.1 hi).1
  have hie : es.toList[i]? = some es.toList[i] := List.getElem?_eq_getElem (by omega)
  refine (hV i _ p hie hi).1 ?_
  have hL : leftOf es seen = #[] := Array.eq_empty_of_size_eq_zero h0
  unfold leftOf at hL
  rw [Array.filter_eq_empty_iff] at hL
  have := hL es.toList[i] (by simp)
  simpa using this
 ·have hmem : e ∈ es.toList ∧ seen.contains e.born = false := by
   unfold leftOf at he
   simp only [Array.toList_filter, List.mem_filter] at he
   exact ⟨he.1, by simpa using he.2⟩
  obtain ⟨i, hi⟩ := List.getElem?_of_mem hmem.1
  have hil := (List.getElem?_eq_some_iff.1 hi).1
  have hpi : l[i]? = some l[i] := List.getElem?_eq_getElem (by omega)
  have hpe : (e.key, e.val) = (kv l[i].1, l[i].2) := by
   have h5 : (es.toList.map (fun e => (e.key, e.val)))[i]? = some (e.key, e.val) := by simp [hi]
   rw [hp, List.getElem?_map, hpi] at h5
   simpa using h5.symm
  injection hpe with hpe1 hpe2
  have hnot : l[i].1 ∉ V := fun hm' => by
   have := (hV i e _ hi hpi).2 hm'
   rw [hmem.2] at this
   cases this
  obtain ⟨n, hn⟩ : ∃ n, w1 = w.drewN n := by
   rcases hw1 with rfl | rfl
   ·exact ⟨0, rfl⟩
   ·exact ⟨1, rfl⟩
  subst hn
  refine .inr ⟨l[i], List.mem_of_getElem? hpi, hnot, n, .mapIter (some m) since (seen.push e.born) clock, by rw [← hpe1, ← hpe2]; exact hrun, ?_, fun w' hr' hm' => ?_⟩
  ·have hrl : r < (w.drewN n).heap.size := (Array.getElem?_eq_some_iff.1 hr).1
   refine ⟨es, clock, since, seen.push e.born, clock, (by show ((w.drewN n).heap.setIfInBounds r _)[r]? = _; rw [Array.getElem?_setIfInBounds_self, if_pos hrl]), ?_, hs, hp, hold, ?_, ?_, ?_⟩
   ·show ((w.drewN n).heap.setIfInBounds r _)[m]? = _
    rw [Array.getElem?_setIfInBounds_ne hne]
    exact hm
   ·exact hsk
   ·exact hsk
   ·intro j e' p' hj hpj
    have hseen : (seen.push e.born).contains e'.born = true ↔ e'.born = e.born ∨ seen.contains e'.born = true := by
     simp only [Array.contains_push, Bool.or_eq_true, beq_iff_eq]
     exact Or.comm
    rw [hseen, hV j e' p' hj hpj, List.mem_cons]
    have hborn : e'.born = e.born ↔ p'.1 = l[i].1 := by
     constructor
     ·intro hb
      have h1 : (es.toList.map (·.born))[j]? = some e.born := by simp [hj, hb]
      have h2 : (es.toList.map (·.born))[i]? = some e.born := by simp [hi]
      have hji := (List.getElem?_inj (List.getElem?_eq_some_iff.1 h1).1 hs.2.1).1 (h1.trans h2.symm)
      subst hji
      rw [hpi] at hpj
      injection hpj with hpj
      rw [hpj]
     ·intro hb
      have h1 : (l.map (·.1))[j]? = some l[i].1 := by simp [hpj, hb]
      have h2 : (l.map (·.1))[i]? = some l[i].1 := by simp [hpi]
      have hji := (List.getElem?_inj (List.getElem?_eq_some_iff.1 h1).1 hnd).1 (h1.trans h2.symm)
      subst hji
      rw [hi] at hj
      injection hj with hj
      rw [hj]
    rw [hborn]
  ·have := run_entry_at (P := P) w' r m since seen es clock e hr' (hm'.trans hm) hmem.1 hs.2.1
   rw [← hpe1, ← hpe2]
   exact this
end
end
end Go.Mer
namespace Go.Proofs.YtdibkdgafidjgaaGreatDoor
open Go.RowKit Go.Mer
structure FileS where
 data : List UInt8
 lasts : Nat
abbrev Files := List (ByteArray × FileS)
structure DSt where
 room : Nat
 fuse : Option Nat
 files : Files
def totF (l : List (ByteArray × FileS)) : Nat := (l.map fun p => p.2.data.length).sum
def nameOk (s : ByteArray) : Bool := decide (1 ≤ s.size) && decide (s.size ≤ 64)
structure FileR where
 blk : Nat
 v : Value
 data : List UInt8
 lasts : Nat
abbrev FilesR := List (ByteArray × FileR)
def FileR.abs (c : FileR) : FileS := ⟨c.data, c.lasts⟩
def FileR.ptr (c : FileR) : Value := .pointer (some ⟨c.blk, 0, none⟩)
def absL (L : FilesR) : Files := L.map fun p => (p.1, p.2.abs)
def ptrL (L : FilesR) : List (ByteArray × Value) := L.map fun p => (p.1, p.2.ptr)
def FileOk (w : World) (c : FileR) : Prop :=
 w.heap[c.blk]? = some (.cells #[c.v, .int .i64 (c.lasts : Int)] 105 (0, 0)) ∧ Own w 5 1 c.v c.data.length (u8s c.data) ∧ c.lasts ≤ c.data.length
structure DiskC (w : World) (d m room : Nat) (fused : Bool) (left : Int) (L : FilesR) : Prop where
 cell : w.heap[d]? = some (.cells #[.int .i64 (room : Int), .map (some m), .bool fused, .int .i64 left] 80 (0, 0))
 map : GMap Value.string w m (ptrL L)
 files : ∀ p ∈ L, FileOk w p.2
 blks : (L.map (·.2.blk)).Nodup
 rows : (L.filterMap (·.2.v.ownBlock)).Nodup
 fits : totF (absL L) ≤ room
 roomy : room ≤ 1073741824
 few : L.length ≤ 4096
 left0 : 0 ≤ left
 leftM : left ≤ 9223372036854775807
def FP (d m : Nat) (L : FilesR) : Nat → Prop := fun k => k = d ∨ k = m ∨ ∃ p ∈ L, k = p.2.blk ∨ p.2.v.ownBlock = some k
def fuseOf (fused : Bool) (left : Int) : Option Nat := if fused then some left.toNat else none
def DiskAt (w : World) (d : Nat) (s : DSt) (F : Nat → Prop) : Prop :=
 ∃ m fused left L, DiskC w d m s.room fused left L ∧ s.fuse = fuseOf fused left ∧ s.files = absL L ∧ (∀ k, FP d m L k → F k) ∧ ∀ k, F k → k < w.heap.size
section
variable {w w' : World} {d m room : Nat} {fused : Bool} {left : Int} {L : FilesR}
theorem FileOk.keep {S : Nat → Prop} {c : FileR} (h : FileOk w c) (hk : Kp S w w') (h1 : ¬ S c.blk) (h2 : ∀ g, c.v.ownBlock = some g → ¬ S g) : FileOk w' c :=
 ⟨hk.get h.1 h1, h.2.1.keep hk h2, h.2.2⟩
theorem DiskC.keep {S : Nat → Prop} (h : DiskC w d m room fused left L) (hk : Kp S w w') (hS : ∀ k, FP d m L k → ¬ S k) : DiskC w' d m room fused left L :=
 { h with
  cell := hk.get h.cell (hS d (.inl rfl))
  map := h.map.of_heap (hk.block m h.map.lt (hS m (.inr (.inl rfl))))
  files := fun p hp => (h.files p hp).keep hk (hS _ (.inr (.inr ⟨p, hp, .inl rfl⟩))) fun g hg => hS g (.inr (.inr ⟨p, hp, .inr hg⟩)) }
theorem DiskC.keep_no (h : DiskC w d m room fused left L) (hk : Kp No w w') : DiskC w' d m room fused left L := h.keep hk fun _ _ x => x
theorem DiskC.lt (h : DiskC w d m room fused left L) : ∀ k, FP d m L k → k < w.heap.size := by
 rintro k (rfl | rfl | ⟨p, hp, rfl | hk⟩)
 ·exact get_lt h.cell
 ·exact h.map.lt
 ·exact get_lt (h.files p hp).1
 ·exact (h.files p hp).2.1.lt k hk
theorem keys_ptrL (L : FilesR) : (ptrL L).map (·.1) = L.map (·.1) := keys_mapv _ L
theorem keys_absL (L : FilesR) : (absL L).map (·.1) = L.map (·.1) := keys_mapv _ L
theorem DiskC.keys (h : DiskC w d m room fused left L) : (L.map (·.1)).Nodup := by have := h.map.nodup; rwa [keys_ptrL] at this
theorem DiskAt.keep {S F : Nat → Prop} {s : DSt} (h : DiskAt w d s F) (hk : Kp S w w') (hS : ∀ k, F k → ¬ S k) : DiskAt w' d s F := by
 obtain ⟨m, fused, left, L, h1, h2, h3, h4, h5⟩ := h
 exact ⟨m, fused, left, L, h1.keep hk (fun k hf => hS k (h4 k hf)), h2, h3, h4, fun k hf => hk.lt (h5 k hf)⟩
theorem DiskAt.keep_no {F : Nat → Prop} {s : DSt} (h : DiskAt w d s F) (hk : Kp No w w') : DiskAt w' d s F := h.keep hk fun _ _ x => x
theorem DiskC.setFuse (h : DiskC w d m room fused left L) (fused' : Bool) (left' : Int) (h0 : 0 ≤ left') (h1 : left' ≤ 9223372036854775807) (hk : Kp (One d) w w')
  (hc : w'.heap[d]? = some (.cells #[.int .i64 (room : Int), .map (some m), .bool fused', .int .i64 left'] 80 (0, 0))) : DiskC w' d m room fused' left' L :=
 have hne : ∀ k, FP d m L k → k ≠ d → ¬ One d k := fun _ _ h1 h2 => h1 h2
 have hmd : m ≠ d := fun e => by
  obtain ⟨es, c, hm, _⟩ := h.map
  subst e
  rw [h.cell] at hm
  cases hm
 { h with
  cell := hc
  map := h.map.of_heap (hk.block m h.map.lt hmd)
  files := fun p hp => (h.files p hp).keep hk (fun e => ne_of_type (h.files p hp).1 h.cell (by decide) e) fun g hg e => by
   obtain ⟨cur, hcur⟩ := (h.files p hp).2.1.type g hg
   exact ne_of_type hcur h.cell (by decide) e
  left0 := h0
  leftM := h1 }
end
def totV (l : Files) (V : List ByteArray) : Nat := totF (l.filter fun p => decide (p.1 ∈ V))
def restV {β : Type} (l : List (ByteArray × β)) (V : List ByteArray) : Nat := (l.filter fun p => decide (p.1 ∉ V)).length
theorem totF_nil : totF [] = 0 := rfl
theorem totF_cons (p : ByteArray × FileS) (l : Files) : totF (p :: l) = p.2.data.length + totF l := by simp [totF]
theorem totF_append (l k : Files) : totF (l ++ k) = totF l + totF k := by simp [totF]
theorem totV_nil (l : Files) : totV l [] = 0 := by
 unfold totV
 rw [List.filter_eq_nil_iff.2 (by simp)]
 rfl
theorem filter_step {β : Type} {l : List (ByteArray × β)} (hn : (l.map (·.1)).Nodup) {p : ByteArray × β} (hp : p ∈ l) {V : List ByteArray} (hV : p.1 ∉ V) :
  (l.filter fun q => decide (q.1 ∈ p.1 :: V)).Perm (p :: l.filter fun q => decide (q.1 ∈ V)) ∧ restV l V = restV l (p.1 :: V) + 1 := by
 induction l with
 | nil => cases hp
 | cons q l ih =>
  simp only [List.map_cons, List.nodup_cons] at hn
  rcases List.mem_cons.1 hp with rfl | hp'
  ·have e1 : (l.filter fun q => decide (q.1 ∈ p.1 :: V)) = l.filter fun q => decide (q.1 ∈ V) := by
    apply List.filter_congr
    intro x hx
    have : x.1 ≠ p.1 := fun e => hn.1 (e ▸ List.mem_map.2 ⟨x, hx, rfl⟩)
    simp [this]
   have e2 : (l.filter fun q => decide (q.1 ∉ p.1 :: V)) = l.filter fun q => decide (q.1 ∉ V) := by
    apply List.filter_congr
    intro x hx
    have : x.1 ≠ p.1 := fun e => hn.1 (e ▸ List.mem_map.2 ⟨x, hx, rfl⟩)
    simp [this]
   unfold restV
   rw [List.filter_cons, List.filter_cons, List.filter_cons, List.filter_cons, e1, e2]
   simp [hV]
  ·have hqp : q.1 ≠ p.1 := fun e => hn.1 (e ▸ List.mem_map.2 ⟨p, hp', rfl⟩)
   obtain ⟨i1, i2⟩ := ih hn.2 hp'
   unfold restV at i2 ⊢
   by_cases hq : q.1 ∈ V
   ·constructor
    ·have ea : decide (q.1 ∈ p.1 :: V) = true := by simp [hq]
     have eb : decide (q.1 ∈ V) = true := by simp [hq]
     rw [List.filter_cons, List.filter_cons, ea, eb, if_pos rfl, if_pos rfl]
     exact (i1.cons q).trans (List.Perm.swap _ _ _)
    ·have ea : decide (q.1 ∉ p.1 :: V) = false := by simp [hq]
     have eb : decide (q.1 ∉ V) = false := by simp [hq]
     rw [List.filter_cons, List.filter_cons, ea, eb]
     simpa using i2
   ·constructor
    ·have ea : decide (q.1 ∈ p.1 :: V) = false := by simp [hq, hqp]
     have eb : decide (q.1 ∈ V) = false := by simp [hq]
     rw [List.filter_cons, List.filter_cons, ea, eb]
     simpa using i1
    ·have ea : decide (q.1 ∉ p.1 :: V) = true := by simp [hq, hqp]
     have eb : decide (q.1 ∉ V) = true := by simp [hq]
     rw [List.filter_cons, List.filter_cons, ea, eb, if_pos rfl, if_pos rfl, List.length_cons, List.length_cons, i2]
theorem totF_perm {l k : Files} (h : l.Perm k) : totF l = totF k := by
 unfold totF
 exact (h.map _).sum_nat
theorem totV_step {l : Files} (hn : (l.map (·.1)).Nodup) {p : ByteArray × FileS} (hp : p ∈ l) {V : List ByteArray} (hV : p.1 ∉ V) : totV l (p.1 :: V) = totV l V + p.2.data.length := by
 unfold totV
 rw [totF_perm (filter_step hn hp hV).1, totF_cons]
 omega
theorem totF_filter (l : Files) (f : ByteArray × FileS → Bool) : totF (l.filter f) ≤ totF l := by
 induction l with
 | nil => simp
 | cons p l ih =>
  rw [List.filter_cons]
  split <;> simp only [totF_cons] <;> omega
theorem totV_le (l : Files) (V : List ByteArray) : totV l V ≤ totF l := totF_filter _ _
theorem totV_all {l : Files} {V : List ByteArray} (h : ∀ p ∈ l, p.1 ∈ V) : totV l V = totF l := by
 unfold totV
 rw [List.filter_eq_self.2 (by simpa using h)]
theorem mem_len {l : Files} {p : ByteArray × FileS} (h : p ∈ l) : p.2.data.length ≤ totF l := by
 induction l with
 | nil => cases h
 | cons q l ih =>
  rw [totF_cons]
  rcases List.mem_cons.1 h with rfl | h
  ·omega
  ·have := ih h; omega
theorem totF_gset {l : Files} (hn : (l.map (·.1)).Nodup) {k : ByteArray} {x y : FileS} (h : gget l k = some x) : totF (gset l k y) + x.data.length = totF l + y.data.length := by
 obtain ⟨l1, l2, rfl, _⟩ := gget_split h
 rw [gset_split hn]
 simp only [totF_append, totF_cons]
 omega
theorem totF_gset_new {l : Files} {k : ByteArray} {y : FileS} (h : gget l k = none) : totF (gset l k y) = totF l + y.data.length := by
 rw [gset_new (gget_none_iff.1 h), totF_append, totF_cons, totF_nil]
 rfl
theorem gget_abs (L : FilesR) (k : ByteArray) : gget (absL L) k = (gget L k).map FileR.abs := gget_mapv _ L k
theorem gset_abs (L : FilesR) (k : ByteArray) (c : FileR) : absL (gset L k c) = gset (absL L) k c.abs := gset_mapv _ L k c
theorem gdel_abs (L : FilesR) (k : ByteArray) : absL (gdel L k) = gdel (absL L) k := gdel_mapv _ L k
section
variable {w w' : World} {d m room : Nat} {fused : Bool} {left : Int} {L l1 l2 : FilesR} {name : ByteArray} {c c' : FileR}
theorem DiskC.setFile (h : DiskC w d m room fused left L) (hc : gget L name = some c) (hblk : c'.blk = c.blk) (hk : Kp (fun k => k = c.blk ∨ c.v.ownBlock = some k) w w') (hok : FileOk w' c')
  (hrow : c'.v.ownBlock = c.v.ownBlock ∨ ∃ g, c'.v.ownBlock = some g ∧ w.heap.size ≤ g) (hfit : totF (absL (gset L name c')) ≤ room) :
  DiskC w' d m room fused left (gset L name c') ∧ Foot (FP d m L) (FP d m (gset L name c')) w ∧ Kp (FP d m L) w w' := by
 have hkeys := h.keys
 have hcf := h.files _ (gget_mem hc)
 have hmem := gget_mem hc
 obtain ⟨l1, l2, rfl, hn1⟩ := gget_split hc
 rw [gset_split hkeys] at hfit ⊢
 have hb := h.blks
 have hr := h.rows
 simp only [List.map_append, List.map_cons] at hb
 simp only [List.filterMap_append] at hr
 have hcrow : ∀ g, c.v.ownBlock = some g → ∃ cur, w.heap[g]? = some (.cells cur 5 (0, 0)) := fun g hg => hcf.2.1.type g hg
 obtain ⟨es, ck, hm, _⟩ := h.map
 have hother : ∀ p, p ∈ l1 ∨ p ∈ l2 → FileOk w' p.2 := fun p hp => by
  have hp' : p ∈ l1 ++ (name, c) :: l2 := by rcases hp with hp | hp <;> simp [hp]
  have hpf := h.files p hp'
  refine hpf.keep hk (fun hS => ?_) fun g hg hS => ?_
  ·rcases hS with hS | hS
   ·rw [List.nodup_append] at hb
    rcases hp with hp | hp
    ·exact hb.2.2 _ (List.mem_map.2 ⟨p, hp, rfl⟩) _ (List.mem_cons_self ..) hS
    ·have := (List.nodup_cons.1 hb.2.1).1
     exact this (List.mem_map.2 ⟨p, hp, hS⟩)
   ·obtain ⟨cur, hcur⟩ := hcrow _ hS
    exact ne_of_type hpf.1 hcur (by decide) rfl
  ·rcases hS with hS | hS
   ·obtain ⟨cur, hcur⟩ := hpf.2.1.type g hg
    exact ne_of_type hcur hcf.1 (by decide) hS
   ·rw [List.filterMap_cons, hS] at hr
    rw [List.nodup_append] at hr
    rcases hp with hp | hp
    ·exact hr.2.2 _ (List.mem_filterMap.2 ⟨p, hp, hg⟩) _ (List.mem_cons_self ..) rfl
    ·exact (List.nodup_cons.1 hr.2.1).1 (List.mem_filterMap.2 ⟨p, hp, hg⟩)
 refine ⟨{ h with cell := ?_, map := ?_, files := ?_, blks := ?_, rows := ?_, fits := hfit, few := ?_ }, ?_, hk.mono fun k _ hk => ?_⟩
 ·refine hk.get h.cell fun hS => ?_
  rcases hS with hS | hS
  ·exact ne_of_type h.cell hcf.1 (by decide) hS
  ·obtain ⟨cur, hcur⟩ := hcrow _ hS
   exact ne_of_type h.cell hcur (by decide) rfl
 ·have e : ptrL (l1 ++ (name, c') :: l2) = ptrL (l1 ++ (name, c) :: l2) := by simp [ptrL, FileR.ptr, hblk]
  rw [e]
  refine h.map.of_heap (hk.block m h.map.lt fun hS => ?_)
  rcases hS with hS | hS
  ·rw [hS, hcf.1] at hm
   cases hm
  ·obtain ⟨cur, hcur⟩ := hcrow _ hS
   rw [hcur] at hm
   cases hm
 ·intro p hp
  rcases List.mem_append.1 hp with hp | hp
  ·exact hother p (.inl hp)
  ·rcases List.mem_cons.1 hp with rfl | hp
   ·exact hok
   ·exact hother p (.inr hp)
 ·simpa [hblk] using h.blks
 ·rcases hrow with hrow | ⟨g, hg, hgs⟩
  ·have := h.rows
   simp only [List.filterMap_append, List.filterMap_cons] at this ⊢
   rw [hrow]
   exact this
  ·have hlt : ∀ p ∈ l1 ++ (name, c) :: l2, ∀ k, p.2.v.ownBlock = some k → k ≠ g := fun p hp k hk e => by
    have := (h.files p hp).2.1.lt k hk
    omega
   simp only [List.filterMap_append, List.filterMap_cons, hg] at hr ⊢
   rw [List.nodup_append] at hr ⊢
   have hr2 : (l2.filterMap (·.2.v.ownBlock)).Nodup := by
    rcases hv : c.v.ownBlock with _ | k
    ·have := hr.2.1; simpa only [hv] using this
    ·have := hr.2.1; simp only [hv] at this; exact (List.nodup_cons.1 this).2
   refine ⟨hr.1, List.nodup_cons.2 ⟨fun hm => ?_, hr2⟩, fun a ha b hb' e => ?_⟩
   ·obtain ⟨p, hp, hpg⟩ := List.mem_filterMap.1 hm
    exact hlt p (by simp [hp]) _ hpg rfl
   ·subst e
    rcases List.mem_cons.1 hb' with rfl | hb'
    ·obtain ⟨p, hp, hpg⟩ := List.mem_filterMap.1 ha
     exact hlt p (by simp [hp]) _ hpg rfl
    ·refine hr.2.2 a ha a ?_ rfl
     rcases hv : c.v.ownBlock with _ | k
     ·exact hb'
     ·exact List.mem_cons_of_mem _ hb'
 ·simpa using h.few
 ·rintro k (rfl | rfl | ⟨p, hp, hpk⟩)
  ·exact .inl (.inl rfl)
  ·exact .inl (.inr (.inl rfl))
  ·rcases List.mem_append.1 hp with hp | hp
   ·exact .inl (.inr (.inr ⟨p, by simp [hp], hpk⟩))
   ·rcases List.mem_cons.1 hp with rfl | hp
    ·rcases hpk with hpk | hpk
     ·exact .inl (.inr (.inr ⟨_, hmem, .inl (hpk.trans hblk)⟩))
     ·rcases hrow with hrow | ⟨g, hg, hgs⟩
      ·exact .inl (.inr (.inr ⟨_, hmem, .inr (hrow ▸ hpk)⟩))
      ·right
       have : some k = some g := hpk.symm.trans hg
       injection this with this
       omega
    ·exact .inl (.inr (.inr ⟨p, by simp [hp], hpk⟩))
 ·exact .inr (.inr ⟨_, hmem, hk⟩)
theorem DiskC.addFile (h : DiskC w d m room fused left L) (hc : gget L name = none) (hk : Kp (One m) w w') (hm' : GMap Value.string w' m (gset (ptrL L) name c'.ptr)) (hok : FileOk w' c')
  (hblk : w.heap.size ≤ c'.blk) (hrow : ∀ g, c'.v.ownBlock = some g → w.heap.size ≤ g) (hfit : totF (absL (gset L name c')) ≤ room) (hfew : L.length < 4096) :
  DiskC w' d m room fused left (gset L name c') ∧ Foot (FP d m L) (FP d m (gset L name c')) w ∧ Kp (FP d m L) w w' := by
 have hnk := gget_none_iff.1 hc
 have hmap : ptrL (gset L name c') = gset (ptrL L) name c'.ptr := gset_mapv _ L name c'
 rw [← hmap] at hm'
 rw [gset_new hnk] at hfit hm' ⊢
 obtain ⟨es, ck, hm, _⟩ := h.map
 refine ⟨{ h with cell := ?_, map := hm', files := ?_, blks := ?_, rows := ?_, fits := hfit, few := ?_ }, ?_, hk.mono fun k _ hk => .inr (.inl hk)⟩
 ·exact hk.get h.cell fun hS => by
   have hS : d = m := hS
   have hc := h.cell
   rw [hS, hm] at hc
   cases hc
 ·intro p hp
  rcases List.mem_append.1 hp with hp | hp
  ·refine (h.files p hp).keep hk (fun hS => ?_) fun g hg hS => ?_
   ·have hf := (h.files p hp).1
    rw [show p.2.blk = m from hS, hm] at hf
    cases hf
   ·obtain ⟨cur, hcur⟩ := (h.files p hp).2.1.type g hg
    rw [show g = m from hS, hm] at hcur
    cases hcur
  ·simp only [List.mem_singleton] at hp
   subst hp
   exact hok
 ·rw [List.map_append, List.nodup_append]
  refine ⟨h.blks, by simp, fun a ha b hb e => ?_⟩
  simp only [List.map_cons, List.map_nil, List.mem_singleton] at hb
  obtain ⟨p, hp, rfl⟩ := List.mem_map.1 ha
  have := get_lt (h.files p hp).1
  omega
 ·rw [List.filterMap_append, List.nodup_append]
  refine ⟨h.rows, ?_, fun a ha b hb e => ?_⟩
  ·cases hv : c'.v.ownBlock <;> simp [hv]
  ·obtain ⟨p, hp, hpa⟩ := List.mem_filterMap.1 ha
   obtain ⟨q, hq, hqb⟩ := List.mem_filterMap.1 hb
   simp only [List.mem_singleton] at hq
   subst hq
   have := (h.files p hp).2.1.lt a hpa
   have := hrow b hqb
   omega
 ·rw [List.length_append]
  simp
  omega
 ·rintro k (rfl | rfl | ⟨p, hp, hpk⟩)
  ·exact .inl (.inl rfl)
  ·exact .inl (.inr (.inl rfl))
  ·rcases List.mem_append.1 hp with hp | hp
   ·exact .inl (.inr (.inr ⟨p, hp, hpk⟩))
   ·simp only [List.mem_singleton] at hp
    subst hp
    right
    rcases hpk with rfl | hpk
    ·exact hblk
    ·exact hrow k hpk
end
theorem kindStr : Tryz.prog.underlying 9 = some .string := Tryz.underlying9
theorem strKey (k : ByteArray) : MapKept.IsKey .string (Value.string k) := trivial
theorem strInj (a b : ByteArray) (h : Value.string a = Value.string b) : a = b := by injection h
theorem zeroPtr (w : World) : (zeroValue 103).run Tryz.prog w = .ok (.pointer none) w := by kernel_rfl
theorem infoByte : (Tryz.prog.info? 5).map (fun i => (i.zero, i.size, i.bytes)) = some (some (.int .u8 0), 1, 1) := by kernel_rfl
theorem look_file {w : World} {m : Nat} {l : List (ByteArray × Value)} (h : GMap Value.string w m l) (k : ByteArray) :
  (Instr.lookup 78 (.map (some m)) (.string k) false).run Tryz.prog w = .ok ((gget l k).getD (.pointer none)) w :=
 (run_lookup_g Tryz.underlying78 kindStr strKey strInj zeroPtr h k).1
end Go.Proofs.YtdibkdgafidjgaaGreatDoor

