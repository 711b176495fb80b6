/-
  A region that draws its order, walked once, in an order of our own. Each operation is of a kind: 0: it yields one value in every world that meets S; 1: it yields one value in the world at hand, and at most draws; 2: anything, when nothing else is ready.
-/
import Derived.Deep.Quiet
import Derived.OrdersHeld
import Derived.Tactics2
import Derived.KernelRfl
import Derived.WalkKit
namespace Go.Mer
open Go

/-- Which operations wait for i, at whatever remove (one pass in the text's order). -/
def depsOn (ops : Array Oper) (i : Nat) : Array Bool :=
  (List.range ops.size).foldl (fun acc j => acc.push (match ops[j]? with
    | some o => o.after.any fun e => Region.binds .any e && (e.on == i || acc.getD e.on false)
    | none => false)) #[]
def depsOk (ops : Array Oper) (ks : List Nat) (listed dep : Array Bool) (i : Nat) : Bool :=
  (List.range ops.size).all fun j =>
    (!dep.getD j false || (j != i && !listed.getD j true && match ops[j]? with
      | some o => o.after.any fun e => Region.binds .any e && (e.on == i || dep.getD e.on false)
      | none => false)) &&
    (dep.getD j false || j == i || listed.getD j true || ks.getD j 2 != 2)
def ordFrom (ops : Array Oper) (ks : List Nat) : List Nat → Array Bool → Bool
  | [], listed => (Region.ready .any ops listed).isEmpty
  | i :: rest, listed =>
    (Region.ready .any ops listed).contains i && Region.free .any ops listed i &&
    (match ks.getD i 2 with
     | 0 => true
     | 1 => depsOk ops ks listed (depsOn ops i) i
     | 2 => Region.ready .any ops listed == [i]
     | _ => false) &&
    ordFrom ops ks rest (listed.setIfInBounds i true)
def ordB (ops : Array Oper) (ks ord : List Nat) : Bool := Region.noSelect ops && ord.length == ops.size && ordFrom ops ks ord (Array.replicate ops.size false)

/-- The world after some draws. -/
def Dr (w : World) : World → Prop := fun w' => ∃ n, w' = w.drewN n

section
variable {P : Program} {ops : Array Oper} {Q : Exit → Act → World → Prop} {S : World → Prop} {ks : List Nat}

/-- Every order, each operation by its kind. -/
def anyK (P : Program) (ops : Array Oper) (ks : List Nat) (S : World → Prop) (Q : Exit → Act → World → Prop) : Nat → Array Bool → Act → World → Prop
  | 0, listed, a, w => Region.ready .any ops listed = [] ∧ ∀ n, Q .normal a (w.drewN n)
  | fuel + 1, listed, a, w =>
    (Region.ready .any ops listed = [] → ∀ n, Q .normal a (w.drewN n)) ∧
    ∀ i ∈ Region.ready .any ops listed, ∀ o, ops[i]? = some o →
      if ks.getD i 2 = 2 then ∀ n, wpOp P ops Q i (fun a' w' => S w' ∧ anyK P ops ks S Q fuel (listed.setIfInBounds i true) a' w') a (w.drewN n)
      else ∃ v, YieldsIn P ops (Dr w) o v a ∧ anyK P ops ks S Q fuel (listed.setIfInBounds i true) (a.put o.dst v) w

theorem wpAny_of_anyK : ∀ (fuel : Nat) (listed : Array Bool) (a : Act) (w : World) (n : Nat), anyK P ops ks S Q fuel listed a w → wpAny P .any ops Q fuel listed a (w.drewN n)
  | 0, _, _, _, n, h => ⟨h.1, h.2 n⟩
  | fuel + 1, listed, a, w, n, h => by
    refine ⟨fun h0 => h.1 h0 n, fun i hi => ?_⟩
    obtain ⟨_, o, ho, _⟩ := mem_ready.1 hi
    have h2 := h.2 i hi o ho
    split at h2
    · exact wpOp_mono (fun a w hh => wpAny_of_anyK fuel _ a w 0 hh.2) (h2 n)
    · obtain ⟨v, hy, hk⟩ := h2
      exact wpOp_of_qOp (C := Dr w) (K := fun a => anyK P ops ks S Q fuel (listed.setIfInBounds i true) a w) ⟨n, rfl⟩ (fun a' w' ⟨m, hw'⟩ hh => by subst hw'; exact wpAny_of_anyK fuel _ a' w m hh) (hy.qOp ho hk)

theorem yieldsIn_of_if {w : World} {o : Oper} {v : Value} {a : Act} (hS : ∀ n, S (w.drewN n)) (h : YieldsIf P ops S o v a) : YieldsIn P ops (Dr w) o v a :=
  h.imp (fun ⟨x, y⟩ => ⟨x, fun w' ⟨n, hn⟩ => by subst hn; unfold Oper.quietAt; rw [y _ (hS n)]; exact ⟨rfl, rfl⟩⟩) id

theorem anyK_held {i : Nat} {oi : Oper} {v : Value} (hSd : ∀ w n, S w → S (w.drewN n)) (hi : ops[i]? = some oi) (hki : ks.getD i 2 ≠ 2) (hsel : ∀ (j : Nat) (o : Oper) cs b, ops[j]? = some o → o.op ≠ .select cs b)
    (hQ : ∀ c a w, Q (.panic c) (a.put oi.dst v) w → Q (.panic c) a w) :
    ∀ (fuel : Nat) (listed : Array Bool) (a : Act) (w : World), S w →
      (∀ j oj, ops[j]? = some oj → j ≠ i → listed.getD j true = false → (∀ e ∈ oj.after, Region.binds .any e = true → e.on ≠ i) → oi.apart ops oj = true) →
      i ∈ Region.ready .any ops listed → YieldsIf P ops S oi v a →
      anyK P ops ks S Q fuel (listed.setIfInBounds i true) (a.put oi.dst v) w → anyK P ops ks S Q (fuel + 1) listed a w := by
  intro fuel
  induction fuel with
  | zero =>
    intro listed a w hS _ hr hy H
    refine ⟨fun h => (by rw [h] at hr; cases hr), fun j hj o ho => ?_⟩
    by_cases hji : j = i
    · subst hji
      rw [hi] at ho; injection ho with ho; subst ho
      rw [if_neg hki]
      exact ⟨v, yieldsIn_of_if (fun n => hSd w n hS) hy, H⟩
    · have := ready_mono hj hji
      rw [H.1] at this
      cases this
  | succ fuel ih =>
    intro listed a w hS hfree hr hy H
    refine ⟨fun h => (by rw [h] at hr; cases hr), fun j hj o ho => ?_⟩
    by_cases hji : j = i
    · subst hji
      rw [hi] at ho; injection ho with ho; subst ho
      rw [if_neg hki]
      exact ⟨v, yieldsIn_of_if (fun n => hSd w n hS) hy, H⟩
    · have h1 := H.2 j (ready_mono hj hji) o ho
      obtain ⟨hjun, oj, hoj, hall⟩ := mem_ready.1 hj
      rw [ho] at hoj; injection hoj with hoj; subst hoj
      have hnot : ∀ e ∈ o.after, Region.binds .any e = true → e.on ≠ i := fun e he hb heq => by
        have h1 := hall e he hb
        have h0 := (mem_ready.1 hr).1
        rw [heq] at h1
        rcases Nat.lt_or_ge i listed.size with h' | h'
        · simp [h'] at h0 h1; rw [h0] at h1; cases h1
        · simp [Array.getElem?_eq_none h'] at h1
      have hap := hfree j o ho hji hjun hnot
      have hfree' : ∀ k ok, ops[k]? = some ok → k ≠ i → (listed.setIfInBounds j true).getD k true = false →
          (∀ e ∈ ok.after, Region.binds .any e = true → e.on ≠ i) → oi.apart ops ok = true := fun k ok hk hki hun hno => by
        refine hfree k ok hk hki ?_ hno
        by_cases hjk : j = k
        · subst hjk; exact hjun
        · rw [getD_set_ne true hjk] at hun; exact hun
      have hcm : (listed.setIfInBounds i true).setIfInBounds j true = (listed.setIfInBounds j true).setIfInBounds i true := Array.setIfInBounds_comm _ _ (fun e => hji e.symm)
      by_cases hk2 : ks.getD j 2 = 2
      · rw [if_pos hk2] at h1 ⊢
        intro n
        have h2 := wpOp_putIf ho hap (fun cs b => hsel i oi cs b hi) (fun cs b => hsel j o cs b ho) hQ hy (h1 n)
        refine wpOp_mono (fun a' w' h3 => ⟨h3.2.1, ih (listed.setIfInBounds j true) a' w' h3.2.1 hfree' (ready_mono hr (Ne.symm hji)) h3.1 ?_⟩) h2
        rw [← hcm]
        exact h3.2.2
      · rw [if_neg hk2] at h1 ⊢
        obtain ⟨u, hu, hK⟩ := h1
        obtain ⟨a1, a2, a3⟩ := Oper.apart_spec hap
        refine ⟨u, hu.of_same (execOp_put o (fun cs b => hsel j o cs b ho) a oi.dst v a1).symm (wanted_put o a oi.dst v a1).symm, ?_⟩
        refine ih (listed.setIfInBounds j true) _ w hS hfree' (ready_mono hr (Ne.symm hji))
          (hy.of_same (execOp_put oi (fun cs b => hsel i oi cs b hi) a o.dst u a3) (wanted_put oi a o.dst u a3)) ?_
        rw [← hcm, ← Act.put_comm a v u a2]
        exact hK

theorem anyK_quiet {w : World} {i : Nat} {oi : Oper} {v : Value} {dep : Array Bool} (hi : ops[i]? = some oi) (hki : ks.getD i 2 ≠ 2) (hsel : ∀ (j : Nat) (o : Oper) cs b, ops[j]? = some o → o.op ≠ .select cs b) :
    ∀ (fuel : Nat) (listed : Array Bool) (a : Act),
      (∀ j oj, ops[j]? = some oj → j ≠ i → listed.getD j true = false → (∀ e ∈ oj.after, Region.binds .any e = true → e.on ≠ i) → oi.apart ops oj = true) →
      (∀ j, dep.getD j false = true → j ≠ i ∧ listed.getD j true = false ∧ ∃ o, ops[j]? = some o ∧ ∃ e ∈ o.after, Region.binds .any e = true ∧ (e.on = i ∨ dep.getD e.on false = true)) →
      (∀ j oj, ops[j]? = some oj → dep.getD j false = false → j ≠ i → listed.getD j true = false → ks.getD j 2 ≠ 2) →
      i ∈ Region.ready .any ops listed → YieldsIn P ops (Dr w) oi v a →
      anyK P ops ks S Q fuel (listed.setIfInBounds i true) (a.put oi.dst v) w → anyK P ops ks S Q (fuel + 1) listed a w := by
  intro fuel
  induction fuel with
  | zero =>
    intro listed a _ _ _ hr hy H
    refine ⟨fun h => (by rw [h] at hr; cases hr), fun j hj o ho => ?_⟩
    by_cases hji : j = i
    · subst hji
      rw [hi] at ho; injection ho with ho; subst ho
      rw [if_neg hki]
      exact ⟨v, hy, H⟩
    · have := ready_mono hj hji
      rw [H.1] at this
      cases this
  | succ fuel ih =>
    intro listed a hfree hdep hkind hr hy H
    refine ⟨fun h => (by rw [h] at hr; cases hr), fun j hj o ho => ?_⟩
    by_cases hji : j = i
    · subst hji
      rw [hi] at ho; injection ho with ho; subst ho
      rw [if_neg hki]
      exact ⟨v, hy, H⟩
    · have h1 := H.2 j (ready_mono hj hji) o ho
      obtain ⟨hjun, oj, hoj, hall⟩ := mem_ready.1 hj
      rw [ho] at hoj; injection hoj with hoj; subst hoj
      have unl : ∀ k, listed.getD k true = false → listed.getD k false = true → False := fun k h0 h1 => by
        rcases Nat.lt_or_ge k listed.size with h' | h'
        · simp [h'] at h0 h1; rw [h0] at h1; cases h1
        · simp [Array.getElem?_eq_none h'] at h1
      have hnot : ∀ e ∈ o.after, Region.binds .any e = true → e.on ≠ i := fun e he hb heq =>
        unl i (mem_ready.1 hr).1 (heq ▸ hall e he hb)
      have hnd : dep.getD j false = false := by
        cases hd : dep.getD j false with
        | false => rfl
        | true =>
          obtain ⟨_, _, o', ho', e, he, hb, h⟩ := hdep j hd
          rw [ho] at ho'; injection ho' with ho'; subst ho'
          rcases h with h | h
          · exact absurd h (hnot e he hb)
          · exact (unl e.on (hdep e.on h).2.1 (hall e he hb)).elim
      have hap := hfree j o ho hji hjun hnot
      have hset : ∀ k, (listed.setIfInBounds j true).getD k true = false → listed.getD k true = false := fun k hun => by
        by_cases hjk : j = k
        · subst hjk; exact hjun
        · rw [getD_set_ne true hjk] at hun; exact hun
      have hfree' : ∀ k ok, ops[k]? = some ok → k ≠ i → (listed.setIfInBounds j true).getD k true = false →
          (∀ e ∈ ok.after, Region.binds .any e = true → e.on ≠ i) → oi.apart ops ok = true := fun k ok hk hki hun hno => hfree k ok hk hki (hset k hun) hno
      have hcm : (listed.setIfInBounds i true).setIfInBounds j true = (listed.setIfInBounds j true).setIfInBounds i true := Array.setIfInBounds_comm _ _ (fun e => hji e.symm)
      have hk2 := hkind j o ho hnd hji hjun
      rw [if_neg hk2] at h1 ⊢
      obtain ⟨u, hu, hK⟩ := h1
      obtain ⟨a1, a2, a3⟩ := Oper.apart_spec hap
      refine ⟨u, hu.of_same (execOp_put o (fun cs b => hsel j o cs b ho) a oi.dst v a1).symm (wanted_put o a oi.dst v a1).symm, ?_⟩
      refine ih (listed.setIfInBounds j true) _ hfree' (fun k hk => ?_) (fun k ok hk h1 h2 h3 => hkind k ok hk h1 h2 (hset k h3)) (ready_mono hr (Ne.symm hji))
        (hy.of_same (execOp_put oi (fun cs b => hsel i oi cs b hi) a o.dst u a3) (wanted_put oi a o.dst u a3)) ?_
      · obtain ⟨k1, k2, k3⟩ := hdep k hk
        refine ⟨k1, ?_, k3⟩
        rw [getD_set_ne true (fun e => by subst e; rw [hnd] at hk; cases hk)]
        exact k2
      · rw [← hcm, ← Act.put_comm a v u a2]
        exact hK

/-- No way out but the end. -/
def only (Q : Exit → Act → World → Prop) : Exit → Act → World → Prop
  | .normal, a, w => Q .normal a w
  | _, _, _ => False

/-- The walk in the order 'ord'. -/
def wpOrd (P : Program) (ops : Array Oper) (ks : List Nat) (S : World → Prop) (Q : Exit → Act → World → Prop) : List Nat → Act → World → Prop
  | [], a, w => ∀ n, Q .normal a (w.drewN n)
  | i :: rest, a, w => ∃ o, ops[i]? = some o ∧
    match ks.getD i 2 with
    | 0 => ∃ v, YieldsIf P ops S o v a ∧ wpOrd P ops ks S Q rest (a.put o.dst v) w
    | 1 => ∃ v, YieldsIn P ops (Dr w) o v a ∧ wpOrd P ops ks S Q rest (a.put o.dst v) w
    | _ => ∀ n, wpOp P ops (only Q) i (fun a' w' => S w' ∧ wpOrd P ops ks S Q rest a' w') a (w.drewN n)

theorem anyK_of_ord (hSd : ∀ w n, S w → S (w.drewN n)) (hs : Region.noSelect ops = true) : ∀ (ord : List Nat) (listed : Array Bool) (a : Act) (w : World), S w →
    ordFrom ops ks ord listed = true → wpOrd P ops ks S Q ord a w → anyK P ops ks S (only Q) ord.length listed a w
  | [], listed, a, w, _, hB, h => ⟨by simpa [ordFrom] using hB, h⟩
  | i :: rest, listed, a, w, hS, hB, h => by
    obtain ⟨o, ho, h⟩ := h
    simp only [ordFrom, Bool.and_eq_true] at hB
    obtain ⟨⟨⟨hr, hf⟩, hk⟩, hB'⟩ := hB
    have hready : i ∈ Region.ready .any ops listed := by simpa using hr
    have hko : ks.getD i 2 = 0 ∨ ks.getD i 2 = 1 ∨ ks.getD i 2 = 2 := by
      split at hk
      · rename_i h; exact .inl h
      · rename_i h; exact .inr (.inl h)
      · rename_i h; exact .inr (.inr h)
      · cases hk
    rcases hko with hko | hko | hko
    · rw [hko] at h
      obtain ⟨v, hy, hK⟩ := h
      exact anyK_held hSd ho (by omega) (Region.noSelect_spec hs) (fun _ _ _ h => h.elim) rest.length listed a w hS (Region.free_spec ho hf) hready hy (anyK_of_ord hSd hs rest _ _ _ hS hB' hK)
    · rw [hko] at h hk
      obtain ⟨v, hy, hK⟩ := h
      simp only [depsOk, List.all_eq_true, List.mem_range, Bool.and_eq_true] at hk
      have hlt : ∀ j oj, ops[j]? = some oj → j < ops.size := fun j oj h => (Array.getElem?_eq_some_iff.1 h).1
      refine anyK_quiet (dep := depsOn ops i) ho (by omega) (Region.noSelect_spec hs) rest.length listed a (Region.free_spec ho hf) (fun j hj => ?_) (fun j oj hoj hd hne hun => ?_) hready hy (anyK_of_ord hSd hs rest _ _ _ hS hB' hK)
      · have hjs : j < ops.size := by
          rcases Nat.lt_or_ge j (depsOn ops i).size with h' | h'
          · have : (depsOn ops i).size = ops.size := by
              unfold depsOn
              have key : ∀ (l : List Nat) (acc : Array Bool) (f : Array Bool → Nat → Bool), (l.foldl (fun acc j => acc.push (f acc j)) acc).size = acc.size + l.length := by
                intro l
                induction l with
                | nil => intro acc f; simp
                | cons x l ih => intro acc f; simp only [List.foldl_cons, ih, Array.size_push, List.length_cons]; omega
              rw [key (List.range ops.size) #[] (fun acc j => match ops[j]? with
                | some o => o.after.any fun e => Region.binds .any e && (e.on == i || acc.getD e.on false)
                | none => false)]
              simp
            omega
          · simp [Array.getElem?_eq_none h'] at hj
        have h1 := (hk j hjs).1
        rw [hj] at h1
        simp only [Bool.not_true, Bool.false_or, Bool.and_eq_true, bne_iff_ne, Bool.not_eq_true'] at h1
        obtain ⟨⟨h1, h2⟩, h3⟩ := h1
        refine ⟨h1, h2, ?_⟩
        split at h3
        · rename_i oj hoj
          obtain ⟨e, he, hb⟩ := Array.any_eq_true'.1 h3
          simp only [Bool.and_eq_true, Bool.or_eq_true, beq_iff_eq] at hb
          exact ⟨oj, hoj, e, he, hb.1, hb.2⟩
        · cases h3
      · have h1 := (hk j (hlt j oj hoj)).2
        rw [hd] at h1
        simp only [Bool.false_or, Bool.or_eq_true, beq_iff_eq, bne_iff_ne] at h1
        rcases h1 with (h1 | h1) | h1
        · exact absurd h1 hne
        · rw [hun] at h1; cases h1
        · exact h1
    · rw [hko] at h hk
      have hk' : Region.ready .any ops listed = [i] := by simpa using hk
      refine ⟨fun h0 => (by rw [h0] at hk'; cases hk'), fun j hj oj hoj => ?_⟩
      rw [hk'] at hj
      simp only [List.mem_singleton] at hj
      subst hj
      rw [ho] at hoj; injection hoj with hoj; subst hoj
      rw [if_pos hko]
      exact fun n => wpOp_mono (fun a w hh => ⟨hh.1, anyK_of_ord hSd hs rest _ a w hh.1 hB' hh.2⟩) (h n)

theorem wp_only {o : Oper} {a : Act} {w : World} {K : Act → World → Prop} (h : o.wp P a w K (only Q)) : o.wp P a w K Q := by
  unfold Oper.wp at *
  generalize (execOp a.eval o).run P w = r at *
  cases r with
  | ok n w' =>
    cases n <;> simp only [Oper.upon] at h ⊢
    case value => exact h
    case skip => exact h
    case defer => exact h
    case row => exact h
    case enter f args =>
      refine Calls.mono h fun e w'' he => ?_
      cases e with
      | returned v => exact he
      | panicked c => exact he.elim
      | outgrown => obtain ⟨_, _, h⟩ := he; exact h.elim
  | halt x w' => cases x <;> simp only [Oper.upon] at h ⊢; exact h.elim

theorem wpAny_only : ∀ (fuel : Nat) (listed : Array Bool) (a : Act) (w : World), wpAny P .any ops (only Q) fuel listed a w → wpAny P .any ops Q fuel listed a w
  | 0, _, _, _, h => h
  | fuel + 1, listed, a, w, h => by
    refine ⟨h.1, fun i hi => ?_⟩
    have h2 := wpOp_mono (fun a w => wpAny_only fuel _ a w) (h.2 i hi)
    unfold wpOp at *
    split
    · rename_i hn; simp only [hn] at h2; exact h2
    · rename_i o ho
      simp only [ho] at h2
      split
      · rename_i hw
        simp only [hw, if_true] at h2
        exact .inl (h2.elim wp_only fun ⟨_, _, _, hh⟩ => hh.elim)
      · rename_i hw; simp only [hw] at h2; exact h2

theorem wp_region_held' {id : Nat} {a : Act} {w : World} {l : List Oper} (S : World → Prop) (ks ord : List Nat) (hm : P.follows .mixedOrders = true) (hB : ordB l.toArray ks ord = true)
    (hSd : ∀ w n, S w → S (w.drewN n)) (hS : S w) (h : wpOrd P l.toArray ks S Q ord a w) : (Code.region id l.toArray true).wp P Q a w := by
  simp only [ordB, Bool.and_eq_true, beq_iff_eq] at hB
  refine wp_region_any hm (wpAny_only _ _ _ _ ?_)
  have := wpAny_of_anyK _ (Array.replicate l.toArray.size false) a w 1 (anyK_of_ord hSd hB.1.1 ord _ a _ hS hB.2 h)
  rw [hB.1.2] at this
  exact this
/-- With nothing held but what holds in every world. -/
theorem wp_region_ord {id : Nat} {a : Act} {w : World} {l : List Oper} (ks ord : List Nat) (hm : P.follows .mixedOrders = true) (hB : ordB l.toArray ks ord = true)
    (h : wpOrd P l.toArray ks (fun _ => True) Q ord a w) : (Code.region id l.toArray true).wp P Q a w :=
  wp_region_held' (fun _ => True) ks ord hm hB (fun _ _ _ => trivial) trivial h

/-! ### The steps. -/
theorem wpOrd_nil {a : Act} {w : World} (h : ∀ n, Q .normal a (w.drewN n)) : wpOrd P ops ks S Q [] a w := h
theorem wpOrd_pure {i : Nat} {o : Oper} {rest : List Nat} {a : Act} {w : World} (ho : ops[i]? = some o) (hk : ks.getD i 2 = 0) (hg : Region.wanted o (yielded ops a.tmps) = true)
    {v : Value} (hv : ∀ w0 : World, S w0 → (execOp a.eval o).run P w0 = .ok (.value v) w0) {A : Act} (hA : a.put o.dst v = A) (h : wpOrd P ops ks S Q rest A w) : wpOrd P ops ks S Q (i :: rest) a w := by
  subst hA
  refine ⟨o, ho, ?_⟩
  rw [hk]
  exact ⟨v, .inl ⟨hg, hv⟩, h⟩
theorem wpOrd_read {i : Nat} {o : Oper} {rest : List Nat} {a : Act} {w : World} (ho : ops[i]? = some o) (hk : ks.getD i 2 = 1) (hg : Region.wanted o (yielded ops a.tmps) = true)
    {v : Value} (hv : ∀ n, (execOp a.eval o).run P (w.drewN n) = .ok (.value v) (w.drewN n)) {A : Act} (hA : a.put o.dst v = A) (h : wpOrd P ops ks S Q rest A w) : wpOrd P ops ks S Q (i :: rest) a w := by
  subst hA
  refine ⟨o, ho, ?_⟩
  rw [hk]
  exact ⟨v, .inl ⟨hg, fun w' ⟨n, hn⟩ => by subst hn; unfold Oper.quietAt; rw [hv n]; exact ⟨rfl, rfl⟩⟩, h⟩
theorem wpOrd_call {i : Nat} {o : Oper} {rest : List Nat} {a : Act} {w : World} (ho : ops[i]? = some o) (hk : ks.getD i 2 = 1) (hg : Region.wanted o (yielded ops a.tmps) = true)
    {f : FuncId} {args : Array Value} (hv : ∀ n, (execOp a.eval o).run P (w.drewN n) = .ok (.enter f args) (w.drewN n))
    {v : Value} (hc : ∀ n, Calls P f args (w.drewN n) fun e w' => e = .returned v ∧ ∃ m, w' = (w.drewN n).drewN m) {A : Act} (hA : a.put o.dst v = A) (h : wpOrd P ops ks S Q rest A w) : wpOrd P ops ks S Q (i :: rest) a w := by
  subst hA
  refine ⟨o, ho, ?_⟩
  rw [hk]
  refine ⟨v, .inl ⟨hg, fun w' ⟨n, hn⟩ => ?_⟩, h⟩
  subst hn
  unfold Oper.quietAt
  rw [hv n]
  exact ⟨rfl, (hc n).mono fun e w'' ⟨he, m, hm⟩ => ⟨he, n + m, by rw [hm, World.drewN_drewN]⟩⟩
theorem wpOrd_skip {i : Nat} {o : Oper} {rest : List Nat} {a : Act} {w : World} (ho : ops[i]? = some o) (hk : ks.getD i 2 < 2) (hg : Region.wanted o (yielded ops a.tmps) = false)
    {A : Act} (hA : a.put o.dst undef = A) (h : wpOrd P ops ks S Q rest A w) : wpOrd P ops ks S Q (i :: rest) a w := by
  subst hA
  refine ⟨o, ho, ?_⟩
  have : ks.getD i 2 = 0 ∨ ks.getD i 2 = 1 := by omega
  rcases this with hk | hk <;> rw [hk]
  · exact ⟨undef, .inr ⟨hg, rfl⟩, h⟩
  · exact ⟨undef, .inr ⟨hg, rfl⟩, h⟩
theorem wpOrd_eff {i : Nat} {o : Oper} {rest : List Nat} {a : Act} {w : World} (ho : ops[i]? = some o) (hk : ks.getD i 2 = 2)
    (h : ∀ n, wpList P ops (fun e a' w' => e = .normal ∧ S w' ∧ wpOrd P ops ks S Q rest a' w') [o] a (w.drewN n)) : wpOrd P ops ks S Q (i :: rest) a w := by
  refine ⟨o, ho, ?_⟩
  rw [hk]
  intro n
  unfold wpOp
  simp only [ho]
  have h := h n
  unfold wpList at h
  have hn : ¬ LetsOut (fun e a' w' => e = Exit.normal ∧ S w' ∧ wpOrd P ops ks S Q rest a' w') := by
    rintro ⟨_, _, h, _⟩
    cases h
  split
  · rename_i hw
    rw [if_pos hw] at h
    refine .inl ?_
    rcases h with h | ⟨_, h⟩
    · unfold Oper.wp at *
      generalize (execOp a.eval o).run P (w.drewN n) = r at *
      cases r with
      | ok n w' =>
        cases n <;> simp only [Oper.upon, wpList] at h ⊢
        case value => exact h.2
        case skip => exact h.2
        case defer => exact h.2
        case row => exact Rows.mono h fun _ _ h => h.2
        case enter f args =>
          refine Calls.mono h fun e w'' he => ?_
          cases e with
          | returned v => exact he.2
          | panicked c => exact absurd he.1 (by simp)
          | outgrown => obtain ⟨_, _, h, _⟩ := he; exact absurd h (by simp)
      | halt x w' => cases x <;> simp only [Oper.upon] at h ⊢; exact absurd h.1 (by simp)
    · exact (hn h).elim
  · rename_i hw
    rw [if_neg hw] at h
    exact h.2
end
end Go.Mer
