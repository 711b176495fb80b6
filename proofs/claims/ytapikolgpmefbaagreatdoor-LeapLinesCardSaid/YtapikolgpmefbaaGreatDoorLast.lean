/-
  A region that draws its order, whose last operation turns what the others read: S need not hold behind it.
-/
import Derived.Test.YtapikolgpmefbaaGreatDoorRegion
namespace Go.Mer
open Go
/-- The operation z waits for i. -/
def WaitsFor (ops : Array Oper) (z i : Nat) : Prop := ∀ o, ops[z]? = some o → ∃ e ∈ o.after, Region.binds .any e = true ∧ e.on = i
def waitsB (ops : Array Oper) (z i : Nat) : Bool := match ops[z]? with
  | some o => o.after.any fun e => Region.binds .any e && e.on == i
  | none => true
theorem waitsB_spec {ops : Array Oper} {z i : Nat} (h : waitsB ops z i = true) : WaitsFor ops z i := fun o ho => by
  unfold waitsB at h
  rw [ho] at h
  obtain ⟨e, he, hb⟩ := Array.any_eq_true'.1 h
  simp only [Bool.and_eq_true, beq_iff_eq] at hb
  exact ⟨e, he, hb.1, hb.2⟩
theorem push_fold (f : Array Bool → Nat → Bool) : ∀ (l : List Nat) (acc : Array Bool), (l.foldl (fun acc j => acc.push (f acc j)) acc).size = acc.size + l.length
  | [], acc => by simp
  | x :: l, acc => by
    rw [List.foldl_cons, push_fold f l, Array.size_push, List.length_cons]
    omega
theorem depsOn_size (ops : Array Oper) (i : Nat) : (depsOn ops i).size = ops.size := by
  have h := push_fold (fun acc j => match ops[j]? with
    | some o => o.after.any fun e => Region.binds .any e && (e.on == i || acc.getD e.on false)
    | none => false) (List.range ops.size) #[]
  simp only [List.length_range, List.size_toArray, List.length_nil, Nat.zero_add] at h
  exact h
section
variable {P : Program} {ops : Array Oper} {Q : Exit → Act → World → Prop} {S : World → Prop} {ks : List Nat} {z : Nat}
/-- Every order, each operation by its kind. -/
def anyL (P : Program) (ops : Array Oper) (ks : List Nat) (z : Nat) (S : World → Prop) (Q : Exit → Act → World → Prop) : Nat → Array Bool → Act → World → Prop
  | 0, listed, a, w => Region.ready .any ops listed = [] ∧ ∀ n, Q .normal a (w.drewN n)
  | fuel + 1, listed, a, w =>
    (Region.ready .any ops listed = [] → ∀ n, Q .normal a (w.drewN n)) ∧
    ∀ i ∈ Region.ready .any ops listed, ∀ o, ops[i]? = some o →
      if ks.getD i 2 = 2 then ∀ n, wpOp P ops Q i (fun a' w' => (i = z ∨ S w') ∧ anyL P ops ks z S Q fuel (listed.setIfInBounds i true) a' w') a (w.drewN n)
      else ∃ v, YieldsIn P ops (Dr w) o v a ∧ anyL P ops ks z S Q fuel (listed.setIfInBounds i true) (a.put o.dst v) w

theorem wpAny_of_anyL : ∀ (fuel : Nat) (listed : Array Bool) (a : Act) (w : World) (n : Nat), anyL P ops ks z S Q fuel listed a w → wpAny P .any ops Q fuel listed a (w.drewN n)
  | 0, _, _, _, n, h => ⟨h.1, h.2 n⟩
  | fuel + 1, listed, a, w, n, h => by
    refine ⟨fun h0 => h.1 h0 n, fun i hi => ?_⟩
    obtain ⟨_, o, ho, _⟩ := mem_ready.1 hi
    have h2 := h.2 i hi o ho
    split at h2
    · exact wpOp_mono (fun a w hh => wpAny_of_anyL fuel _ a w 0 hh.2) (h2 n)
    · obtain ⟨v, hy, hk⟩ := h2
      exact wpOp_of_qOp (C := Dr w) (K := fun a => anyL P ops ks z S Q fuel (listed.setIfInBounds i true) a w) ⟨n, rfl⟩ (fun a' w' ⟨m, hw'⟩ hh => by subst hw'; exact wpAny_of_anyL fuel _ a' w m hh) (hy.qOp ho hk)

theorem anyL_held {i : Nat} {oi : Oper} {v : Value} (hz : WaitsFor ops z i) (hSd : ∀ w n, S w → S (w.drewN n)) (hi : ops[i]? = some oi) (hki : ks.getD i 2 ≠ 2) (hsel : ∀ (j : Nat) (o : Oper) cs b, ops[j]? = some o → o.op ≠ .select cs b)
    (hQ : ∀ c a w, Q (.panic c) (a.put oi.dst v) w → Q (.panic c) a w) :
    ∀ (fuel : Nat) (listed : Array Bool) (a : Act) (w : World), S w →
      (∀ j oj, ops[j]? = some oj → j ≠ i → listed.getD j true = false → (∀ e ∈ oj.after, Region.binds .any e = true → e.on ≠ i) → oi.apart ops oj = true) →
      i ∈ Region.ready .any ops listed → YieldsIf P ops S oi v a →
      anyL P ops ks z S Q fuel (listed.setIfInBounds i true) (a.put oi.dst v) w → anyL P ops ks z S Q (fuel + 1) listed a w := by
  intro fuel
  induction fuel with
  | zero =>
    intro listed a w hS _ hr hy H
    refine ⟨fun h => (by rw [h] at hr; cases hr), fun j hj o ho => ?_⟩
    by_cases hji : j = i
    · subst hji
      rw [hi] at ho; injection ho with ho; subst ho
      rw [if_neg hki]
      exact ⟨v, yieldsIn_of_if (fun n => hSd w n hS) hy, H⟩
    · have := ready_mono hj hji
      rw [H.1] at this
      cases this
  | succ fuel ih =>
    intro listed a w hS hfree hr hy H
    refine ⟨fun h => (by rw [h] at hr; cases hr), fun j hj o ho => ?_⟩
    by_cases hji : j = i
    · subst hji
      rw [hi] at ho; injection ho with ho; subst ho
      rw [if_neg hki]
      exact ⟨v, yieldsIn_of_if (fun n => hSd w n hS) hy, H⟩
    · have h1 := H.2 j (ready_mono hj hji) o ho
      obtain ⟨hjun, oj, hoj, hall⟩ := mem_ready.1 hj
      rw [ho] at hoj; injection hoj with hoj; subst hoj
      have hnot : ∀ e ∈ o.after, Region.binds .any e = true → e.on ≠ i := fun e he hb heq => by
        have h1 := hall e he hb
        have h0 := (mem_ready.1 hr).1
        rw [heq] at h1
        rcases Nat.lt_or_ge i listed.size with h' | h'
        · simp [h'] at h0 h1; rw [h0] at h1; cases h1
        · simp [Array.getElem?_eq_none h'] at h1
      have hjz : j ≠ z := fun e => by
        subst e
        obtain ⟨e, he, hb, hon⟩ := hz o ho
        exact hnot e he hb hon
      have hap := hfree j o ho hji hjun hnot
      have hfree' : ∀ k ok, ops[k]? = some ok → k ≠ i → (listed.setIfInBounds j true).getD k true = false →
          (∀ e ∈ ok.after, Region.binds .any e = true → e.on ≠ i) → oi.apart ops ok = true := fun k ok hk hki hun hno => by
        refine hfree k ok hk hki ?_ hno
        by_cases hjk : j = k
        · subst hjk; exact hjun
        · rw [getD_set_ne true hjk] at hun; exact hun
      have hcm : (listed.setIfInBounds i true).setIfInBounds j true = (listed.setIfInBounds j true).setIfInBounds i true := Array.setIfInBounds_comm _ _ (fun e => hji e.symm)
      by_cases hk2 : ks.getD j 2 = 2
      · rw [if_pos hk2] at h1 ⊢
        intro n
        have h2 := wpOp_putIf ho hap (fun cs b => hsel i oi cs b hi) (fun cs b => hsel j o cs b ho) hQ hy (h1 n)
        refine wpOp_mono (fun a' w' h3 => ⟨h3.2.1, ih (listed.setIfInBounds j true) a' w' (h3.2.1.resolve_left hjz) hfree' (ready_mono hr (Ne.symm hji)) h3.1 ?_⟩) h2
        rw [← hcm]
        exact h3.2.2
      · rw [if_neg hk2] at h1 ⊢
        obtain ⟨u, hu, hK⟩ := h1
        obtain ⟨a1, a2, a3⟩ := Oper.apart_spec hap
        refine ⟨u, hu.of_same (execOp_put o (fun cs b => hsel j o cs b ho) a oi.dst v a1).symm (wanted_put o a oi.dst v a1).symm, ?_⟩
        refine ih (listed.setIfInBounds j true) _ w hS hfree' (ready_mono hr (Ne.symm hji))
          (hy.of_same (execOp_put oi (fun cs b => hsel i oi cs b hi) a o.dst u a3) (wanted_put oi a o.dst u a3)) ?_
        rw [← hcm, ← Act.put_comm a v u a2]
        exact hK

theorem anyL_held2 {i : Nat} {oi : Oper} {v : Value} {dep : Array Bool} (hz : dep.getD z false = true) (hSd : ∀ w n, S w → S (w.drewN n)) (hi : ops[i]? = some oi) (hki : ks.getD i 2 ≠ 2) (hsel : ∀ (j : Nat) (o : Oper) cs b, ops[j]? = some o → o.op ≠ .select cs b)
    (hQ : ∀ c a w, Q (.panic c) (a.put oi.dst v) w → Q (.panic c) a w) :
    ∀ (fuel : Nat) (listed : Array Bool) (a : Act) (w : World), S w →
      (∀ j oj, ops[j]? = some oj → j ≠ i → listed.getD j true = false → (∀ e ∈ oj.after, Region.binds .any e = true → e.on ≠ i) → oi.apart ops oj = true) →
      (∀ j, dep.getD j false = true → j ≠ i ∧ listed.getD j true = false ∧ ∃ o, ops[j]? = some o ∧ ∃ e ∈ o.after, Region.binds .any e = true ∧ (e.on = i ∨ dep.getD e.on false = true)) →
      i ∈ Region.ready .any ops listed → YieldsIf P ops S oi v a →
      anyL P ops ks z S Q fuel (listed.setIfInBounds i true) (a.put oi.dst v) w → anyL P ops ks z S Q (fuel + 1) listed a w := by
  intro fuel
  induction fuel with
  | zero =>
    intro listed a w hS _ _ hr hy H
    refine ⟨fun h => (by rw [h] at hr; cases hr), fun j hj o ho => ?_⟩
    by_cases hji : j = i
    · subst hji
      rw [hi] at ho; injection ho with ho; subst ho
      rw [if_neg hki]
      exact ⟨v, yieldsIn_of_if (fun n => hSd w n hS) hy, H⟩
    · have := ready_mono hj hji
      rw [H.1] at this
      cases this
  | succ fuel ih =>
    intro listed a w hS hfree hdep hr hy H
    refine ⟨fun h => (by rw [h] at hr; cases hr), fun j hj o ho => ?_⟩
    by_cases hji : j = i
    · subst hji
      rw [hi] at ho; injection ho with ho; subst ho
      rw [if_neg hki]
      exact ⟨v, yieldsIn_of_if (fun n => hSd w n hS) hy, H⟩
    · have h1 := H.2 j (ready_mono hj hji) o ho
      obtain ⟨hjun, oj, hoj, hall⟩ := mem_ready.1 hj
      rw [ho] at hoj; injection hoj with hoj; subst hoj
      have hnot : ∀ e ∈ o.after, Region.binds .any e = true → e.on ≠ i := fun e he hb heq => by
        have h1 := hall e he hb
        have h0 := (mem_ready.1 hr).1
        rw [heq] at h1
        rcases Nat.lt_or_ge i listed.size with h' | h'
        · simp [h'] at h0 h1; rw [h0] at h1; cases h1
        · simp [Array.getElem?_eq_none h'] at h1
      have unl : ∀ k, listed.getD k true = false → listed.getD k false = true → False := fun k h0 h1 => by
        rcases Nat.lt_or_ge k listed.size with h' | h'
        · simp [h'] at h0 h1; rw [h0] at h1; cases h1
        · simp [Array.getElem?_eq_none h'] at h1
      have hnd : dep.getD j false = false := by
        cases hd : dep.getD j false with
        | false => rfl
        | true =>
          obtain ⟨_, _, o', ho', e, he, hb, h⟩ := hdep j hd
          rw [ho] at ho'; injection ho' with ho'; subst ho'
          rcases h with h | h
          · exact absurd h (hnot e he hb)
          · exact (unl e.on (hdep e.on h).2.1 (hall e he hb)).elim
      have hjz : j ≠ z := fun e => by
        subst e
        rw [hz] at hnd
        cases hnd
      have hdep' : ∀ k, dep.getD k false = true → k ≠ i ∧ (listed.setIfInBounds j true).getD k true = false ∧ ∃ o, ops[k]? = some o ∧ ∃ e ∈ o.after, Region.binds .any e = true ∧ (e.on = i ∨ dep.getD e.on false = true) := fun k hk => by
        obtain ⟨k1, k2, k3⟩ := hdep k hk
        refine ⟨k1, ?_, k3⟩
        rw [getD_set_ne true (fun e => by subst e; rw [hnd] at hk; cases hk)]
        exact k2
      have hap := hfree j o ho hji hjun hnot
      have hfree' : ∀ k ok, ops[k]? = some ok → k ≠ i → (listed.setIfInBounds j true).getD k true = false →
          (∀ e ∈ ok.after, Region.binds .any e = true → e.on ≠ i) → oi.apart ops ok = true := fun k ok hk hki hun hno => by
        refine hfree k ok hk hki ?_ hno
        by_cases hjk : j = k
        · subst hjk; exact hjun
        · rw [getD_set_ne true hjk] at hun; exact hun
      have hcm : (listed.setIfInBounds i true).setIfInBounds j true = (listed.setIfInBounds j true).setIfInBounds i true := Array.setIfInBounds_comm _ _ (fun e => hji e.symm)
      by_cases hk2 : ks.getD j 2 = 2
      · rw [if_pos hk2] at h1 ⊢
        intro n
        have h2 := wpOp_putIf ho hap (fun cs b => hsel i oi cs b hi) (fun cs b => hsel j o cs b ho) hQ hy (h1 n)
        refine wpOp_mono (fun a' w' h3 => ⟨h3.2.1, ih (listed.setIfInBounds j true) a' w' (h3.2.1.resolve_left hjz) hfree' hdep' (ready_mono hr (Ne.symm hji)) h3.1 ?_⟩) h2
        rw [← hcm]
        exact h3.2.2
      · rw [if_neg hk2] at h1 ⊢
        obtain ⟨u, hu, hK⟩ := h1
        obtain ⟨a1, a2, a3⟩ := Oper.apart_spec hap
        refine ⟨u, hu.of_same (execOp_put o (fun cs b => hsel j o cs b ho) a oi.dst v a1).symm (wanted_put o a oi.dst v a1).symm, ?_⟩
        refine ih (listed.setIfInBounds j true) _ w hS hfree' hdep' (ready_mono hr (Ne.symm hji))
          (hy.of_same (execOp_put oi (fun cs b => hsel i oi cs b hi) a o.dst u a3) (wanted_put oi a o.dst u a3)) ?_
        rw [← hcm, ← Act.put_comm a v u a2]
        exact hK

theorem anyL_quiet {w : World} {i : Nat} {oi : Oper} {v : Value} {dep : Array Bool} (hi : ops[i]? = some oi) (hki : ks.getD i 2 ≠ 2) (hsel : ∀ (j : Nat) (o : Oper) cs b, ops[j]? = some o → o.op ≠ .select cs b) :
    ∀ (fuel : Nat) (listed : Array Bool) (a : Act),
      (∀ j oj, ops[j]? = some oj → j ≠ i → listed.getD j true = false → (∀ e ∈ oj.after, Region.binds .any e = true → e.on ≠ i) → oi.apart ops oj = true) →
      (∀ j, dep.getD j false = true → j ≠ i ∧ listed.getD j true = false ∧ ∃ o, ops[j]? = some o ∧ ∃ e ∈ o.after, Region.binds .any e = true ∧ (e.on = i ∨ dep.getD e.on false = true)) →
      (∀ j oj, ops[j]? = some oj → dep.getD j false = false → j ≠ i → listed.getD j true = false → ks.getD j 2 ≠ 2) →
      i ∈ Region.ready .any ops listed → YieldsIn P ops (Dr w) oi v a →
      anyL P ops ks z S Q fuel (listed.setIfInBounds i true) (a.put oi.dst v) w → anyL P ops ks z S Q (fuel + 1) listed a w := by
  intro fuel
  induction fuel with
  | zero =>
    intro listed a _ _ _ hr hy H
    refine ⟨fun h => (by rw [h] at hr; cases hr), fun j hj o ho => ?_⟩
    by_cases hji : j = i
    · subst hji
      rw [hi] at ho; injection ho with ho; subst ho
      rw [if_neg hki]
      exact ⟨v, hy, H⟩
    · have := ready_mono hj hji
      rw [H.1] at this
      cases this
  | succ fuel ih =>
    intro listed a hfree hdep hkind hr hy H
    refine ⟨fun h => (by rw [h] at hr; cases hr), fun j hj o ho => ?_⟩
    by_cases hji : j = i
    · subst hji
      rw [hi] at ho; injection ho with ho; subst ho
      rw [if_neg hki]
      exact ⟨v, hy, H⟩
    · have h1 := H.2 j (ready_mono hj hji) o ho
      obtain ⟨hjun, oj, hoj, hall⟩ := mem_ready.1 hj
      rw [ho] at hoj; injection hoj with hoj; subst hoj
      have unl : ∀ k, listed.getD k true = false → listed.getD k false = true → False := fun k h0 h1 => by
        rcases Nat.lt_or_ge k listed.size with h' | h'
        · simp [h'] at h0 h1; rw [h0] at h1; cases h1
        · simp [Array.getElem?_eq_none h'] at h1
      have hnot : ∀ e ∈ o.after, Region.binds .any e = true → e.on ≠ i := fun e he hb heq =>
        unl i (mem_ready.1 hr).1 (heq ▸ hall e he hb)
      have hnd : dep.getD j false = false := by
        cases hd : dep.getD j false with
        | false => rfl
        | true =>
          obtain ⟨_, _, o', ho', e, he, hb, h⟩ := hdep j hd
          rw [ho] at ho'; injection ho' with ho'; subst ho'
          rcases h with h | h
          · exact absurd h (hnot e he hb)
          · exact (unl e.on (hdep e.on h).2.1 (hall e he hb)).elim
      have hap := hfree j o ho hji hjun hnot
      have hset : ∀ k, (listed.setIfInBounds j true).getD k true = false → listed.getD k true = false := fun k hun => by
        by_cases hjk : j = k
        · subst hjk; exact hjun
        · rw [getD_set_ne true hjk] at hun; exact hun
      have hfree' : ∀ k ok, ops[k]? = some ok → k ≠ i → (listed.setIfInBounds j true).getD k true = false →
          (∀ e ∈ ok.after, Region.binds .any e = true → e.on ≠ i) → oi.apart ops ok = true := fun k ok hk hki hun hno => hfree k ok hk hki (hset k hun) hno
      have hcm : (listed.setIfInBounds i true).setIfInBounds j true = (listed.setIfInBounds j true).setIfInBounds i true := Array.setIfInBounds_comm _ _ (fun e => hji e.symm)
      have hk2 := hkind j o ho hnd hji hjun
      rw [if_neg hk2] at h1 ⊢
      obtain ⟨u, hu, hK⟩ := h1
      obtain ⟨a1, a2, a3⟩ := Oper.apart_spec hap
      refine ⟨u, hu.of_same (execOp_put o (fun cs b => hsel j o cs b ho) a oi.dst v a1).symm (wanted_put o a oi.dst v a1).symm, ?_⟩
      refine ih (listed.setIfInBounds j true) _ hfree' (fun k hk => ?_) (fun k ok hk h1 h2 h3 => hkind k ok hk h1 h2 (hset k h3)) (ready_mono hr (Ne.symm hji))
        (hy.of_same (execOp_put oi (fun cs b => hsel i oi cs b hi) a o.dst u a3) (wanted_put oi a o.dst u a3)) ?_
      · obtain ⟨k1, k2, k3⟩ := hdep k hk
        refine ⟨k1, ?_, k3⟩
        rw [getD_set_ne true (fun e => by subst e; rw [hnd] at hk; cases hk)]
        exact k2
      · rw [← hcm, ← Act.put_comm a v u a2]
        exact hK

/-- The last one waits for i, be it through others. -/
def depsHold (ops : Array Oper) (listed dep : Array Bool) (i z : Nat) : Bool :=
  dep.getD z false && (List.range ops.size).all fun j =>
    !dep.getD j false || (j != i && !listed.getD j true && match ops[j]? with
      | some o => o.after.any fun e => Region.binds .any e && (e.on == i || dep.getD e.on false)
      | none => false)
theorem depsHold_spec {listed : Array Bool} {i : Nat} (hk : depsHold ops listed (depsOn ops i) i z = true) : (depsOn ops i).getD z false = true ∧
    ∀ j, (depsOn ops i).getD j false = true → j ≠ i ∧ listed.getD j true = false ∧ ∃ o, ops[j]? = some o ∧ ∃ e ∈ o.after, Region.binds .any e = true ∧ (e.on = i ∨ (depsOn ops i).getD e.on false = true) := by
  simp only [depsHold, Bool.and_eq_true, List.all_eq_true, List.mem_range] at hk
  refine ⟨hk.1, fun j hj => ?_⟩
  have hjs : j < ops.size := by
    rcases Nat.lt_or_ge j (depsOn ops i).size with h' | h'
    · have := depsOn_size ops i
      omega
    · simp [Array.getElem?_eq_none h'] at hj
  have h1 := hk.2 j hjs
  rw [hj] at h1
  simp only [Bool.not_true, Bool.false_or, Bool.and_eq_true, bne_iff_ne, Bool.not_eq_true'] at h1
  obtain ⟨⟨h1, h2⟩, h3⟩ := h1
  refine ⟨h1, h2, ?_⟩
  split at h3
  · rename_i oj hoj
    obtain ⟨e, he, hb⟩ := Array.any_eq_true'.1 h3
    simp only [Bool.and_eq_true, Bool.or_eq_true, beq_iff_eq] at hb
    exact ⟨oj, hoj, e, he, hb.1, hb.2⟩
  · cases h3
/-- All but the last. -/
def ordPre (ops : Array Oper) (ks : List Nat) (z : Nat) : List Nat → Array Bool → Bool
  | [], listed => Region.ready .any ops listed == [z] && ks.getD z 2 == 2 && (Region.ready .any ops (listed.setIfInBounds z true)).isEmpty
  | i :: rest, listed =>
    (Region.ready .any ops listed).contains i && Region.free .any ops listed i && i != z &&
    (match ks.getD i 2 with
     | 0 => waitsB ops z i || Region.ready .any ops listed == [i] || depsHold ops listed (depsOn ops i) i z
     | 1 => depsOk ops ks listed (depsOn ops i) i
     | 2 => Region.ready .any ops listed == [i]
     | _ => false) &&
    ordPre ops ks z rest (listed.setIfInBounds i true)
def lastOk (ops : Array Oper) (ks : List Nat) (z : Nat) (pre : List Nat) : Bool := Region.noSelect ops && pre.length + 1 == ops.size && ordPre ops ks z pre (Array.replicate ops.size false)
def onward (K : Act → World → Prop) : Exit → Act → World → Prop
  | .normal, a, w => K a w
  | _, _, _ => False
theorem wp_only2 {Q1 Q2 : Exit → Act → World → Prop} {o : Oper} {a : Act} {w : World} {K : Act → World → Prop} (h : o.wp P a w K (only Q1)) : o.wp P a w K Q2 := by
  unfold Oper.wp at *
  generalize (execOp a.eval o).run P w = r at *
  cases r with
  | ok n w' =>
    cases n <;> simp only [Oper.upon] at h ⊢
    case value => exact h
    case skip => exact h
    case defer => exact h
    case row => exact h
    case enter f args =>
      refine Calls.mono h fun e w'' he => ?_
      cases e with
      | returned v => exact he
      | panicked c => exact he.elim
      | outgrown => obtain ⟨_, _, h⟩ := he; exact h.elim
  | halt x w' => cases x <;> simp only [Oper.upon] at h ⊢; exact h.elim
theorem wpOp_only2 {Q1 Q2 : Exit → Act → World → Prop} {i : Nat} {K : Act → World → Prop} {a : Act} {w : World} (h : wpOp P ops (only Q1) i K a w) : wpOp P ops (only Q2) i K a w := by
  unfold wpOp at *
  split
  · rename_i hn; simp only [hn] at h; exact h
  · rename_i o ho
    simp only [ho] at h
    split
    · rename_i hw
      simp only [hw, if_true] at h
      exact .inl (h.elim wp_only2 fun ⟨_, _, _, hh⟩ => hh.elim)
    · rename_i hw; simp only [hw] at h; exact h
abbrev lastQ (P : Program) (ops : Array Oper) (ks : List Nat) (Q : Exit → Act → World → Prop) (z : Nat) : Exit → Act → World → Prop := onward fun a w => wpOrd P ops ks (fun _ => True) Q [z] a w
theorem anyL_of_pre (hSd : ∀ w n, S w → S (w.drewN n)) (hs : Region.noSelect ops = true) : ∀ (pre : List Nat) (listed : Array Bool) (a : Act) (w : World), S w →
    ordPre ops ks z pre listed = true → wpOrd P ops ks S (lastQ P ops ks Q z) pre a w → anyL P ops ks z S (only Q) (pre.length + 1) listed a w
  | [], listed, a, w, _, hB, h => by
    simp only [ordPre, Bool.and_eq_true, beq_iff_eq, List.isEmpty_iff] at hB
    obtain ⟨⟨hr, hk⟩, hB'⟩ := hB
    obtain ⟨o, ho, h⟩ := h 0
    rw [hk] at h
    refine ⟨fun h0 => (by rw [h0] at hr; cases hr), fun j hj oj hoj => ?_⟩
    rw [hr] at hj
    simp only [List.mem_singleton] at hj
    subst hj
    rw [ho] at hoj; injection hoj with hoj; subst hoj
    rw [if_pos hk]
    exact fun n => wpOp_mono (fun a w hh => ⟨.inl rfl, hB', hh.2⟩) (show wpOp P ops (only Q) j (fun a' w' => True ∧ wpOrd P ops ks (fun _ => True) Q [] a' w') a (w.drewN n) from h n)
  | i :: rest, listed, a, w, hS, hB, h => by
    obtain ⟨o, ho, h⟩ := h
    simp only [ordPre, Bool.and_eq_true] at hB
    obtain ⟨⟨⟨⟨hr, hf⟩, hiz⟩, hk⟩, hB'⟩ := hB
    have hready : i ∈ Region.ready .any ops listed := by simpa using hr
    have hko : ks.getD i 2 = 0 ∨ ks.getD i 2 = 1 ∨ ks.getD i 2 = 2 := by
      split at hk
      · rename_i h; exact .inl h
      · rename_i h; exact .inr (.inl h)
      · rename_i h; exact .inr (.inr h)
      · cases hk
    rcases hko with hko | hko | hko
    · rw [hko] at h
      obtain ⟨v, hy, hK⟩ := h
      rw [hko] at hk
      simp only [Bool.or_eq_true, beq_iff_eq] at hk
      rcases hk with (hk | hk) | hk
      · exact anyL_held (waitsB_spec hk) hSd ho (by omega) (Region.noSelect_spec hs) (fun _ _ _ h => h.elim) (rest.length + 1) listed a w hS (Region.free_spec ho hf) hready hy (anyL_of_pre hSd hs rest _ _ _ hS hB' hK)
      · refine ⟨fun h0 => (by rw [h0] at hk; cases hk), fun j hj oj hoj => ?_⟩
        rw [hk] at hj
        simp only [List.mem_singleton] at hj
        subst hj
        rw [ho] at hoj; injection hoj with hoj; subst hoj
        rw [if_neg (by omega)]
        exact ⟨v, yieldsIn_of_if (fun n => hSd w n hS) hy, anyL_of_pre hSd hs rest _ _ _ hS hB' hK⟩
      · exact anyL_held2 (depsHold_spec hk).1 hSd ho (by omega) (Region.noSelect_spec hs) (fun _ _ _ h => h.elim) (rest.length + 1) listed a w hS (Region.free_spec ho hf) (depsHold_spec hk).2 hready hy (anyL_of_pre hSd hs rest _ _ _ hS hB' hK)
    · rw [hko] at h hk
      obtain ⟨v, hy, hK⟩ := h
      simp only [depsOk, List.all_eq_true, List.mem_range, Bool.and_eq_true] at hk
      have hlt : ∀ j oj, ops[j]? = some oj → j < ops.size := fun j oj h => (Array.getElem?_eq_some_iff.1 h).1
      refine anyL_quiet (dep := depsOn ops i) ho (by omega) (Region.noSelect_spec hs) (rest.length + 1) listed a (Region.free_spec ho hf) (fun j hj => ?_) (fun j oj hoj hd hne hun => ?_) hready hy (anyL_of_pre hSd hs rest _ _ _ hS hB' hK)
      · have hjs : j < ops.size := by
          rcases Nat.lt_or_ge j (depsOn ops i).size with h' | h'
          · have := depsOn_size ops i
            omega
          · simp [Array.getElem?_eq_none h'] at hj
        have h1 := (hk j hjs).1
        rw [hj] at h1
        simp only [Bool.not_true, Bool.false_or, Bool.and_eq_true, bne_iff_ne, Bool.not_eq_true'] at h1
        obtain ⟨⟨h1, h2⟩, h3⟩ := h1
        refine ⟨h1, h2, ?_⟩
        split at h3
        · rename_i oj hoj
          obtain ⟨e, he, hb⟩ := Array.any_eq_true'.1 h3
          simp only [Bool.and_eq_true, Bool.or_eq_true, beq_iff_eq] at hb
          exact ⟨oj, hoj, e, he, hb.1, hb.2⟩
        · cases h3
      · have h1 := (hk j (hlt j oj hoj)).2
        rw [hd] at h1
        simp only [Bool.false_or, Bool.or_eq_true, beq_iff_eq, bne_iff_ne] at h1
        rcases h1 with (h1 | h1) | h1
        · exact absurd h1 hne
        · rw [hun] at h1; cases h1
        · exact h1
    · rw [hko] at h hk
      have hk' : Region.ready .any ops listed = [i] := by simpa using hk
      refine ⟨fun h0 => (by rw [h0] at hk'; cases hk'), fun j hj oj hoj => ?_⟩
      rw [hk'] at hj
      simp only [List.mem_singleton] at hj
      subst hj
      rw [ho] at hoj; injection hoj with hoj; subst hoj
      rw [if_pos hko]
      exact fun n => wpOp_mono (fun a w hh => ⟨.inr hh.1, anyL_of_pre hSd hs rest _ a w hh.1 hB' hh.2⟩) (wpOp_only2 (h n))

theorem wp_region_last {id : Nat} {a : Act} {w : World} {l : List Oper} (S : World → Prop) (ks pre : List Nat) (z : Nat) (hm : P.follows .mixedOrders = true) (hB : lastOk l.toArray ks z pre = true)
    (hSd : ∀ w n, S w → S (w.drewN n)) (hS : S w) (h : wpOrd P l.toArray ks S (lastQ P l.toArray ks Q z) pre a w) : (Code.region id l.toArray true).wp P Q a w := by
  simp only [lastOk, Bool.and_eq_true, beq_iff_eq] at hB
  refine wp_region_any hm (wpAny_only _ _ _ _ ?_)
  have := wpAny_of_anyL _ (Array.replicate l.toArray.size false) a w 1 (anyL_of_pre hSd hB.1.1 pre _ a _ hS hB.2 h)
  rw [hB.1.2] at this
  exact this
/-- Ahead of the last one. -/
theorem last_now {a : Act} {w : World} (h : ∀ n, wpOrd P ops ks (fun _ => True) Q [z] a (w.drewN n)) : wpOrd P ops ks S (lastQ P ops ks Q z) [] a w := h
end
end Go.Mer
