/-
  In a round of a range over a function: a region that draws its order, walked once, in an order of our own.
-/
import Derived.Test.YtapikolgpmefbaaGreatDoorRegion
import Derived.Test.YtapikolgpmefbaaGreatDoorRange
import Derived.OrdersIn
import Derived.TacticsIn
namespace Go.Mer
open Go
section
variable {P : Program} {ops : Array Oper} {Q : Exit → Act → World → Prop} {S : World → Prop} {ks : List Nat}
theorem oper_round {l n : Nat} {o : Oper} {a : Act} {w : World} {K : Act → World → Prop} (hnd : ∀ c, o.op ≠ .defer c) (h : o.wp P a w K (only Q)) : o.wpIn (Fence.wide.inRound l) n P a w K Q := by
  refine ⟨fun f _ => trivial, ?_⟩
  show o.uponIn _ n P a K Q ((o.semAt (some l) a.eval).run P w)
  rw [Oper.semAt_eq _ _ _ hnd]
  unfold Oper.wp at h
  generalize (execOp a.eval o).run P w = r at h ⊢
  cases r with
  | ok x w' =>
    cases x <;> simp only [Oper.upon, Oper.uponIn] at h ⊢
    case value => exact h
    case skip => exact h
    case defer => exact h
    case row row args => exact ⟨fun hh => by simp [Fence.wide] at hh, fun c cs _ => by
      obtain ⟨v, w'', r, s⟩ := h c cs
      exact ⟨v, w'', r, stepsIn_wide.2 s⟩⟩
    case enter f args =>
      refine ⟨fun hh => by simp [Fence.wide] at hh, CallsIn.mono (CallsIn.inRound l (callsIn_wide.2 h)) fun e w'' he => ?_⟩
      cases e with
      | returned v => exact he
      | panicked c => exact he.elim
      | outgrown => obtain ⟨_, _, h⟩ := he; exact h.elim
  | halt x w' => cases x <;> simp only [Oper.upon, Oper.uponIn] at h ⊢; exact h.elim
theorem any_round {l n : Nat} (hnd : ∀ (i : Nat) (o : Oper) (c : Call), ops[i]? = some o → o.op ≠ .defer c) : ∀ (fuel : Nat) (listed : Array Bool) (a : Act) (w : World), wpAny P .any ops (only Q) fuel listed a w → wpAnyIn (Fence.wide.inRound l) n P .any ops Q fuel listed a w
  | 0, _, _, _, h => h
  | fuel + 1, listed, a, w, h => by
    refine ⟨h.1, fun i hi => ?_⟩
    have h2 := wpOp_mono (fun a w => any_round (l := l) (n := n) hnd fuel _ a w) (h.2 i hi)
    unfold wpOp at h2
    unfold wpOpIn
    split
    · rename_i hn; simp only [hn] at h2; exact h2
    · rename_i o ho
      simp only [ho] at h2
      split
      · rename_i hw
        simp only [hw, if_true] at h2
        exact h2.elim (oper_round fun c => hnd i o c ho) fun ⟨_, _, _, hh⟩ => hh.elim
      · rename_i hw; simp only [hw] at h2; exact ⟨fun _ _ => trivial, h2⟩
def noDefer (ops : Array Oper) : Bool := ops.toList.all fun o => match o.op with | .defer _ => false | _ => true
theorem noDefer_spec (h : noDefer ops = true) : ∀ (i : Nat) (o : Oper) (c : Call), ops[i]? = some o → o.op ≠ .defer c := fun i o c ho hd => by
  have := List.all_eq_true.1 h o (Array.mem_toList_iff.2 (Array.mem_of_getElem? ho))
  rw [hd] at this
  cases this
theorem round_region_held {L n id : Nat} {a : Act} {w : World} {l : List Oper} (S : World → Prop) (ks ord : List Nat) (hm : P.follows .mixedOrders = true) (hB : ordB l.toArray ks ord = true) (hnd : noDefer l.toArray = true)
    (hSd : ∀ w n, S w → S (w.drewN n)) (hS : S w) (h : wpOrd P l.toArray ks S Q ord a w) : (Code.region id l.toArray true).wpIn (Fence.wide.inRound L) n P Q a w := by
  simp only [ordB, Bool.and_eq_true, beq_iff_eq] at hB
  refine wpIn_region_any hm (any_round (noDefer_spec hnd) _ _ _ _ ?_)
  have := wpAny_of_anyK _ (Array.replicate l.toArray.size false) a w 1 (anyK_of_ord hSd hB.1.1 ord _ a _ hS hB.2 h)
  rw [hB.1.2] at this
  exact this
theorem list_round {L n : Nat} : ∀ (l : List Oper) (a : Act) (w : World), (∀ o ∈ l, ∀ c, o.op ≠ .defer c) → wpList P ops (only Q) l a w → wpListIn (Fence.wide.inRound L) n P ops Q l a w
  | [], _, _, _, h => h
  | o :: rest, a, w, hnd, h => by
    unfold wpList at h
    unfold wpListIn
    split
    · rename_i hw
      simp only [hw, if_true] at h
      exact Oper.wpIn_mono (fun a w hh => list_round rest a w (fun o ho => hnd o (List.mem_cons_of_mem _ ho)) hh) (h.elim (oper_round fun c => hnd o (List.mem_cons_self ..) c) fun ⟨_, _, _, hh⟩ => hh.elim)
    · rename_i hw
      simp only [hw] at h
      exact ⟨fun _ _ => trivial, list_round rest _ w (fun o ho => hnd o (List.mem_cons_of_mem _ ho)) h⟩
theorem round_region_list {L n id : Nat} {a : Act} {w : World} {l : List Oper} (hnd : noDefer l.toArray = true) (h : wpList P l.toArray (only Q) l a w) : (Code.region id l.toArray false).wpIn (Fence.wide.inRound L) n P Q a w :=
  wpIn_region_lit (list_round l a w (fun o ho c hd => by
    have := List.all_eq_true.1 hnd o (by simpa using ho)
    rw [hd] at this
    cases this) h)
/-- The walk's step at an append whose run is known, in a round. -/
theorem wpListIn_append_run {F : Fence} {n : Nat} {w : World} {rest : List Oper} {o : Oper} {a : Act} {w' : World} {s x : Operand} {t t' : TypeId} {v xv v' : Value} (hgd : o.guard = none)
    (ho : o.op = .call { callee := .builtin .append, args := #[s, x], argTypes := #[t, t'] }) (hs : a.eval s = v) (hx : a.eval x = xv)
    (hrun : (Builtin.append_ #[t, t'] o.type #[v, xv]).run P w = .ok v' w') (h : wpListIn F n P ops Q rest (a.put o.dst v') w') : wpListIn F n P ops Q (o :: rest) a w := by
  refine wpListIn_plain hgd fun K hK' => ?_
  unfold Oper.wpIn
  refine ⟨?_, ?_⟩
  · simp [Oper.about, ho, resolve, Target.leads, Sem.run_pure]
  · rw [Oper.semAt_plain F _ _ (by rw [ho]; intro c hc'; cases hc')]
    simp [execOp, ho, resolve, invoke, builtin, hs, hx, hrun, Result.andThen]
    exact hK' _ _ h
end
end Go.Mer
