/-
  A region that draws its order, in which operations that do something stand side by side, more than once: a tree of orders. What is ahead of each fork only reads.
-/
import Derived.Test.YtapikolgpmefbaaGreatDoorRegion
namespace Go.Mer
open Go
inductive OTree where
  | leaf (ord : List Nat)
  | fork (pre : List Nat) (i j : Nat) (ti tj : OTree)
def OTree.len : OTree → Nat
  | .leaf o => o.length
  | .fork pre _ _ ti _ => pre.length + (ti.len + 1)
section
variable {P : Program} {ops : Array Oper} {Q : Exit → Act → World → Prop} {S : World → Prop} {ks : List Nat}
/-- The operations of 'pre' are listed, all of kind 0; what then? -/
def preFrom (ops : Array Oper) (ks : List Nat) (k : Array Bool → Bool) : List Nat → Array Bool → Bool
  | [], listed => k listed
  | x :: rest, listed => (Region.ready .any ops listed).contains x && Region.free .any ops listed x && ks.getD x 2 == 0 && preFrom ops ks k rest (listed.setIfInBounds x true)
def treeFrom (ops : Array Oper) (ks : List Nat) : OTree → Array Bool → Bool
  | .leaf o, listed => ordFrom ops ks o listed
  | .fork pre i j ti tj, listed => ti.len == tj.len && preFrom ops ks (fun l => Region.ready .any ops l == [i, j] && ks.getD i 2 == 2 && ks.getD j 2 == 2 && treeFrom ops ks ti (l.setIfInBounds i true) && treeFrom ops ks tj (l.setIfInBounds j true)) pre listed
def treeB (ops : Array Oper) (ks : List Nat) (t : OTree) : Bool := Region.noSelect ops && t.len == ops.size && treeFrom ops ks t (Array.replicate ops.size false)
/-- Of an exit that is the normal one. -/
def goes (K : Act → World → Prop) : Exit → Act → World → Prop
  | .normal, a, w => K a w
  | _, _, _ => False
def wpTree (P : Program) (ops : Array Oper) (ks : List Nat) (S : World → Prop) (Q : Exit → Act → World → Prop) : OTree → Act → World → Prop
  | .leaf o, a, w => wpOrd P ops ks S Q o a w
  | .fork pre i j ti tj, a, w => wpOrd P ops ks S (goes fun a w => S w ∧ wpOrd P ops ks S (goes (wpTree P ops ks S Q ti)) [i] a w ∧ wpOrd P ops ks S (goes (wpTree P ops ks S Q tj)) [j] a w) pre a w
theorem wp_only' {Q1 Q2 : Exit → Act → World → Prop} {o : Oper} {a : Act} {w : World} {K : Act → World → Prop} (h : o.wp P a w K (only Q1)) : o.wp P a w K Q2 := by
  unfold Oper.wp at *
  generalize (execOp a.eval o).run P w = r at *
  cases r with
  | ok n w' =>
    cases n <;> simp only [Oper.upon] at h ⊢
    case value => exact h
    case skip => exact h
    case defer => exact h
    case row => exact h
    case enter f args =>
      refine Calls.mono h fun e w'' he => ?_
      cases e with
      | returned v => exact he
      | panicked c => exact he.elim
      | outgrown => obtain ⟨_, _, h⟩ := he; exact h.elim
  | halt x w' => cases x <;> simp only [Oper.upon] at h ⊢; exact h.elim
theorem wpOp_only {Q1 Q2 : Exit → Act → World → Prop} {i : Nat} {K : Act → World → Prop} {a : Act} {w : World} (h : wpOp P ops (only Q1) i K a w) : wpOp P ops (only Q2) i K a w := by
  unfold wpOp at *
  split
  · rename_i hn; simp only [hn] at h; exact h
  · rename_i o ho
    simp only [ho] at h
    split
    · rename_i hw
      simp only [hw, if_true] at h
      exact .inl (h.elim wp_only' fun ⟨_, _, _, hh⟩ => hh.elim)
    · rename_i hw; simp only [hw] at h; exact h
/-- Of worlds that are one but for draws. -/
theorem anyK_of_pre (hSd : ∀ w n, S w → S (w.drewN n)) (hs : Region.noSelect ops = true) {k : Array Bool → Bool} {m : Nat} {K : Act → World → Prop} (hK : ∀ listed a w, S w → k listed = true → (∀ n, K a (w.drewN n)) → anyK P ops ks S (only Q) m listed a w) :
    ∀ (pre : List Nat) (listed : Array Bool) (a : Act) (w : World), S w → preFrom ops ks k pre listed = true → wpOrd P ops ks S (goes K) pre a w → anyK P ops ks S (only Q) (pre.length + m) listed a w
  | [], listed, a, w, hS, hB, h => by
    rw [List.length_nil, Nat.zero_add]
    exact hK listed a w hS hB h
  | x :: pre, listed, a, w, hS, hB, h => by
    obtain ⟨o, ho, h⟩ := h
    simp only [preFrom, Bool.and_eq_true, beq_iff_eq] at hB
    obtain ⟨⟨⟨hr, hf⟩, hk⟩, hB'⟩ := hB
    have hready : x ∈ Region.ready .any ops listed := by simpa using hr
    rw [hk] at h
    obtain ⟨v, hy, hK'⟩ := h
    rw [List.length_cons, show pre.length + 1 + m = (pre.length + m) + 1 from by omega]
    exact anyK_held hSd ho (by omega) (Region.noSelect_spec hs) (fun _ _ _ h => h.elim) _ listed a w hS (Region.free_spec ho hf) hready hy (anyK_of_pre hSd hs hK pre _ _ _ hS hB' hK')
theorem wpOrd_one {K : Act → World → Prop} {i : Nat} (hi : ks.getD i 2 = 2) {o : Oper} (ho : ops[i]? = some o) {a : Act} {w : World} (h : wpOrd P ops ks S (goes K) [i] a w) (n : Nat) :
    wpOp P ops (only Q) i (fun a' w' => S w' ∧ ∀ m, K a' (w'.drewN m)) a (w.drewN n) := by
  obtain ⟨o', ho', h⟩ := h
  rw [ho] at ho'
  injection ho' with ho'
  subst ho'
  rw [hi] at h
  exact wpOp_only (h n)
theorem anyK_of_tree (hSd : ∀ w n, S w → S (w.drewN n)) (hs : Region.noSelect ops = true) : ∀ (t : OTree) (listed : Array Bool) (a : Act) (w : World), S w →
    treeFrom ops ks t listed = true → wpTree P ops ks S Q t a w → anyK P ops ks S (only Q) t.len listed a w
  | .leaf o, listed, a, w, hS, hB, h => anyK_of_ord hSd hs o listed a w hS hB h
  | .fork pre i j ti tj, listed, a, w, hS, hB, h => by
    simp only [treeFrom, Bool.and_eq_true, beq_iff_eq] at hB
    refine anyK_of_pre hSd hs (K := fun a w => S w ∧ wpOrd P ops ks S (goes (wpTree P ops ks S Q ti)) [i] a w ∧ wpOrd P ops ks S (goes (wpTree P ops ks S Q tj)) [j] a w) (fun listed a w hS hB2 h => ?_) pre listed a w hS hB.2 h
    obtain ⟨_, h1, h2⟩ := h 0
    simp only [Bool.and_eq_true, beq_iff_eq] at hB2
    obtain ⟨⟨⟨⟨hr, hi⟩, hj⟩, hBi⟩, hBj⟩ := hB2
    refine ⟨fun h0 => (by rw [h0] at hr; cases hr), fun x hx o ho => ?_⟩
    rw [hr] at hx
    simp only [List.mem_cons, List.not_mem_nil, or_false] at hx
    rcases hx with rfl | rfl
    · rw [if_pos hi]
      exact fun n => wpOp_mono (fun a w hh => ⟨hh.1, anyK_of_tree hSd hs ti _ a w hh.1 hBi (hh.2 0)⟩) (wpOrd_one hi ho h1 n)
    · rw [if_pos hj]
      exact fun n => wpOp_mono (fun a w hh => ⟨hh.1, by rw [hB.1]; exact anyK_of_tree hSd hs tj _ a w hh.1 hBj (hh.2 0)⟩) (wpOrd_one hj ho h2 n)
theorem wp_region_tree {id : Nat} {a : Act} {w : World} {l : List Oper} (S : World → Prop) (ks : List Nat) (t : OTree) (hm : P.follows .mixedOrders = true) (hB : treeB l.toArray ks t = true)
    (hSd : ∀ w n, S w → S (w.drewN n)) (hS : S w) (h : wpTree P l.toArray ks S Q t a w) : (Code.region id l.toArray true).wp P Q a w := by
  simp only [treeB, Bool.and_eq_true, beq_iff_eq] at hB
  refine wp_region_any hm (wpAny_only _ _ _ _ ?_)
  have := wpAny_of_anyK _ (Array.replicate l.toArray.size false) a w 1 (anyK_of_tree hSd hB.1.1 t _ a _ hS hB.2 h)
  rw [hB.1.2] at this
  exact this
theorem tree_leaf {o : List Nat} {a : Act} {w : World} (h : wpOrd P ops ks S Q o a w) : wpTree P ops ks S Q (.leaf o) a w := h
theorem tree_fork {pre : List Nat} {i j : Nat} {ti tj : OTree} {a : Act} {w : World} (h : wpOrd P ops ks S (goes fun a w => S w ∧ wpOrd P ops ks S (goes (wpTree P ops ks S Q ti)) [i] a w ∧ wpOrd P ops ks S (goes (wpTree P ops ks S Q tj)) [j] a w) pre a w) : wpTree P ops ks S Q (.fork pre i j ti tj) a w := h
/-- At a fork. -/
theorem tree_both {i j : Nat} {ti tj : OTree} {a : Act} {w : World} (hS : ∀ n, S (w.drewN n)) (h1 : ∀ n, wpOrd P ops ks S (goes (wpTree P ops ks S Q ti)) [i] a (w.drewN n)) (h2 : ∀ n, wpOrd P ops ks S (goes (wpTree P ops ks S Q tj)) [j] a (w.drewN n)) :
    wpOrd P ops ks S (goes fun a w => S w ∧ wpOrd P ops ks S (goes (wpTree P ops ks S Q ti)) [i] a w ∧ wpOrd P ops ks S (goes (wpTree P ops ks S Q tj)) [j] a w) [] a w := fun n => ⟨hS n, h1 n, h2 n⟩
/-- Behind the one that was taken. -/
theorem tree_next {t : OTree} {a : Act} {w : World} (h : ∀ n, wpTree P ops ks S Q t a (w.drewN n)) : wpOrd P ops ks S (goes (wpTree P ops ks S Q t)) [] a w := h
end
end Go.Mer
