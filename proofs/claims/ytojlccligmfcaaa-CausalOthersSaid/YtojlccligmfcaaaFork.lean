/-
  A region that draws its order, in which two operations that do something stand side by side: what is ahead of them only reads; then either may come first.
-/
import Derived.Test.YtojlccligmfcaaaRegion
import Derived.Test.YtojlccligmfcaaaWide
namespace Go.Mer
open Go Go.RowKit
section
variable {P : Program} {ops : Array Oper} {Q : Exit → Act → World → Prop} {S : World → Prop} {ks : List Nat}
def forkFrom (ops : Array Oper) (ks : List Nat) (i j : Nat) (ri rj : List Nat) : List Nat → Array Bool → Bool
  | [], listed => Region.ready .any ops listed == [i, j] && ks.getD i 2 == 2 && ks.getD j 2 == 2 && ordFrom ops ks ri (listed.setIfInBounds i true) && ordFrom ops ks rj (listed.setIfInBounds j true) && ri.length == rj.length
  | x :: rest, listed => (Region.ready .any ops listed).contains x && Region.free .any ops listed x && ks.getD x 2 == 0 && forkFrom ops ks i j ri rj rest (listed.setIfInBounds x true)
def forkB (ops : Array Oper) (ks pre : List Nat) (i j : Nat) (ri rj : List Nat) : Bool := Region.noSelect ops && pre.length + (ri.length + 1) == ops.size && forkFrom ops ks i j ri rj pre (Array.replicate ops.size false)
def forkQ (P : Program) (ops : Array Oper) (ks : List Nat) (S : World → Prop) (Q : Exit → Act → World → Prop) (i j : Nat) (ri rj : List Nat) : Exit → Act → World → Prop
  | .normal, a, w => S w ∧ wpOrd P ops ks S Q (i :: ri) a w ∧ wpOrd P ops ks S Q (j :: rj) a w
  | _, _, _ => False
theorem anyK_of_fork {i j : Nat} {ri rj : List Nat} (hSd : ∀ w n, S w → S (w.drewN n)) (hs : Region.noSelect ops = true) : ∀ (pre : List Nat) (listed : Array Bool) (a : Act) (w : World), S w →
    forkFrom ops ks i j ri rj pre listed = true → wpOrd P ops ks S (forkQ P ops ks S Q i j ri rj) pre a w → anyK P ops ks S (only Q) (pre.length + (ri.length + 1)) listed a w
  | [], listed, a, w, hS, hB, h => by
    simp only [forkFrom, Bool.and_eq_true, beq_iff_eq] at hB
    obtain ⟨⟨⟨⟨⟨hr, hi⟩, hj⟩, hBi⟩, hBj⟩, hlen⟩ := hB
    obtain ⟨_, h1, h2⟩ := h 0
    rw [List.length_nil, Nat.zero_add]
    refine ⟨fun h0 => (by rw [h0] at hr; cases hr), fun x hx o ho => ?_⟩
    rw [hr] at hx
    simp only [List.mem_cons, List.not_mem_nil, or_false] at hx
    rcases hx with rfl | rfl
    · obtain ⟨o', ho', h1⟩ := h1
      rw [ho] at ho'
      injection ho' with ho'
      subst ho'
      rw [hi] at h1
      rw [if_pos hi]
      exact fun n => wpOp_mono (fun a w hh => ⟨hh.1, anyK_of_ord hSd hs ri _ a w hh.1 hBi hh.2⟩) (h1 n)
    · obtain ⟨o', ho', h2⟩ := h2
      rw [ho] at ho'
      injection ho' with ho'
      subst ho'
      rw [hj] at h2
      rw [if_pos hj]
      exact fun n => wpOp_mono (fun a w hh => ⟨hh.1, by rw [hlen]; exact anyK_of_ord hSd hs rj _ a w hh.1 hBj hh.2⟩) (h2 n)
  | x :: pre, listed, a, w, hS, hB, h => by
    obtain ⟨o, ho, h⟩ := h
    simp only [forkFrom, Bool.and_eq_true, beq_iff_eq] at hB
    obtain ⟨⟨⟨hr, hf⟩, hk⟩, hB'⟩ := hB
    have hready : x ∈ Region.ready .any ops listed := by simpa using hr
    rw [hk] at h
    obtain ⟨v, hy, hK⟩ := h
    rw [List.length_cons, show pre.length + 1 + (ri.length + 1) = (pre.length + (ri.length + 1)) + 1 from by omega]
    exact anyK_held hSd ho (by omega) (Region.noSelect_spec hs) (fun _ _ _ h => h.elim) _ listed a w hS (Region.free_spec ho hf) hready hy (anyK_of_fork hSd hs pre _ _ _ hS hB' hK)
theorem wp_region_fork {id : Nat} {a : Act} {w : World} {l : List Oper} (S : World → Prop) (ks pre : List Nat) (i j : Nat) (ri rj : List Nat) (hm : P.follows .mixedOrders = true) (hB : forkB l.toArray ks pre i j ri rj = true)
    (hSd : ∀ w n, S w → S (w.drewN n)) (hS : S w) (h : wpOrd P l.toArray ks S (forkQ P l.toArray ks S Q i j ri rj) pre a w) : (Code.region id l.toArray true).wp P Q a w := by
  simp only [forkB, Bool.and_eq_true, beq_iff_eq] at hB
  refine wp_region_any hm (wpAny_only _ _ _ _ ?_)
  have := wpAny_of_anyK _ (Array.replicate l.toArray.size false) a w 1 (anyK_of_fork hSd hB.1.1 pre _ a _ hS hB.2 h)
  rw [hB.1.2] at this
  exact this
theorem fork_intro {i j : Nat} {ri rj : List Nat} {a : Act} {w : World} (hS : ∀ n, S (w.drewN n)) (h1 : ∀ n, wpOrd P ops ks S Q (i :: ri) a (w.drewN n)) (h2 : ∀ n, wpOrd P ops ks S Q (j :: rj) a (w.drewN n)) :
    wpOrd P ops ks S (forkQ P ops ks S Q i j ri rj) [] a w := fun n => ⟨hS n, h1 n, h2 n⟩
end
/-- A load of a struct under a guard that lets it. -/
theorem wpList_load_g {P : Program} {ops : Array Oper} {rest : List Oper} {op : Oper} {a : Act} {w : World} {Q : Exit → Act → World → Prop} (hgd : Region.wanted op (yielded ops a.tmps) = true) (ty : TypeId) (x : Operand) (ho : op.op = .load ty x)
    (b o : Nat) (hx : a.eval x = .pointer (some ⟨b, o, none⟩)) (cs : List Value) (d : TypeDesc) (hc : Hid (w.rangeAt b o cs))
    (hu : P.underlying ty = some d) (hd : d.isRow = true) (hi : (P.info? ty).map (·.size) = some cs.length)
    (h : wpList P ops Q rest (a.put op.dst (.agg cs.toArray)) w) : wpList P ops Q (op :: rest) a w :=
  wpList_step fun K hK => by
    rw [if_pos hgd]
    exact wp_load_mid ty x ho b o hx cs d hc.out hu hd hi (hK _ _ h)
/-- A store of a struct into the middle of a row. -/
theorem wpList_store_m {P : Program} {ops : Array Oper} {rest : List Oper} {op : Oper} {a : Act} {w : World} {Q : Exit → Act → World → Prop} (hgd : op.guard = none) (ty : TypeId) (x y : Operand) (ho : op.op = .store ty x y)
    (b o : Nat) (l : List Value) (hx : a.eval x = .pointer (some ⟨b, o, none⟩)) (hy : a.eval y = .agg l.toArray)
    (ht : Hid (w.there b o l.length)) (hi : (P.info? ty).map (·.size) = some l.length) (h1 : l.all (·.oneCell') = true)
    (h : wpList P ops Q rest (a.put op.dst undef) (w.setCells b o l)) : wpList P ops Q (op :: rest) a w :=
  wpList_store_mid hgd ty x y ho b o l.toArray hx hy (by simpa using ht.out) (by simpa using hi) (by simpa using h1) (by simpa using h)
theorem Kp.setCells (g : Nat) : ∀ (l : List Value) (o : Nat) (a : World), Kp (One g) a (a.setCells g o l)
  | [], o, a => Kp.refl _ _
  | u :: l, o, a => by
    have h1 : Kp (One g) a (a.setCell ⟨g, o, none⟩ u) := (Kp.refl (One g) a).setCell (p := ⟨g, o, none⟩) (.inl rfl) u
    have h2 := h1.trans_same (Kp.setCells g l (o + 1) (a.setCell ⟨g, o, none⟩ u))
    simpa [World.setCells] using h2
theorem there_block {w : World} {b o n : Nat} {cs : Array Value} {t : TypeId} (h : w.heap[b]? = some (.cells cs t (0, 0))) (hn : o + n ≤ cs.size) : w.there b o n := fun j hj => by
  rw [cell_at h, free_at h]
  simp
  omega
end Go.Mer
