/-
  Structs of many cells, as a whole: loaded out of a row, stored into a variable that was just made.
-/
import Derived.Test.YtenidddbjobblaaRegion
import Derived.Test.YtenidddbjobblaaMem
import Derived.Deep.MidRow
import Derived.Deep.WholeRow
namespace Go.Mer
open Go Go.RowKit
variable {P : Program}
/-- A load of a struct. -/
theorem wpList_load_w {ops : Array Oper} {rest : List Oper} {op : Oper} {a : Act} {w : World} {Q : Exit → Act → World → Prop} (hgd : op.guard = none) (ty : TypeId) (x : Operand) (ho : op.op = .load ty x)
    (b o : Nat) (hx : a.eval x = .pointer (some ⟨b, o, none⟩)) (cs : List Value) (d : TypeDesc) (hc : Hid (w.rangeAt b o cs))
    (hu : P.underlying ty = some d) (hd : d.isRow = true) (hi : (P.info? ty).map (·.size) = some cs.length)
    (h : wpList P ops Q rest (a.put op.dst (.agg cs.toArray)) w) : wpList P ops Q (op :: rest) a w := wpList_load_mid hgd ty x ho b o hx cs d hc.out hu hd hi h
/-- A store of a struct into a variable that was just made. -/
theorem wpList_store_w {ops : Array Oper} {rest : List Oper} {o : Oper} {a : Act} {W : World} {Q : Exit → Act → World → Prop} (hgd : o.guard = none) (ty : TypeId) (x y : Operand) (ho : o.op = .store ty x y)
    (g : Nat) (hg : g = W.heap.size) (cells old : Array Value) (t : TypeId) (hx : a.eval x = .pointer (some ⟨g, 0, none⟩)) (hy : a.eval y = .agg cells)
    (hi : (P.info? ty).map (·.size) = some cells.size) (hold : old.size = cells.size) (h1 : cells.toList.all (·.oneCell') = true)
    (h : wpList P ops Q rest (a.put o.dst undef) (W.alloc (.cells cells t))) : wpList P ops Q (o :: rest) a (W.alloc (.cells old t)) := by
  subst hg
  refine wpList_store_row hgd ty x y ho _ cells hx hy t old (heap_alloc_new W _) hi hold (by simpa using h1) ?_
  rw [World.setRow_alloc_new]
  exact h
/-- A load of a struct in a region that draws. -/
theorem exec_load_w {op : Oper} {a : Act} {w : World} (ty : TypeId) (x : Operand) (ho : op.op = .load ty x) (b o : Nat) (hx : a.eval x = .pointer (some ⟨b, o, none⟩)) (cs : List Value) (d : TypeDesc) (hc : w.rangeAt b o cs)
    (hu : P.underlying ty = some d) (hd : d.isRow = true) (hi : (P.info? ty).map (·.size) = some cs.length) : (execOp a.eval op).run P w = .ok (.value (.agg cs.toArray)) w := by
  unfold execOp
  simp only [ho, hx, Instr.loadAt, Instr.sureAddr, Sem.run_bind, Sem.run_pure, Result.andThen_ok, run_loadVar_mid w b o ty cs d hc hu hd hi]
/-- A store of a struct into a block known whole. -/
theorem wpList_store_r {ops : Array Oper} {rest : List Oper} {o : Oper} {a : Act} {w : World} {Q : Exit → Act → World → Prop} (hgd : o.guard = none) (ty : TypeId) (x y : Operand) (ho : o.op = .store ty x y)
    (g : Nat) (cells : Array Value) (hx : a.eval x = .pointer (some ⟨g, 0, none⟩)) (hy : a.eval y = .agg cells)
    (t : TypeId) (old : Array Value) (hg : Hid (w.heap[g]? = some (.cells old t (0, 0)))) (hi : (P.info? ty).map (·.size) = some cells.size)
    (hold : old.size = cells.size) (h1 : cells.toList.all (·.oneCell') = true)
    (h : wpList P ops Q rest (a.put o.dst undef) (w.setRow g cells)) : wpList P ops Q (o :: rest) a w :=
  wpList_store_row hgd ty x y ho g cells hx hy t old hg.out hi hold (by simpa using h1) h
theorem Kp.setRow {S : Nat → Prop} {a b : World} (h : Kp S a b) {g : Nat} (hp : S g ∨ a.heap.size ≤ g) (cs : Array Value) : Kp S a (b.setRow g cs) :=
  h.trans (T := One g) ⟨rfl, rfl, rfl, by simp [World.setRow], fun k _ hn => by
      show (b.heap.modify g _)[k]? = _
      rw [Array.getElem?_modify, if_neg (fun e => hn e.symm)]⟩
    (fun i hi hT => by
      rw [show i = g from hT] at hi ⊢
      rcases hp with hp | hp
      · exact hp
      · omega)
theorem setRow_at {w : World} {g : Nat} {cs old : Array Value} {t : TypeId} (h : w.heap[g]? = some (.cells old t (0, 0))) : (w.setRow g cs).heap[g]? = some (.cells cs t (0, 0)) := by
  show (w.heap.modify g _)[g]? = _
  rw [Array.getElem?_modify, if_pos rfl, h]
  rfl
theorem setRow_far {w : World} {g k : Nat} {cs : Array Value} {o : Obj} (h : w.heap[g]? = some o) (hne : g ≠ k) : (w.setRow k cs).heap[g]? = some o := by
  show (w.heap.modify k _)[g]? = _
  rw [Array.getElem?_modify, if_neg (fun e => hne e.symm)]
  exact h
/-- An effect that its guard shuts out. -/
theorem wpOrd_shutw {ops : Array Oper} {ks : List Nat} {S : World → Prop} {Q : Exit → Act → World → Prop} {i : Nat} {o : Oper} {rest : List Nat} {a : Act} {w : World} (ho : ops[i]? = some o) (hk : ks.getD i 2 = 2)
    (hg : Region.wanted o (yielded ops a.tmps) = false) {A : Act} (hA : a.put o.dst undef = A) (h : ∀ n, S (w.drewN n) ∧ wpOrd P ops ks S Q rest A (w.drewN n)) : wpOrd P ops ks S Q (i :: rest) a w := by
  subst hA
  refine wpOrd_eff ho hk fun n => ?_
  unfold wpList
  rw [if_neg (by rw [hg]; decide)]
  exact ⟨rfl, h n⟩
theorem rangeAt_block {W : World} {b : Nat} {cs : Array Value} {t : TypeId} (h : W.heap[b]? = some (.cells cs t (0, 0))) (o n : Nat) : W.rangeAt b o ((cs.toList.drop o).take n) := fun j v hv => by
  rw [cell_at h]
  rw [List.getElem?_take] at hv
  split at hv
  · rw [List.getElem?_drop] at hv
    simpa using hv
  · cases hv
end Go.Mer
