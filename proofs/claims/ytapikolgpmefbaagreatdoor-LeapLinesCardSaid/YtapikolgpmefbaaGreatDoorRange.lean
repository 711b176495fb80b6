/-
  A range over a function whose iterator keeps its state in one block of cells: the law for the caller; a function's contract where such a loop left its mark.
-/
import Derived.RangeFuncNested
import Derived.RangeFuncCalls
import Derived.RangeFuncLeaves
import Derived.OwnWalkIn
import Derived.TacticsInMore
import Derived.Test.YtapikolgpmefbaaGreatDoorMem
namespace Go.Mer
open Go Go.RowKit

variable {P : Program}
/-- What an iterator, the loop's own bookkeeping beside it, may turn: the block b; blocks from B on that hold no cells. -/
def Tw (b B : Nat) (W : World) : Nat → Prop := fun k => k = b ∨ (B ≤ k ∧ ∃ o : Obj, W.heap[k]? = some o ∧ o.isCells = false)
/-- How the body of a round may be left. -/
def roundQ (b B : Nat) (I : Nat → World → Prop) (Ix : World → Prop) (k : Nat) (W : World) : Exit → Act → World → Prop
  | .normal, _, W' => KeepsFrom B W W' ∧ W'.heap[b]? = W.heap[b]? ∧ I (k + 1) W'
  | .ret, _, W' => KeepsFrom B W W' ∧ Ix W'
  | _, _, _ => False
/-- The iterator's contract: it yields the values xs one by one; when k are over its block b holds st k. -/
def IterAt (P : Program) (gf b : Nat) (ty : TypeId) (xs : List Value) (st : Nat → Value) : Prop :=
  ∀ (l : Nat) (J : Nat → World → Prop) (Jx : World → Prop) (W : World),
    (∀ k A B, J k A → Kp (One b) A B → J k B) → (∀ A B, Jx A → Kp (One b) A B → Jx B) →
    (∀ k x W1, xs[k]? = some x → J k W1 → W1.heap[b]? = some (.cells #[st (k + 1)] ty (0, 0)) → YieldAt Fence.wide 0 P l #[x] W1 fun e W' =>
      (e = .returned (.bool true) ∧ J (k + 1) W' ∧ W'.heap[b]? = some (.cells #[st (k + 1)] ty (0, 0))) ∨ (e = .returned (.bool false) ∧ Jx W')) →
    J 0 W → W.heap[b]? = some (.cells #[st 0] ty (0, 0)) →
    Calls P gf #[.func (.yield l) #[] #[], .pointer (some ⟨b, 0, none⟩)] W fun e W' => (∃ v, e = .returned v) ∧ (J xs.length W' ∨ Jx W')
theorem Tw_put {b B : Nat} {W : World} {l : Nat} {o : Obj} (hB : B ≤ l) (hl : W.heap[l]? = some o) (ho : o.isCells = false) (o' : Obj) : Kp (Tw b B W) W (W.putObj l o') :=
  ⟨rfl, rfl, rfl, by simp, fun k _ hn => World.putObj_heap_other (fun e => hn (.inr ⟨by omega, o, by rw [e]; exact hl, ho⟩))⟩
theorem wp_rangeFunc_cell {g : Operand} {t : Tmp} {assign body : Code} {Q : Exit → Act → World → Prop} {a : Act} {w : World} {gf b : Nat} {ty : TypeId} {xs : List Value} {st : Nat → Value}
    (hg : a.eval g = .func (.func gf) #[] #[.pointer (some ⟨b, 0, none⟩)]) (eg : ∀ args w, (callFunc gf args).run P w = .ok (.enter gf args) w)
    (hseq : IterAt P gf b ty xs st) (hb0 : w.heap[b]? = some (.cells #[st 0] ty (0, 0)))
    (I : Nat → World → Prop) (Ix : World → Prop) (hI : ∀ k A B, I k A → Kp (Tw b w.heap.size A) A B → I k B) (hIx : ∀ A B, Ix A → Kp (Tw b w.heap.size A) A B → Ix B) (h0 : I 0 w) (a₁ : Value → Act)
    (hassign : ∀ (l : Nat) (x : Value) (W : World) (K : Act → World → Prop), K (a₁ x) W →
      assign.wpIn (Fence.wide.inRound l) 0 P (Exit.then K (fun _ _ _ => False)) { tmps := a.tmps.setIfInBounds t x, defers := [] } W)
    (hbody : ∀ (l k : Nat) (x : Value) (W : World), xs[k]? = some x → I k W → W.heap[b]? = some (.cells #[st (k + 1)] ty (0, 0)) → body.wpIn (Fence.wide.inRound l) 0 P (roundQ b w.heap.size I Ix k W) (a₁ x) W)
    (hdone : ∀ (D : Nat) (W : World), I xs.length W → w.heap.size ≤ D → W.heap[D]? = some (.deferred (some [])) → Q .normal { a with defers := { target := .collected D, args := #[] } :: a.defers } W)
    (hstop : ∀ (D : Nat) (W : World), Ix W → w.heap.size ≤ D → W.heap[D]? = some (.deferred (some [])) → Q .ret { a with defers := { target := .collected D, args := #[] } :: a.defers } W) :
    (Code.rangeFunc g #[t] assign body).wp P Q a w := by
  have hbw := get_lt hb0
  refine (wpIn_wide (n := 1)).1 (wpIn_rangeFunc ?_)
  intro fn hfn
  obtain ⟨rec, hrec⟩ : ∃ rec : LoopState → Option Code → Loop, rec = fun st pe => { state := st, pending := pe, fn, tmps := a.tmps, params := #[t], assign, body, defers := w.heap.size } := ⟨_, rfl⟩
  obtain ⟨W1, hW1⟩ : ∃ W1, (w.alloc (.deferred (some []))).alloc (.loop (rec .ready none)) = W1 := ⟨_, rfl⟩
  have hL1 : W1.heap[w.heap.size + 1]? = some (.loop (rec .ready none)) := by
    rw [← hW1]; have := World.alloc_heap_new (w.alloc (.deferred (some []))) (.loop (rec .ready none)); rwa [World.size_alloc] at this
  have hK1 : W1.heap[w.heap.size]? = some (.deferred (some [])) := by
    rw [← hW1]; exact (Below.heap_alloc _ _ _ (by simp)).trans (World.alloc_heap_new w _)
  have hkp1 : Kp No w W1 := by rw [← hW1]; exact ((Kp.refl _ _).alloc _).alloc _
  have hI1 : I 0 W1 := hI _ _ _ h0 hkp1.of_no
  have hb1 := hkp1.get hb0 (fun x => x)
  refine ⟨w.heap.size + 1, [{ target := .collected w.heap.size, args := #[] }], W1, { target := .fn (.func gf) #[.pointer (some ⟨b, 0, none⟩)], args := #[.func (.yield (w.heap.size + 1)) #[] #[]] }, W1, gf,
    #[.func (.yield (w.heap.size + 1)) #[] #[]] ++ #[.pointer (some ⟨b, 0, none⟩)], W1, ?_, ?_, ?_, ?_, fun h => (by simp [Fence.wide] at h), ?_⟩
  · rw [← hW1, hrec]; exact run_enterLoop_outer _ _ _ _ _
  · simp only [resolve, hg]
    simp [go_sem]
  · intro f' _; trivial
  · simp [invoke, go_sem, eg]
  · refine (callsIn_wide.2 (hseq (w.heap.size + 1)
      (fun k W => I k W ∧ W.heap[w.heap.size + 1]? = some (.loop (rec .ready none)) ∧ W.heap[w.heap.size]? = some (.deferred (some [])))
      (fun W => Ix W ∧ W.heap[w.heap.size + 1]? = some (.loop (rec .done (some .ret))) ∧ W.heap[w.heap.size]? = some (.deferred (some [])))
      W1 ?_ ?_ ?_ ⟨hI1, hL1, hK1⟩ hb1)).mono ?_
    · rintro k A B ⟨hi, hl, hk⟩ hAB
      exact ⟨hI _ _ _ hi (hAB.mono fun _ _ h => .inl h), hAB.get hl (fun (h : _ = b) => by omega), hAB.get hk (fun (h : _ = b) => by omega)⟩
    · rintro A B ⟨hi, hl, hk⟩ hAB
      exact ⟨hIx _ _ hi (hAB.mono fun _ _ h => .inl h), hAB.get hl (fun (h : _ = b) => by omega), hAB.get hk (fun (h : _ = b) => by omega)⟩
    · rintro k x W hx ⟨hi, hl, hk⟩ hbW
      have hlt : w.heap.size + 1 < W.heap.size := (Array.getElem?_eq_some_iff.1 hl).1
      have hy := run_yield (P := P) (args := #[x]) hl (by rw [hrec]; rfl)
      rw [hrec] at hy
      simp only [List.zip_toArray, List.zip_cons_cons, List.zip_nil_right, List.foldl_toArray, List.foldl_cons, List.foldl_nil] at hy
      refine ⟨fn, _, assign, body, hy, roundIn_of_wpIn hfn ?_⟩
      refine hassign _ x W _ ?_
      refine ⟨_, run_beginRound hl (by rw [hrec]), ?_⟩
      have hl2 : (W.putObj (w.heap.size + 1) (.loop { rec .ready none with state := .busy })).heap[w.heap.size + 1]? = some (.loop { rec .ready none with state := .busy }) := World.putObj_heap_same hlt
      have hk2 : (W.putObj (w.heap.size + 1) (.loop { rec .ready none with state := .busy })).heap[w.heap.size]? = some (.deferred (some [])) := (World.putObj_heap_other (by omega)).trans hk
      have hb2 : (W.putObj (w.heap.size + 1) (.loop { rec .ready none with state := .busy })).heap[b]? = some (.cells #[st (k + 1)] ty (0, 0)) := (World.putObj_heap_other (by omega)).trans hbW
      refine wpIn_mono (hbody _ k x _ hx (hI _ _ _ hi (Tw_put (by omega) hl rfl _)) hb2) ?_
      have fin : ∀ (jump : Option Code) (W3 : World), KeepsFrom w.heap.size (W.putObj (w.heap.size + 1) (.loop { rec .ready none with state := .busy })) W3 →
          (Instr.endRound (w.heap.size + 1) jump).run P W3 = .ok (.bool jump.isNone) (W3.putObj (w.heap.size + 1) (.loop (rec (if jump.isNone then .ready else .done) jump))) ∧
          W3.heap[w.heap.size + 1]? = some (.loop { rec .ready none with state := .busy }) ∧
          (W3.putObj (w.heap.size + 1) (.loop (rec (if jump.isNone then .ready else .done) jump))).heap[w.heap.size + 1]? = some (.loop (rec (if jump.isNone then .ready else .done) jump)) ∧
          (W3.putObj (w.heap.size + 1) (.loop (rec (if jump.isNone then .ready else .done) jump))).heap[w.heap.size]? = some (.deferred (some [])) := fun jump W3 hk3 => by
        have hl3 := hk3.same _ _ (by omega) hl2 rfl
        have := run_endRound (P := P) jump hl3
        rw [hrec] at this ⊢
        exact ⟨this, by rw [hrec] at hl3; exact hl3, World.putObj_heap_same (Array.getElem?_eq_some_iff.1 hl3).1, (World.putObj_heap_other (by omega)).trans (hk3.same _ _ (Nat.le_refl _) hk2 rfl)⟩
      rintro e a3 W3 hp
      cases e with
      | normal =>
        obtain ⟨hk3, hb3, hi3⟩ := hp
        obtain ⟨hr, hl3, hl4, hk4⟩ := fin none W3 hk3
        exact ⟨_, _, hr, .inl ⟨rfl, ⟨hI _ _ _ hi3 (Tw_put (by omega) hl3 rfl _), hl4, hk4⟩, (World.putObj_heap_other (by omega)).trans (hb3.trans hb2)⟩⟩
      | ret =>
        obtain ⟨hk3, hi3⟩ := hp
        obtain ⟨hr, hl3, hl4, hk4⟩ := fin (some .ret) W3 hk3
        exact ⟨_, _, hr, .inr ⟨rfl, hIx _ _ hi3 (Tw_put (by omega) hl3 rfl _), hl4, hk4⟩⟩
      | exit id => exact hp.elim
      | goto t => exact hp.elim
      | panic ch => exact hp.elim
      | outgrown => exact hp.elim
    · rintro e W2 ⟨⟨v, rfl⟩, (⟨hi, hl, hk⟩ | ⟨hi, hl, hk⟩)⟩
      · exact ⟨none, _, by have := run_endLoop (P := P) hl (by rw [hrec]; simp); rw [hrec] at this; exact this, hdone _ _ (hI _ _ _ hi (Tw_put (by omega) hl rfl _)) (Nat.le_refl _) ((World.putObj_heap_other (by omega)).trans hk)⟩
      · exact ⟨some .ret, _, by have := run_endLoop (P := P) hl (by rw [hrec]; simp); rw [hrec] at this; exact this, wpIn_ret (hstop _ _ (hIx _ _ hi (Tw_put (by omega) hl rfl _)) (Nat.le_refl _) ((World.putObj_heap_other (by omega)).trans hk))⟩
theorem wp_rangeFunc_cell2 {g : Operand} {t u : Tmp} {assign body : Code} {Q : Exit → Act → World → Prop} {a : Act} {w : World} {gf b B : Nat} {ty : TypeId} {xs : List Value} {st : Nat → Value}
    (hB : w.heap.size = B) (hg : a.eval g = .func (.func gf) #[] #[.pointer (some ⟨b, 0, none⟩)]) (eg : ∀ args w, (callFunc gf args).run P w = .ok (.enter gf args) w)
    (hseq : IterAt P gf b ty xs st) (hb0 : w.heap[b]? = some (.cells #[st 0] ty (0, 0)))
    (I : Nat → World → Prop) (Ix : World → Prop) (hI : ∀ k A W, I k A → Kp (Tw b B A) A W → I k W) (hIx : ∀ A W, Ix A → Kp (Tw b B A) A W → Ix W) (h0 : I 0 w)
    (hassign : ∀ (l : Nat) (x : Value) (W : World) (K : Act → World → Prop), K { tmps := (a.tmps.setIfInBounds t x).setIfInBounds u x, defers := [] } W →
      assign.wpIn (Fence.wide.inRound l) 0 P (Exit.then K (fun _ _ _ => False)) { tmps := a.tmps.setIfInBounds t x, defers := [] } W)
    (hbody : ∀ (l k : Nat) (x : Value) (W : World), xs[k]? = some x → I k W → W.heap[b]? = some (.cells #[st (k + 1)] ty (0, 0)) → body.wpIn (Fence.wide.inRound l) 0 P (roundQ b B I Ix k W) { tmps := (a.tmps.setIfInBounds t x).setIfInBounds u x, defers := [] } W)
    (hdone : ∀ (D : Nat) (W : World), I xs.length W → B ≤ D → W.heap[D]? = some (.deferred (some [])) → Q .normal { a with defers := { target := .collected D, args := #[] } :: a.defers } W)
    (hstop : ∀ (D : Nat) (W : World), Ix W → B ≤ D → W.heap[D]? = some (.deferred (some [])) → Q .ret { a with defers := { target := .collected D, args := #[] } :: a.defers } W) :
    (Code.rangeFunc g #[t] assign body).wp P Q a w := by
  subst hB
  exact wp_rangeFunc_cell hg eg hseq hb0 I Ix hI hIx h0 _ hassign hbody hdone hstop
/-- How a function may be left whose loop has left its mark. -/
def bodyPostR (P : Program) (fn : Func) (R : Ending → World → Prop) : Exit → Act → World → Prop
  | .normal, a, w | .ret, a, w => bodyPost P fn R .ret a w ∨ ∃ D, a.defers = [{ target := .collected D, args := #[] }] ∧ w.heap[D]? = some (.deferred (some [])) ∧ bodyPost P fn R .ret { a with defers := [] } (w.putObj D (.deferred none))
  | _, _, _ => False
theorem calls_of_wp_mark {f : FuncId} {fn : Func} {c : Code} {args : Array Value} {w : World} {R : Ending → World → Prop}
    (hf : P.funcs[f]? = some fn) (hb : fn.body = some c)
    (h : c.wp P (bodyPostR P fn R) { tmps := args ++ Array.replicate (fn.ntmps - args.size) undef, defers := [] } w) : Calls P f args w R := by
  refine (callsIn_wide (n := 0)).1 (callsIn_of_wp_marks hf hb trivial (wpIn_wide.2 (Code.wp_mono ?_ h)))
  have key : ∀ (a : Act) (w : World), bodyPostR P fn R .ret a w → LeavesInM Fence.wide 0 P fn a.tmps R a.defers .returning w := by
    rintro a w (⟨hd, v, hv, hR⟩ | ⟨D, hd, hD, hd', v, hv, hR⟩)
    · rw [hd]; exact ⟨v, hv, hR⟩
    · rw [hd]
      exact ⟨by simp, .inl ⟨D, _, rfl, run_takeDeferred hD, v, hv, hR⟩⟩
  rintro e a w hq
  cases e with
  | normal => exact key a w hq
  | ret => exact key a w hq
  | panic ch => exact hq.elim
  | exit id => exact hq.elim
  | goto t => exact hq.elim
  | outgrown => exact hq.elim
end Go.Mer
