/-
  A table's text, plainly: its lines, what holds between two of them.
-/
import Derived.Test.YtapikolgpmefbaaGreatDoorLLine
import Derived.Test.YtapikolgpmefbaaGreatDoorLines1
import Derived.Test.YtapikolgpmefbaaGreatDoorLEnds
import Derived.Test.YtapikolgpmefbaaGreatDoorLFollow
import Derived.Test.YtapikolgpmefbaaGreatDoorLRows
import Derived.Test.YtapikolgpmefbaaGreatDoorLRIs
namespace Go.Proofs.YtapikolgpmefbaaGreatDoor
open Go.RowKit Go.Mer

/-- One line more: what is there of the table, and its end; or the error. -/
def rowP (L : List (Int × Int)) (E : Option Int) (x : List UInt8) : Except Int (List (Int × Int) × Option Int) :=
  if Lib.trimSuffix x [10] = [] ∨ (Lib.trimSuffix x [10]).head? = some 35 then .ok (L, E)
  else
    if !(lineF (Lib.trimSuffix x [10])).2.2 || E.isSome then .error 10
    else if decide ((lineF (Lib.trimSuffix x [10])).2.1 < 0) && endsF L (lineF (Lib.trimSuffix x [10])).1 then .ok (L, some (lineF (Lib.trimSuffix x [10])).1)
    else if decide (0 ≤ (lineF (Lib.trimSuffix x [10])).2.1) && followF L ((lineF (Lib.trimSuffix x [10])).1, (lineF (Lib.trimSuffix x [10])).2.1) then .ok (L ++ [((lineF (Lib.trimSuffix x [10])).1, (lineF (Lib.trimSuffix x [10])).2.1)], E)
    else .error 12
/-- The table that lines say, the line that errs, how. -/
def linesP : Nat → List (Int × Int) → Option Int → List (List UInt8) → List (Int × Int) × Int × Int × Int
  | k, _, none, [] => ([], 0, (k : Int) + 1, 2)
  | _, L, some e, [] => (L, e, 0, 0)
  | k, L, E, x :: r => match rowP L E x with
    | .error c => ([], 0, (k : Int) + 1, c)
    | .ok (L', E') => linesP (k + 1) L' E' r
def parseT (s : List UInt8) : List (Int × Int) × Int × Int × Int := if 8192 < s.length then ([], 0, 0, 5) else linesP 0 [] none (linesOf s)
/-- What is handed back. -/
def TabP (r : List (Int × Int) × Int × Int × Int) (e : Ending) (w' : World) : Prop :=
  ∃ (a : Option Addr) (cap : Nat), e = .returned (.tuple #[.agg #[.slice a r.1.length cap, .int .i64 r.2.1], .int .i64 r.2.2.1, .int .i64 r.2.2.2]) ∧ r.1.length ≤ cap ∧ Rd w' w'.heap.size a (tbV r.1)
theorem Lines_any (B : ByteArray) (w : World) : Calls Tryz.prog 24 #[.string B] w fun e w' => e = .returned (.func (.func 39) #[] #[.pointer (some ⟨w.heap.size, 0, none⟩)]) ∧ w' = w.alloc (.cells #[.string B] 9) := by
  go_enter Tryz.func24, Tryz.ntmps24
  go_wp2_with fail
  go_ret
  exact ⟨rfl, rfl⟩
theorem heap_alloc_new' (w : World) (o : Obj) {k : Nat} (h : k = w.heap.size) : (w.alloc o).heap[k]? = some o := by rw [h]; exact heap_alloc_new w o
theorem linesP_cons (k : Nat) (L : List (Int × Int)) (E : Option Int) (x : List UInt8) (q : List (List UInt8)) : linesP k L E (x :: q) = match rowP L E x with
    | .error c => ([], 0, (k : Int) + 1, c)
    | .ok (L', E') => linesP (k + 1) L' E' q := by
  cases E <;> rfl
theorem trimSuffix_len (l s : List UInt8) : (Lib.trimSuffix l s).length ≤ l.length := by
  unfold Lib.trimSuffix
  split
  · rw [List.length_take]; omega
  · exact Nat.le_refl _
theorem linesOf_len (s : List UInt8) : (linesOf s).length ≤ s.length := by
  induction s with
  | nil => exact Nat.le_refl _
  | cons c r ih =>
    rw [linesOf]
    split
    · simp only [List.length_cons]; omega
    · split
      · simp
      · next h t he => rw [he] at ih; simp only [List.length_cons] at ih ⊢; omega
theorem linesOf_mem (s : List UInt8) : ∀ x ∈ linesOf s, x.length ≤ s.length := by
  induction s with
  | nil => intro x hx; cases hx
  | cons c r ih =>
    intro x hx
    rw [linesOf] at hx
    split at hx
    · rcases List.mem_cons.1 hx with rfl | hx
      · simp
      · have := ih x hx; simp only [List.length_cons]; omega
    · split at hx
      · next he => simp at hx; subst hx; simp
      · next h t he =>
        rcases List.mem_cons.1 hx with rfl | hx
        · have := ih h (by rw [he]; exact List.mem_cons_self ..); simp only [List.length_cons]; omega
        · have := ih x (by rw [he]; exact List.mem_cons_of_mem _ hx); simp only [List.length_cons]; omega
/-- Between two lines. -/
def PI (w : World) (L : List (Int × Int)) (E : Option Int) (k : Nat) (v : Value) (W : World) : Prop :=
  (W.heap[w.heap.size]? = some (.cells #[.slice none 0 0, .int .i64 0] 24 (0, 0)) ∧ W.heap[w.heap.size + 1]? = some (.cells #[.int .i64 0] 3 (0, 0)) ∧ W.heap[w.heap.size + 1 + 1]? = some (.cells #[.int .i64 0] 25 (0, 0)) ∧
    W.heap[w.heap.size + 1 + 1 + 1]? = some (.cells #[v, .int .i64 (E.getD 0)] 24 (0, 0)) ∧ W.heap[w.heap.size + 1 + 1 + 1 + 1]? = some (.cells #[.int .i64 (k : Int)] 3 (0, 0)) ∧ W.heap[w.heap.size + 1 + 1 + 1 + 1 + 1]? = some (.cells #[.bool E.isSome] 4 (0, 0))) ∧
    Mer.Own W 38 2 v L.length (tbV L) ∧ (∀ g, v.ownBlock = some g → w.heap.size + 6 < g) ∧ Kp No w W
/-- Behind an error. -/
def PX (w : World) (n c : Int) (W : World) : Prop :=
  (W.heap[w.heap.size]? = some (.cells #[.slice none 0 0, .int .i64 0] 24 (0, 0)) ∧ W.heap[w.heap.size + 1]? = some (.cells #[.int .i64 n] 3 (0, 0)) ∧ W.heap[w.heap.size + 1 + 1]? = some (.cells #[.int .i64 c] 25 (0, 0))) ∧ Kp No w W
theorem Tw_lo {w : World} {W : World} {i : Nat} (hi : i < 6) : ¬ Tw (w.heap.size + 6) (w.heap.size + 7) W (w.heap.size + i) := by
  rintro (h | ⟨h, _⟩) <;> omega
theorem PI.keep {w : World} {L : List (Int × Int)} {E : Option Int} {k : Nat} {v : Value} {A W : World} (h : PI w L E k v A) (hk : Kp (Tw (w.heap.size + 6) (w.heap.size + 7) A) A W) : PI w L E k v W := by
  obtain ⟨⟨h0, h1, h2, h3, h4, h5⟩, ho, hv, hw⟩ := h
  refine ⟨⟨hk.get h0 (Tw_lo (i := 0) (by omega)), hk.get h1 (Tw_lo (i := 1) (by omega)), hk.get h2 (Tw_lo (i := 2) (by omega)), hk.get h3 (Tw_lo (i := 3) (by omega)), hk.get h4 (Tw_lo (i := 4) (by omega)), hk.get h5 (Tw_lo (i := 5) (by omega))⟩, ho.keep hk ?_, hv, hw.trans hk ?_⟩
  · rintro g hg (rfl | ⟨_, o, ho1, ho2⟩)
    · exact absurd (hv _ hg) (by omega)
    · obtain ⟨cur, hc⟩ := ho.type g hg
      rw [hc] at ho1
      injection ho1 with ho1
      subst ho1
      cases ho2
  · rintro i hi (rfl | ⟨h, _⟩)
    · omega
    · omega
theorem PX.keep {w : World} {n c : Int} {A W : World} (h : PX w n c A) (hk : Kp (Tw (w.heap.size + 6) (w.heap.size + 7) A) A W) : PX w n c W := by
  obtain ⟨⟨h0, h1, h2⟩, hw⟩ := h
  refine ⟨⟨hk.get h0 (Tw_lo (i := 0) (by omega)), hk.get h1 (Tw_lo (i := 1) (by omega)), hk.get h2 (Tw_lo (i := 2) (by omega))⟩, hw.trans hk ?_⟩
  rintro i hi (rfl | ⟨h, _⟩)
  · omega
  · omega
theorem keepsFrom_kp {S : Nat → Prop} {B : Nat} {A W : World} (h : Kp S A W) (hS : ∀ g, S g → ∃ cs t f, A.heap[g]? = some (.cells cs t f)) : KeepsFrom B A W :=
  ⟨h.size, fun k o _ hk ho => h.get hk fun hs => by
    obtain ⟨cs, t, f, hc⟩ := hS k hs
    rw [hk] at hc
    injection hc with hc
    subst hc
    cases ho⟩
def SP (w : World) (v : Value) : Nat → Prop := fun g => (w.heap.size ≤ g ∧ g < w.heap.size + 6) ∨ v.ownBlock = some g
theorem PI.cells {w : World} {L : List (Int × Int)} {E : Option Int} {k : Nat} {v : Value} {W : World} (h : PI w L E k v W) : ∀ g, SP w v g → ∃ cs t f, W.heap[g]? = some (.cells cs t f) := by
  obtain ⟨⟨h0, h1, h2, h3, h4, h5⟩, ho, _, _⟩ := h
  rintro g (⟨hg1, hg2⟩ | hg)
  · rcases (show g = w.heap.size ∨ g = w.heap.size + 1 ∨ g = w.heap.size + 1 + 1 ∨ g = w.heap.size + 1 + 1 + 1 ∨ g = w.heap.size + 1 + 1 + 1 + 1 ∨ g = w.heap.size + 1 + 1 + 1 + 1 + 1 by omega) with rfl | rfl | rfl | rfl | rfl | rfl
    · exact ⟨_, _, _, h0⟩
    · exact ⟨_, _, _, h1⟩
    · exact ⟨_, _, _, h2⟩
    · exact ⟨_, _, _, h3⟩
    · exact ⟨_, _, _, h4⟩
    · exact ⟨_, _, _, h5⟩
  · obtain ⟨cur, hc⟩ := ho.type g hg
    exact ⟨_, _, _, hc⟩
theorem PI.notb {w : World} {L : List (Int × Int)} {E : Option Int} {k : Nat} {v : Value} {W : World} (h : PI w L E k v W) : ¬ SP w v (w.heap.size + 6) := by
  rintro (⟨_, h2⟩ | hg)
  · omega
  · exact absurd (h.2.2.1 _ hg) (by omega)
def PIk (w : World) (r : List (Int × Int) × Int × Int × Int) (ls : List (List UInt8)) (k : Nat) (W : World) : Prop :=
  ∃ L E v, Hid (r = linesP k L E (ls.drop k)) ∧ Hid (L.length ≤ 100 ∧ ∀ y, L.getLast? = some y → 0 ≤ y.2 ∧ y.2 ≤ 1000) ∧ Hid (PI w L E k v W)
def PXx (w : World) (r : List (Int × Int) × Int × Int × Int) (W : World) : Prop := ∃ n c, Hid (r = ([], 0, n, c)) ∧ Hid (PX w n c W)
theorem round_ok {w : World} {r : List (Int × Int) × Int × Int × Int} {ls : List (List UInt8)} {L L' : List (Int × Int)} {E E' : Option Int} {k : Nat} {v v' : Value} {W Wf : World} {a : Act} {cs : Array Value} {t : TypeId}
    (h : PI w L E k v W) (hk : Kp (SP w v) W Wf) (hb : W.heap[w.heap.size + 6]? = some (.cells cs t (0, 0))) (hr : r = linesP (k + 1) L' E' (ls.drop (k + 1))) (hL : L'.length ≤ 100 ∧ ∀ y, L'.getLast? = some y → 0 ≤ y.2 ∧ y.2 ≤ 1000) (hP : PI w L' E' (k + 1) v' Wf) :
    roundQ (w.heap.size + 6) (w.heap.size + 7) (PIk w r ls) (PXx w r) k W .normal a Wf :=
  ⟨keepsFrom_kp hk h.cells, (hk.get hb h.notb).trans hb.symm, L', E', v', Lib.hid hr, Lib.hid hL, Lib.hid hP⟩
theorem round_err {w : World} {r : List (Int × Int) × Int × Int × Int} {ls : List (List UInt8)} {L : List (Int × Int)} {E : Option Int} {k : Nat} {v : Value} {W Wf : World} {a : Act} {n c : Int}
    (h : PI w L E k v W) (hk : Kp (SP w v) W Wf) (hr : r = ([], 0, n, c)) (hP : PX w n c Wf) :
    roundQ (w.heap.size + 6) (w.heap.size + 7) (PIk w r ls) (PXx w r) k W .ret a Wf :=
  ⟨keepsFrom_kp hk h.cells, n, c, Lib.hid hr, Lib.hid hP⟩
/-- The count of lines, one more. -/
theorem PI.line {w : World} {L : List (Int × Int)} {E : Option Int} {k : Nat} {v : Value} {W : World} (h : PI w L E k v W) : PI w L E (k + 1) v (W.setCell ⟨w.heap.size + 1 + 1 + 1 + 1, 0, none⟩ (.int .i64 ((k + 1 : Nat) : Int))) ∧ Kp (SP w v) W (W.setCell ⟨w.heap.size + 1 + 1 + 1 + 1, 0, none⟩ (.int .i64 ((k + 1 : Nat) : Int))) := by
  have hk1 : Kp (SP w v) W (W.setCell ⟨w.heap.size + 1 + 1 + 1 + 1, 0, none⟩ (.int .i64 ((k + 1 : Nat) : Int))) := (Kp.refl _ _).setCell (p := ⟨w.heap.size + 1 + 1 + 1 + 1, 0, none⟩) (.inl (.inl ⟨by show _ ≤ w.heap.size + 1 + 1 + 1 + 1; omega, by show w.heap.size + 1 + 1 + 1 + 1 < _; omega⟩)) _
  have hk2 : Kp (Mer.One (w.heap.size + 1 + 1 + 1 + 1)) W (W.setCell ⟨w.heap.size + 1 + 1 + 1 + 1, 0, none⟩ (.int .i64 ((k + 1 : Nat) : Int))) := (Kp.refl (Mer.One (w.heap.size + 1 + 1 + 1 + 1)) _).setCell (p := ⟨w.heap.size + 1 + 1 + 1 + 1, 0, none⟩) (.inl rfl) _
  refine ⟨?_, hk1⟩
  obtain ⟨⟨h0, h1, h2, h3, h4, h5⟩, ho, hv, hw⟩ := h
  refine ⟨⟨set_far h0 (by show _ ≠ w.heap.size + 1 + 1 + 1 + 1; omega) _, set_far h1 (by show _ ≠ w.heap.size + 1 + 1 + 1 + 1; omega) _, set_far h2 (by show _ ≠ w.heap.size + 1 + 1 + 1 + 1; omega) _, set_far h3 (by show _ ≠ w.heap.size + 1 + 1 + 1 + 1; omega) _, set_at h4 0 _, set_far h5 (by show _ ≠ w.heap.size + 1 + 1 + 1 + 1; omega) _⟩, ho.keep hk2 (fun g hg he => ?_), hv, hw.trans hk2 (fun i hi he => ?_)⟩
  · have := hv g hg
    rw [show g = w.heap.size + 1 + 1 + 1 + 1 from he] at this
    omega
  · rw [show i = w.heap.size + 1 + 1 + 1 + 1 from he] at hi
    omega
/-- While an error is handed back. -/
def GX (w W : World) (v : Value) (k : Nat) (a b : Int) (V : World) : Prop :=
  V.heap[w.heap.size]? = some (.cells #[.slice none 0 0, .int .i64 0] 24 (0, 0)) ∧ V.heap[w.heap.size + 1]? = some (.cells #[.int .i64 a] 3 (0, 0)) ∧ V.heap[w.heap.size + 1 + 1]? = some (.cells #[.int .i64 b] 25 (0, 0)) ∧
    V.heap[w.heap.size + 1 + 1 + 1 + 1]? = some (.cells #[.int .i64 (k : Int)] 3 (0, 0)) ∧ Kp (SP w v) W V ∧ Kp No w V
theorem GX.start {w W : World} {L : List (Int × Int)} {E : Option Int} {k : Nat} {v : Value} {V : World} (h : PI w L E k v V) (hk : Kp (SP w v) W V) : GX w W v k 0 0 V :=
  ⟨h.1.1, h.1.2.1, h.1.2.2.1, h.1.2.2.2.2.1, hk, h.2.2.2⟩
theorem GX.drewN {w W : World} {v : Value} {k : Nat} {a b : Int} {V : World} (h : GX w W v k a b V) (q : Nat) : GX w W v k a b (V.drewN q) := ⟨h.1, h.2.1, h.2.2.1, h.2.2.2.1, h.2.2.2.2.1.drewN q, h.2.2.2.2.2.drewN q⟩
theorem GX.set {w W : World} {v : Value} {k : Nat} {a b : Int} {V : World} (h : GX w W v k a b V) {i j : Nat} (hi : i < 3) (u : Value) : Kp (SP w v) W (V.setCell ⟨w.heap.size + i, j, none⟩ u) ∧ Kp No w (V.setCell ⟨w.heap.size + i, j, none⟩ u) ∧
    (V.setCell ⟨w.heap.size + i, j, none⟩ u).heap[w.heap.size + 1 + 1 + 1 + 1]? = some (.cells #[.int .i64 (k : Int)] 3 (0, 0)) :=
  ⟨h.2.2.2.2.1.setCell (p := ⟨w.heap.size + i, j, none⟩) (.inl (.inl ⟨by show _ ≤ w.heap.size + i; omega, by show w.heap.size + i < _; omega⟩)) _, h.2.2.2.2.2.setCell (p := ⟨w.heap.size + i, j, none⟩) (.inr (by show _ ≤ w.heap.size + i; omega)) _, set_far h.2.2.2.1 (by show _ ≠ w.heap.size + i; omega) _⟩
theorem GX.set0 {w W : World} {v : Value} {k : Nat} {a b : Int} {V : World} (h : GX w W v k a b V) : GX w W v k a b ((V.setCell ⟨w.heap.size, 0, none⟩ (.slice none 0 0)).setCell ⟨w.heap.size, 1, none⟩ (.int .i64 0)) := by
  have key : ∀ (V : World) (j : Nat) (u : Value) (cs : Array Value), V.heap[w.heap.size]? = some (.cells cs 24 (0, 0)) → cs.setIfInBounds j u = cs → GX w W v k a b V → GX w W v k a b (V.setCell ⟨w.heap.size, j, none⟩ u) := by
    intro V j u cs h0 he h
    obtain ⟨k1, k2, k3⟩ := h.set (i := 0) (j := j) (by omega) u
    refine ⟨?_, set_far h.2.1 (by show _ ≠ w.heap.size; omega) _, set_far h.2.2.1 (by show _ ≠ w.heap.size; omega) _, k3, k1, k2⟩
    have := set_at h0 j u
    rw [he] at this
    rw [this, ← h0]
    exact h.1
  have h1 := key V 0 (.slice none 0 0) _ h.1 rfl h
  exact key _ 1 (.int .i64 0) _ h1.1 rfl h1
theorem GX.set1 {w W : World} {v : Value} {k : Nat} {a b : Int} {V : World} (h : GX w W v k a b V) (x : Int) : GX w W v k x b (V.setCell ⟨w.heap.size + 1, 0, none⟩ (.int .i64 x)) := by
  obtain ⟨k1, k2, k3⟩ := h.set (i := 1) (j := 0) (by omega) (.int .i64 x)
  exact ⟨set_far h.1 (by show _ ≠ w.heap.size + 1; omega) _, set_at h.2.1 0 _, set_far h.2.2.1 (by show _ ≠ w.heap.size + 1; omega) _, k3, k1, k2⟩
theorem GX.set2 {w W : World} {v : Value} {k : Nat} {a b : Int} {V : World} (h : GX w W v k a b V) (x : Int) : GX w W v k a x (V.setCell ⟨w.heap.size + 1 + 1, 0, none⟩ (.int .i64 x)) := by
  obtain ⟨k1, k2, k3⟩ := h.set (i := 2) (j := 0) (by omega) (.int .i64 x)
  exact ⟨set_far h.1 (by show _ ≠ w.heap.size + 1 + 1; omega) _, set_far h.2.1 (by show _ ≠ w.heap.size + 1 + 1; omega) _, set_at h.2.2.1 0 _, k3, k1, k2⟩
/-- The end is told. -/
theorem PI.ended {w : World} {L : List (Int × Int)} {k : Nat} {v : Value} {W : World} (h : PI w L none k v W) (d : Int) : PI w L (some d) k v ((W.setCell ⟨w.heap.size + 1 + 1 + 1, 1, none⟩ (.int .i64 d)).setCell ⟨w.heap.size + 1 + 1 + 1 + 1 + 1, 0, none⟩ (.bool true)) ∧
    Kp (SP w v) W ((W.setCell ⟨w.heap.size + 1 + 1 + 1, 1, none⟩ (.int .i64 d)).setCell ⟨w.heap.size + 1 + 1 + 1 + 1 + 1, 0, none⟩ (.bool true)) := by
  have hk1 : Kp (SP w v) W ((W.setCell ⟨w.heap.size + 1 + 1 + 1, 1, none⟩ (.int .i64 d)).setCell ⟨w.heap.size + 1 + 1 + 1 + 1 + 1, 0, none⟩ (.bool true)) :=
    ((Kp.refl _ _).setCell (p := ⟨w.heap.size + 1 + 1 + 1, 1, none⟩) (.inl (.inl ⟨by show _ ≤ w.heap.size + 1 + 1 + 1; omega, by show w.heap.size + 1 + 1 + 1 < _; omega⟩)) _).setCell (p := ⟨w.heap.size + 1 + 1 + 1 + 1 + 1, 0, none⟩) (.inl (.inl ⟨by show _ ≤ w.heap.size + 1 + 1 + 1 + 1 + 1; omega, by show w.heap.size + 1 + 1 + 1 + 1 + 1 < _; omega⟩)) _
  have hk2 : Kp (fun g => g = w.heap.size + 3 ∨ g = w.heap.size + 5) W ((W.setCell ⟨w.heap.size + 1 + 1 + 1, 1, none⟩ (.int .i64 d)).setCell ⟨w.heap.size + 1 + 1 + 1 + 1 + 1, 0, none⟩ (.bool true)) :=
    ((Kp.refl (fun g => g = w.heap.size + 3 ∨ g = w.heap.size + 5) _).setCell (p := ⟨w.heap.size + 1 + 1 + 1, 1, none⟩) (.inl (.inl rfl)) _).setCell (p := ⟨w.heap.size + 1 + 1 + 1 + 1 + 1, 0, none⟩) (.inl (.inr rfl)) _
  refine ⟨?_, hk1⟩
  obtain ⟨⟨h0, h1, h2, h3, h4, h5⟩, ho, hv, hw⟩ := h
  have e4 := set_far h4 (p := ⟨w.heap.size + 1 + 1 + 1, 1, none⟩) (by show _ ≠ w.heap.size + 1 + 1 + 1; omega) (.int .i64 d)
  have e5 := set_far h5 (p := ⟨w.heap.size + 1 + 1 + 1, 1, none⟩) (by show _ ≠ w.heap.size + 1 + 1 + 1; omega) (.int .i64 d)
  refine ⟨⟨hk2.get h0 (by rintro (h | h) <;> omega), hk2.get h1 (by rintro (h | h) <;> omega), hk2.get h2 (by rintro (h | h) <;> omega), set_far (set_at h3 1 _) (by show _ ≠ w.heap.size + 1 + 1 + 1 + 1 + 1; omega) _, set_far e4 (by show _ ≠ w.heap.size + 1 + 1 + 1 + 1 + 1; omega) _, set_at e5 0 _⟩, ho.keep hk2 (fun g hg he => ?_), hv, hw.trans hk2 (fun i hi he => ?_)⟩
  · have := hv g hg
    rcases he with he | he <;> omega
  · rcases he with he | he <;> omega
/-- The table is another one, in a slice of its own. -/
theorem PI.more {w : World} {L L' : List (Int × Int)} {E : Option Int} {k : Nat} {v v' : Value} {W V : World} (h : PI w L E k v W) (hk : Kp (fun g => v.ownBlock = some g) W V) (ho : Mer.Own V 38 2 v' L'.length (tbV L')) (hb : v'.ownBlock = v.ownBlock ∨ ∃ g, v'.ownBlock = some g ∧ W.heap.size ≤ g) (hs : w.heap.size + 7 ≤ W.heap.size) :
    PI w L' E k v' (V.setCell ⟨w.heap.size + 1 + 1 + 1, 0, none⟩ v') ∧ Kp (SP w v) W (V.setCell ⟨w.heap.size + 1 + 1 + 1, 0, none⟩ v') := by
  have hkS : Kp (SP w v) W (V.setCell ⟨w.heap.size + 1 + 1 + 1, 0, none⟩ v') := (hk.mono fun _ _ h => .inr h).setCell (p := ⟨w.heap.size + 1 + 1 + 1, 0, none⟩) (.inl (.inl ⟨by show _ ≤ w.heap.size + 1 + 1 + 1; omega, by show w.heap.size + 1 + 1 + 1 < _; omega⟩)) _
  refine ⟨?_, hkS⟩
  obtain ⟨⟨h0, h1, h2, h3, h4, h5⟩, ho0, hv, hw⟩ := h
  have nb : ∀ i, i < 7 → ¬ v.ownBlock = some (w.heap.size + i) := fun i hi hg => by have := hv _ hg; omega
  have hv' : ∀ g, v'.ownBlock = some g → w.heap.size + 6 < g := by
    intro g hg
    rcases hb with hb | ⟨g2, hb, hb2⟩
    · exact hv g (hb ▸ hg)
    · rw [hb] at hg
      injection hg with hg
      omega
  have hk2 : Kp (Mer.One (w.heap.size + 3)) V (V.setCell ⟨w.heap.size + 1 + 1 + 1, 0, none⟩ v') := (Kp.refl (Mer.One (w.heap.size + 3)) _).setCell (p := ⟨w.heap.size + 1 + 1 + 1, 0, none⟩) (.inl rfl) _
  refine ⟨⟨hk2.get (hk.get h0 (nb 0 (by omega))) (fun (h : _ = _) => by omega), hk2.get (hk.get h1 (nb 1 (by omega))) (fun (h : _ = _) => by omega), hk2.get (hk.get h2 (nb 2 (by omega))) (fun (h : _ = _) => by omega), set_at (hk.get h3 (nb 3 (by omega))) 0 _, hk2.get (hk.get h4 (nb 4 (by omega))) (fun (h : _ = _) => by omega), hk2.get (hk.get h5 (nb 5 (by omega))) (fun (h : _ = _) => by omega)⟩, ho.keep hk2 (fun g hg he => ?_), hv', (hw.trans hk fun i hi hg => ?_).trans hk2 (fun i hi he => ?_)⟩
  · have := hv' g hg
    rw [show g = w.heap.size + 3 from he] at this
    omega
  · have := hv i hg
    omega
  · rw [show i = w.heap.size + 3 from he] at hi
    omega
/-- Nothing turned. -/
theorem PI.no {w : World} {L : List (Int × Int)} {E : Option Int} {k : Nat} {v : Value} {A W : World} (h : PI w L E k v A) (hk : Kp No A W) : PI w L E k v W := h.keep hk.of_no
/-- A leap more. -/
theorem leap_app {P : Program} {T bytes : Nat} (hT : P.underlying T = some (.slice 38)) (hE : (P.info? 38).map (fun i => ((i.zero.map fun z => z.cells.size), i.size, i.bytes)) = some (some 2, 2, bytes)) (hby : bytes ≤ 64)
    {W : World} {a : Option Addr} {cap : Nat} {L : List (Int × Int)} (h : Mer.Own W 38 2 (.slice a L.length cap) L.length (tbV L)) (hn : L.length ≤ 1000) {g : Nat} {t : TypeId} {x : Int × Int} (hg : W.heap[g]? = some (.cells #[.int .i64 x.1, .int .i64 x.2] t (0, 0))) :
    ∃ a' c' W', (Builtin.append_ #[T, T] T #[.slice a L.length cap, .slice (some ⟨g, 0, none⟩) 1 1]).run P W = .ok (.slice a' (L.length + 1) c') W' ∧ Mer.Own W' 38 2 (.slice a' (L.length + 1) c') (L ++ [x]).length (tbV (L ++ [x])) ∧ Kp (fun k => (Value.slice a L.length cap).ownBlock = some k) W W' ∧
      ((Value.slice a' (L.length + 1) c').ownBlock = (Value.slice a L.length cap).ownBlock ∨ ∃ g, (Value.slice a' (L.length + 1) c').ownBlock = some g ∧ W.heap.size ≤ g) := by
  obtain ⟨i0, hi, hz⟩ := Option.map_eq_some_iff.1 hE
  injection hz with hz0 hz
  injection hz with hz1 hz2
  obtain ⟨z, hz, hz3⟩ := Option.map_eq_some_iff.1 hz0
  have hsrc : Src W 2 (.slice (some ⟨g, 0, none⟩) 1 1) 1 [.int .i64 x.1, .int .i64 x.2] := ⟨rfl, some ⟨g, 0, none⟩, 1, rfl, Rd.row (n := 2) hg rfl (get_lt hg) (Nat.le_refl _)⟩
  obtain ⟨v', w', hrun, ho, hkp, hblk⟩ := run_append_Own (P := P) T T T 38 i0 z 2 bytes hT ⟨_, hT⟩ hi hz hz1 hz2 hz3 _ L.length _ h _ 1 _ hsrc
    (fun u hu => by simp at hu; rcases hu with rfl | rfl <;> rfl) (by unfold maxLen; omega) (by
      have : (L.length + 1) * bytes ≤ 1001 * 64 := Nat.mul_le_mul (by omega) hby
      omega)
  obtain ⟨_, a', c', rfl, _⟩ := id ho
  refine ⟨a', c', w', hrun, ?_, hkp, hblk⟩
  rw [tbV_append, List.length_append]
  exact ho
end Go.Proofs.YtapikolgpmefbaaGreatDoor
