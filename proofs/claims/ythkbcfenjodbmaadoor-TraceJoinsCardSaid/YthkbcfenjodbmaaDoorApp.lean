/-
  append of bytes to a slice of one's own; a slice of one's own turned to a string.
-/
import Derived.Test.YthkbcfenjodbmaaDoorProg
import Derived.Test.YthkbcfenjodbmaaDoorMem
import Derived.Lib.SlBytesConst
namespace Go.Proofs.YthkbcfenjodbmaaDoor
open Go.RowKit Go.Mer

theorem infoByte : (Tryd.prog.info? 5).map (fun i => (i.zero, i.size, i.bytes)) = some (some (.int .u8 0), 1, 1) := by kernel_rfl
/-- append(v, x...) of bytes. -/
theorem app_bytes (w : World) (v : Value) (xs ys : List UInt8) (hown : Own w 5 1 v xs.length (u8s xs)) (a : Option Addr) (c : Nat) (hx : Rd w w.heap.size a (u8s ys)) (hl : xs.length + ys.length ≤ 140737488355328) :
    ∃ a' c' w', (Builtin.append_ #[22, 22] 22 #[v, .slice a ys.length c]).run Tryd.prog w = .ok (.slice a' (xs ++ ys).length c') w' ∧
      Own w' 5 1 (.slice a' (xs ++ ys).length c') (xs ++ ys).length (u8s (xs ++ ys)) ∧ Kp (fun k => v.ownBlock = some k) w w' ∧
      ((Value.slice a' (xs ++ ys).length c').ownBlock = v.ownBlock ∨ ∃ g, (Value.slice a' (xs ++ ys).length c').ownBlock = some g ∧ w.heap.size ≤ g) := by
  obtain ⟨i0, hi, hz0, hz1, hz2⟩ := info_parts infoByte
  obtain ⟨v', w', hrun, ho, hkp, hblk⟩ := run_append_Own (P := Tryd.prog) (w := w) 22 22 22 5 i0 (.int .u8 0) 1 1 Tryd.underlying22 ⟨_, Tryd.underlying22⟩ hi hz0 hz1 hz2 rfl
    v xs.length (u8s xs) hown (.slice a ys.length c) ys.length (u8s ys) ⟨by simp [u8s_length], a, c, rfl, hx⟩ (u8s_one ys) (by simp only [maxLen]; omega) (by omega)
  obtain ⟨_, a', c', rfl, _⟩ := id ho
  rw [← u8s_append, ← List.length_append] at ho
  rw [← List.length_append] at hrun hblk
  exact ⟨a', c', w', hrun, ho, hkp, hblk⟩
/-- What is held of a slice that the function made: it lies above B. -/
def Mine (w W : World) (v : Value) (n : Nat) (X : List UInt8) : Prop :=
  n = X.length ∧ Own W 5 1 v n (u8s X) ∧ Kp No w W ∧ ∀ g, v.ownBlock = some g → w.heap.size ≤ g
theorem Mine.kp {w W : World} {v : Value} {n : Nat} {X : List UInt8} (h : Mine w W v n X) : Kp No w W := h.2.2.1
theorem Mine.no {w W W' : World} {v : Value} {n : Nat} {X : List UInt8} (h : Mine w W v n X) (hk : Kp No W W') : Mine w W' v n X :=
  ⟨h.1, h.2.1.keep hk fun _ _ x => x, h.2.2.1.trans_same hk, h.2.2.2⟩
/-- A literal. -/
theorem Mine.made (w W : World) (hk : Kp No w W) (cs : Array Value) (X : List UInt8) (n : Nat) (hn : n = X.length) (hm : n ≤ maxLen) (hx : cs.toList = u8s X) : Mine w (W.alloc (.cells cs 5)) (.slice (some ⟨W.heap.size, 0, none⟩) n n) n X := by
  subst hn
  have hsz : cs.size = X.length := by rw [← Array.length_toList, hx, u8s_length]
  refine ⟨rfl, Own.made W 5 1 cs _ _ (Nat.le_refl _) hm (by omega) ?_, hk.alloc _, fun g hg => ?_⟩
  · rw [hx, Nat.mul_one, ← u8s_length X, List.take_length]
  · injection hg with hg
    rw [← show W.heap.size = g from hg]
    exact hk.size
/-- append(v, literal..). -/
theorem Mine.app' {w W : World} {v : Value} {n : Nat} {X : List UInt8} (h : Mine w W v n X) {g : Nat} {cs : Array Value} (hg : W.heap[g]? = some (.cells cs 5 (0, 0))) (Y : List UInt8) (m : Nat) (hm : m = Y.length) (hx : cs.toList = u8s Y) (hl : n + m ≤ 140737488355328) :
    ∃ a' c' W', (Builtin.append_ #[22, 22] 22 #[v, .slice (some ⟨g, 0, none⟩) m m]).run Tryd.prog W = .ok (.slice a' (n + m) c') W' ∧ Mine w W' (.slice a' (n + m) c') (n + m) (X ++ Y) := by
  obtain ⟨rfl, ho, hk, hb⟩ := h
  subst hm
  have hrd : Rd W W.heap.size (some ⟨g, 0, none⟩) (u8s Y) :=
    Rd.row (n := Y.length) hg (by rw [hx, List.drop_zero, ← u8s_length Y, List.take_length]) (get_lt hg) (Nat.le_refl _)
  obtain ⟨a', c', W', h1, h2, h3, h4⟩ := app_bytes _ v X Y ho (some ⟨g, 0, none⟩) Y.length hrd hl
  rw [List.length_append] at h1 h2 h4
  refine ⟨a', c', W', h1, by simp, h2, hk.trans h3 (fun i hi hv => ?_), fun g' hg' => ?_⟩
  · have := hb i hv
    omega
  · rcases h4 with h4 | ⟨g2, h4, h5⟩
    · rw [h4] at hg'
      exact hb g' hg'
    · rw [h4] at hg'
      injection hg' with hg'
      have := hk.size
      omega
theorem Mine.app {w W : World} {v : Value} {n : Nat} {X : List UInt8} (h : Mine w W v n X) (cs : Array Value) (Y : List UInt8) (m : Nat) (hm : m = Y.length) (hx : cs.toList = u8s Y) (hl : n + m ≤ 140737488355328) :
    ∃ a' c' W', (Builtin.append_ #[22, 22] 22 #[v, .slice (some ⟨W.heap.size, 0, none⟩) m m]).run Tryd.prog (W.alloc (.cells cs 5)) = .ok (.slice a' (n + m) c') W' ∧ Mine w W' (.slice a' (n + m) c') (n + m) (X ++ Y) :=
  (h.no ((Kp.refl _ _).alloc _)).app' (heap_alloc_new W _) Y m hm hx hl
theorem Mine.app4 {w W : World} {v : Value} {n : Nat} {X : List UInt8} (h : Mine w W v n X) (n1 n2 : Nat) (cs : Array Value) (Y : List UInt8) (m : Nat) (hm : m = Y.length) (hx : cs.toList = u8s Y) (hl : n + m ≤ 140737488355328) :
    ∃ a' c' W', (Builtin.append_ #[22, 22] 22 #[v, .slice (some ⟨W.heap.size, 0, none⟩) m m]).run Tryd.prog (((W.drewN n1).alloc (.cells cs 5)).drewN n2) = .ok (.slice a' (n + m) c') W' ∧ Mine w W' (.slice a' (n + m) c') (n + m) (X ++ Y) :=
  (h.no ((((Kp.refl _ _).drewN n1).alloc _).drewN n2)).app' (heap_alloc_new (W.drewN n1) _) Y m hm hx hl
/-- string(v). -/
theorem Mine.str {w W : World} {a : Option Addr} {n c : Nat} {X : List UInt8} (h : Mine w W (.slice a n c) n X) (h0 : 0 < n) : (convert 22 9 (.slice a n c)).run Tryd.prog W = .ok (.string ⟨X.toArray⟩) W := by
  obtain ⟨rfl, ho, _, _⟩ := h
  obtain ⟨g, off, rfl, _, _, hc⟩ := ho.rd' (by rw [u8s_length]; exact h0)
  exact run_convert_bytes_back (P := Tryd.prog) W 22 9 5 ⟨g, off, none⟩ c X Tryd.underlying22 Tryd.underlying5 Tryd.underlying9 (fun j hj => by
    rw [add_lit']
    exact hc j _ (by rw [u8s_get?, List.getElem?_eq_getElem hj]; rfl))
end Go.Proofs.YthkbcfenjodbmaaDoor
