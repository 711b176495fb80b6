/-
  A slice of strings of one's own: append; strings.Join of it.
-/
import Derived.Test.YthkbcfenjodbmaaDoorApp
import Derived.Test.YthkbcfenjodbmaaDoorShelf
namespace Go.Proofs.YthkbcfenjodbmaaDoor
open Go.RowKit Go.Mer

theorem infoStr : (Tryd.prog.info? 9).map (fun i => (i.zero, i.size, i.bytes)) = some (some (.string ⟨#[]⟩), 1, 16) := by kernel_rfl
def strsV (l : List ByteArray) : List Value := l.map Value.string
theorem strsV_length (l : List ByteArray) : (strsV l).length = l.length := by simp [strsV]
theorem strsV_append (l k : List ByteArray) : strsV (l ++ k) = strsV l ++ strsV k := by simp [strsV]
theorem strsV_one (l : List ByteArray) : ∀ u ∈ strsV l, u.oneCell' = true := by
  intro u hu
  obtain ⟨b, _, rfl⟩ := List.mem_map.1 hu
  rfl
/-- What is held of a slice that the function made: it lies above w's heap. -/
def MineS (w W : World) (v : Value) (n : Nat) (X : List ByteArray) : Prop :=
  n = X.length ∧ Own W 9 1 v n (strsV X) ∧ Kp No w W ∧ ∀ g, v.ownBlock = some g → w.heap.size ≤ g
theorem MineS.kp {w W : World} {v : Value} {n : Nat} {X : List ByteArray} (h : MineS w W v n X) : Kp No w W := h.2.2.1
theorem MineS.no {w W W' : World} {v : Value} {n : Nat} {X : List ByteArray} (h : MineS w W v n X) (hk : Kp No W W') : MineS w W' v n X :=
  ⟨h.1, h.2.1.keep hk fun _ _ x => x, h.2.2.1.trans_same hk, h.2.2.2⟩
/-- A literal. -/
theorem MineS.made (w W : World) (hk : Kp No w W) (cs : Array Value) (X : List ByteArray) (n : Nat) (hn : n = X.length) (hm : n ≤ maxLen) (hx : cs.toList = strsV X) : MineS w (W.alloc (.cells cs 9)) (.slice (some ⟨W.heap.size, 0, none⟩) n n) n X := by
  subst hn
  have hsz : cs.size = X.length := by rw [← Array.length_toList, hx, strsV_length]
  refine ⟨rfl, Own.made W 9 1 cs _ _ (Nat.le_refl _) hm (by omega) ?_, hk.alloc _, fun g hg => ?_⟩
  · rw [hx, Nat.mul_one, ← strsV_length X, List.take_length]
  · injection hg with hg
    rw [← show W.heap.size = g from hg]
    exact hk.size
/-- append(v, literal..). -/
theorem MineS.appk {w W : World} {v : Value} {n : Nat} {X : List ByteArray} (h : MineS w W v n X) {g : Nat} {cs : Array Value} (hg : W.heap[g]? = some (.cells cs 9 (0, 0))) (Y : List ByteArray) (m : Nat) (hm : m = Y.length) (hx : cs.toList = strsV Y) (hl : n + m ≤ 1000000) :
    ∃ a' c' W', (Builtin.append_ #[52, 52] 52 #[v, .slice (some ⟨g, 0, none⟩) m m]).run Tryd.prog W = .ok (.slice a' (n + m) c') W' ∧ MineS w W' (.slice a' (n + m) c') (n + m) (X ++ Y) ∧ Kp (fun k => v.ownBlock = some k) W W' := by
  obtain ⟨rfl, ho, hk, hb⟩ := h
  subst hm
  have hrd : Rd W W.heap.size (some ⟨g, 0, none⟩) (strsV Y) :=
    Rd.row (n := Y.length) hg (by rw [hx, List.drop_zero, ← strsV_length Y, List.take_length]) (get_lt hg) (Nat.le_refl _)
  obtain ⟨i0, hi, hz0, hz1, hz2⟩ := info_parts infoStr
  obtain ⟨v', W', h1, h2, h3, h4⟩ := run_append_Own (P := Tryd.prog) (w := W) 52 52 52 9 i0 (.string ⟨#[]⟩) 1 16 Tryd.underlying52 ⟨_, Tryd.underlying52⟩ hi hz0 hz1 hz2 rfl
    v X.length (strsV X) ho (.slice (some ⟨g, 0, none⟩) Y.length Y.length) Y.length (strsV Y) ⟨by simp [strsV_length], _, _, rfl, hrd⟩ (strsV_one Y) (by simp only [maxLen]; omega) (by omega)
  obtain ⟨_, a', c', rfl, _⟩ := id h2
  rw [← strsV_append] at h2
  refine ⟨a', c', W', h1, ⟨by simp, h2, hk.trans h3 (fun i hi hv => ?_), fun g' hg' => ?_⟩, h3⟩
  · have := hb i hv
    omega
  · rcases h4 with h4 | ⟨g2, h4, h5⟩
    · rw [h4] at hg'
      exact hb g' hg'
    · rw [h4] at hg'
      injection hg' with hg'
      have := hk.size
      omega
theorem MineS.app' {w W : World} {v : Value} {n : Nat} {X : List ByteArray} (h : MineS w W v n X) {g : Nat} {cs : Array Value} (hg : W.heap[g]? = some (.cells cs 9 (0, 0))) (Y : List ByteArray) (m : Nat) (hm : m = Y.length) (hx : cs.toList = strsV Y) (hl : n + m ≤ 1000000) :
    ∃ a' c' W', (Builtin.append_ #[52, 52] 52 #[v, .slice (some ⟨g, 0, none⟩) m m]).run Tryd.prog W = .ok (.slice a' (n + m) c') W' ∧ MineS w W' (.slice a' (n + m) c') (n + m) (X ++ Y) := by
  obtain ⟨a', c', W', h1, h2, _⟩ := h.appk hg Y m hm hx hl
  exact ⟨a', c', W', h1, h2⟩
theorem MineS.app {w W : World} {v : Value} {n : Nat} {X : List ByteArray} (h : MineS w W v n X) (cs : Array Value) (Y : List ByteArray) (m : Nat) (hm : m = Y.length) (hx : cs.toList = strsV Y) (hl : n + m ≤ 1000000) :
    ∃ a' c' W', (Builtin.append_ #[52, 52] 52 #[v, .slice (some ⟨W.heap.size, 0, none⟩) m m]).run Tryd.prog (W.alloc (.cells cs 9)) = .ok (.slice a' (n + m) c') W' ∧ MineS w W' (.slice a' (n + m) c') (n + m) (X ++ Y) :=
  (h.no ((Kp.refl _ _).alloc _)).app' (heap_alloc_new W _) Y m hm hx hl
theorem MineS.app4 {w W : World} {v : Value} {n : Nat} {X : List ByteArray} (h : MineS w W v n X) (n1 n2 : Nat) (cs : Array Value) (Y : List ByteArray) (m : Nat) (hm : m = Y.length) (hx : cs.toList = strsV Y) (hl : n + m ≤ 1000000) :
    ∃ a' c' W', (Builtin.append_ #[52, 52] 52 #[v, .slice (some ⟨W.heap.size, 0, none⟩) m m]).run Tryd.prog (((W.drewN n1).alloc (.cells cs 9)).drewN n2) = .ok (.slice a' (n + m) c') W' ∧ MineS w W' (.slice a' (n + m) c') (n + m) (X ++ Y) :=
  (h.no ((((Kp.refl _ _).drewN n1).alloc _).drewN n2)).app' (heap_alloc_new (W.drewN n1) _) Y m hm hx hl
theorem MineS.app4k {w W : World} {v : Value} {n : Nat} {X : List ByteArray} (h : MineS w W v n X) (n1 n2 : Nat) (cs : Array Value) (Y : List ByteArray) (m : Nat) (hm : m = Y.length) (hx : cs.toList = strsV Y) (hl : n + m ≤ 1000000) :
    ∃ a' c' W', (Builtin.append_ #[52, 52] 52 #[v, .slice (some ⟨W.heap.size, 0, none⟩) m m]).run Tryd.prog (((W.drewN n1).alloc (.cells cs 9)).drewN n2) = .ok (.slice a' (n + m) c') W' ∧ MineS w W' (.slice a' (n + m) c') (n + m) (X ++ Y) ∧ Kp (fun k => v.ownBlock = some k) W W' := by
  have hal : Kp No W (((W.drewN n1).alloc (.cells cs 9)).drewN n2) := (((Kp.refl _ _).drewN n1).alloc _).drewN n2
  obtain ⟨a', c', W', h1, h2, h3⟩ := (h.no hal).appk (heap_alloc_new (W.drewN n1) _) Y m hm hx hl
  exact ⟨a', c', W', h1, h2, hal.of_no.trans_same h3⟩
/-- What Join gives. -/
def joinS (X : List ByteArray) (sep : ByteArray) : ByteArray := ⟨(Lib.join (X.map (·.data.toList)) sep.data.toList).toArray⟩
theorem MineS.join {w W : World} {a : Option Addr} {n c : Nat} {X : List ByteArray} (h : MineS w W (.slice a n c) n X) (h0 : 0 < n) (sep : ByteArray) (hn : n ≤ 1000000) (hlen : (joinS X sep).size ≤ 140737488355328) :
    Calls Tryd.prog 14 #[.slice a n c, .string sep] W fun e w' => e = .returned (.string (joinS X sep)) ∧ Kp No w w' := by
  obtain ⟨rfl, ho, hk, _⟩ := h
  obtain ⟨_, c', e', hcc, _⟩ := ho.rd
  obtain ⟨g, off, rfl, hg, _, hc⟩ := ho.rd' (by rw [strsV_length]; exact h0)
  injection e' with _ _ e3
  subst e3
  refine (Tryd.strings_Join g off c X sep W (fun j x hx => hc j _ (by rw [strsV, List.getElem?_map, hx]; rfl)) hg (by omega) hcc (by simpa [joinS, ByteArray.size] using hlen)).mono ?_
  rintro e w' ⟨rfl, hb⟩
  exact ⟨rfl, hk.trans_same (Kp.of_below hb fun k h1 h2 => by omega)⟩
end Go.Proofs.YthkbcfenjodbmaaDoor
