/-
  What the elder groups left out of: RDisk, Hlc, WLogM, WNms, SOpen, SRead.
-/
import Derived.Sort.Walk0
import Derived.WalkSpells
import Derived.WalkLawsBesides
import Derived.BigQuiet
import Derived.Test.YtgnkmjeoaoongaaGreatDoorSa0
import Derived.Test.YtgnkmjeoaoongaaGreatDoorSa1
import Derived.Test.YtgnkmjeoaoongaaGreatDoorSa2
import Derived.Test.YtgnkmjeoaoongaaGreatDoorSa3
import Derived.Test.YtgnkmjeoaoongaaGreatDoorSa4
import Derived.Test.YtgnkmjeoaoongaaGreatDoorSa5
import Derived.Test.YtgnkmjeoaoongaaGreatDoorSa6
import Derived.Test.YtgnkmjeoaoongaaGreatDoorSa7
import Derived.Test.YtgnkmjeoaoongaaGreatDoorSa8
import Derived.Test.YtgnkmjeoaoongaaGreatDoorSa9
import Derived.Test.YtgnkmjeoaoongaaGreatDoorSb0
import Derived.Test.YtgnkmjeoaoongaaGreatDoorSb1
import Derived.Test.YtgnkmjeoaoongaaGreatDoorSb2
import Derived.Test.YtgnkmjeoaoongaaGreatDoorSb3
import Derived.Test.YtgnkmjeoaoongaaGreatDoorSb4
import Derived.Test.YtgnkmjeoaoongaaGreatDoorSb5
import Derived.Test.YtgnkmjeoaoongaaGreatDoorSb6
import Derived.Test.YtgnkmjeoaoongaaGreatDoorSb7
import Derived.Test.YtgnkmjeoaoongaaGreatDoorSb8
import Derived.Test.YtgnkmjeoaoongaaGreatDoorSb9
import Derived.Test.YtgnkmjeoaoongaaGreatDoorSc0
import Derived.Test.YtgnkmjeoaoongaaGreatDoorSc1
import Derived.Test.YtgnkmjeoaoongaaGreatDoorSc2
import Derived.Test.YtgnkmjeoaoongaaGreatDoorSc3
import Derived.Test.YtgnkmjeoaoongaaGreatDoorSc4
import Derived.Test.YtgnkmjeoaoongaaGreatDoorSc5
import Derived.Test.YtgnkmjeoaoongaaGreatDoorSc6
import Derived.Test.YtgnkmjeoaoongaaGreatDoorSc7
import Derived.Test.YtgnkmjeoaoongaaGreatDoorSc8
import Derived.Test.YtgnkmjeoaoongaaGreatDoorSc9
import Derived.Test.YtgnkmjeoaoongaaGreatDoorSd0
import Derived.Test.YtgnkmjeoaoongaaGreatDoorSd1
import Derived.Test.YtgnkmjeoaoongaaGreatDoorSd2
namespace Go.Mer
open Go Go.RowKit
section
variable {K β : Type} [DecidableEq K]
end
end Go.Mer
namespace Go.Proofs.YtgnkmjeoaoongaaGreatDoor
open Go.RowKit Go.Mer
section
variable {w w' : World} {r room : Nat} {left : Int} {rv : Value} {L : List RFile}
theorem Spot.le {k : ByteArray} {i : Nat} {b : Bool} (h : Spot L k i b) : i ≤ L.length := by
 cases h with
 | is L1 f L2 hL _ => rw [hL]; simp
 | no L1 L2 hL _ _ => rw [hL]; simp
end
end Go.Proofs.YtgnkmjeoaoongaaGreatDoor
namespace Go.Proofs.YtgnkmjeoaoongaaGreatDoor
open Go.RowKit Go.Mer
theorem rIs_any (m c : Int) (w : World) : Calls Tryz.prog 74 #[stv m c] w fun e w' => e = .returned (.bool (isSt m c)) ∧ Kp No w w' := by
 unfold isSt
 rcases three 0 281474976710655 m (by decide) with g0 | ⟨g0, g1⟩ | g0
 all_goals
  rcases three 0 65535 c (by decide) with h0 | ⟨h0, h1⟩ | h0
  all_goals
   go_enter Tryz.func74, Tryz.ntmps74
   go_wp2_with fail
   go_ret
   refine ⟨?_, (Kp.refl _ _).alloc _⟩
   simp [*]
   try omega
end Go.Proofs.YtgnkmjeoaoongaaGreatDoor
namespace Go.Proofs.YtgnkmjeoaoongaaGreatDoor
open Go.RowKit Go.Mer
section
variable {w w' W W' : World} {l d : Nat} {P : ByteArray} {sv ev sv' ev' : Value} {S S' : List (Nat × Nat)} {E E' : List Row} {synced synced' : Nat} {dead dead' : Bool} {G : Nat → Prop} {r : Row}
end
theorem own_one {T E sz bytes : Nat} (hT : Tryz.prog.underlying T = some (.slice E)) (hE : (Tryz.prog.info? E).map (fun i => ((i.zero.map fun z => z.cells.size), i.size, i.bytes)) = some (some sz, sz, bytes)) {W : World} {v : Value} {n : Nat} {xs news : List Value} (ho : Own W E sz v n xs)
  (hone : ∀ u ∈ news, u.oneCell' = true) (hl : news.length = sz) {cs : Array Value} (hcs : cs.toList = news) (hn : n ≤ 1100000000) (hb : (n + 1) * bytes ≤ 140737488355328) :
  ∃ a' c' W', (Builtin.append_ #[T, T] T #[v, .slice (some ⟨W.heap.size, 0, none⟩) 1 1]).run Tryz.prog (W.alloc (.cells cs E)) = .ok (.slice a' (n + 1) c') W' ∧ Own W' E sz (.slice a' (n + 1) c') (n + 1) (xs ++ news) ∧ Kp (fun k => v.ownBlock = some k) W W' ∧
   ((Value.slice a' (n + 1) c').ownBlock = v.ownBlock ∨ ∃ g, (Value.slice a' (n + 1) c').ownBlock = some g ∧ W.heap.size ≤ g) := by
 have hk : Kp No W (W.alloc (.cells cs E)) := (Kp.refl _ _).alloc _
 obtain ⟨a', c', w', hrun, ho', hkp, hblk⟩ := own_two hT hE (ho.keep hk fun _ _ x => x) hone hl (heap_alloc_new W _) hcs hn hb
 refine ⟨a', c', w', hrun, ho', (Kp.of_no hk).trans_same hkp, ?_⟩
 rcases hblk with h | ⟨g, h, h'⟩
 ·exact .inl h
 ·exact .inr ⟨g, h, Nat.le_trans hk.size h'⟩
end Go.Proofs.YtgnkmjeoaoongaaGreatDoor
namespace Go.Proofs.YtgnkmjeoaoongaaGreatDoor
open Go.RowKit Go.Mer
theorem nm_sorted {N : List ByteArray} {ss : List (List UInt8)} {fs : Files} (hN : N.Pairwise NLt) (hp : N.Perm (fs.map (·.1))) (hs : ss.Perm (fs.map (·.1.data.toList))) : namesOf ss = N := by
 have h1 : (ss.mergeSort fun x y => decide (x ≤ y)) = N.map (·.data.toList) := by
  refine List.Perm.eq_of_pairwise (le := fun a b : List UInt8 => a ≤ b) (fun a b _ _ h1 h2 => List.le_antisymm h1 h2) ?_ ?_ ?_
  ·have := List.pairwise_mergeSort (le := fun x y : List UInt8 => decide (x ≤ y)) (fun a b c h1 h2 => decide_eq_true (List.le_trans (of_decide_eq_true h1) (of_decide_eq_true h2))) (fun a b => by
    rcases List.le_total a b with h | h <;> simp [h]) ss
   exact this.imp fun h => of_decide_eq_true h
  ·exact List.pairwise_map.2 (hN.imp fun h => List.le_of_lt h)
  ·refine (List.mergeSort_perm _ _).trans (hs.trans ?_)
   have h2 := hp.symm.map (·.data.toList)
   rwa [List.map_map] at h2
 unfold namesOf
 rw [h1, List.map_map]
 have h3 : ((fun b : List UInt8 => (⟨b.toArray⟩ : ByteArray)) ∘ fun x : ByteArray => x.data.toList) = id := by
  funext x
  rfl
 rw [h3, List.map_id]
end Go.Proofs.YtgnkmjeoaoongaaGreatDoor
namespace Go.Proofs.YtgnkmjeoaoongaaGreatDoor
open Go.RowKit Go.Mer
def manySt (st : SSt) : Nat := (st.keys.map fun p => p.2.length).sum
end Go.Proofs.YtgnkmjeoaoongaaGreatDoor
namespace Go.Proofs.YtgnkmjeoaoongaaGreatDoor
open Go.RowKit Go.Mer
section
variable {w : World} {s d l o m : Nat} {P : ByteArray} {st : SSt} {cs : ChL} {ka : Option Addr} {kc : Nat} {K : List RecR}
theorem age_any (h : StC w s d l P o st m cs ka kc K) : Calls Tryz.prog 20 #[.pointer (some ⟨s, 0, none⟩)] w fun e w' => e = .returned (.tuple #[.int .i64 (st.age : Int), .int .i64 (st.n : Int)]) ∧ Kp No w w' := by
 have c4 : w.cell? ⟨s, 4, none⟩ = some (.int .i64 (st.age : Int)) := h.at_ (Kp.refl _ _) 4
 have c5 : w.cell? ⟨s, 5, none⟩ = some (.int .i64 (st.n : Int)) := h.at_ (Kp.refl _ _) 5
 have hl := get_lt h.cell
 clear h
 go_enter Tryz.func20, Tryz.ntmps20
 go_upto_region 3 with fail
 refine wp_region_ord [0,0,0,1,0,0,0,1,0,0] [0,1,2,4,5,6,3,8,7,9] (by kernel_rfl) (by kernel_rfl) ?_
 repeat (first
  | (apply wpOrd_skip rfl (by decide) rfl; (focus (go_simp; rfl)))
  | (apply wpOrd_pure rfl rfl rfl; (focus (intro _ _; go_simp; (try go_ints); rfl)); (focus (go_simp; rfl)))
  | (apply wpOrd_read rfl rfl rfl; (focus (intro _; go_simp; (try go_ints); rfl)); (focus (go_simp; rfl))))
 refine wpOrd_nil (fun nq => ?_)
 go_wp2_with fail
 go_ret2
 exact ⟨rfl, (Kp.refl _ _).drewN _⟩
end
end Go.Proofs.YtgnkmjeoaoongaaGreatDoor
