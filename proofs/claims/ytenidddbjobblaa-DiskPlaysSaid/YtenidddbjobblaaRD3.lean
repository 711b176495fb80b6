/-
  The reference's disk: New.
-/
import Derived.Test.YtenidddbjobblaaRD1
namespace Go.Proofs.Ytenidddbjobblaa
open Go.RowKit Go.Mer

set_option maxHeartbeats 400000 in
theorem rNew_any (room : Nat) (w : World) (hhi : room ≤ 1073741824) :
    Calls Try.prog 23 #[.int .i64 (room : Int)] w fun e w' => ∃ r, e = .returned (.tuple #[.pointer (some ⟨r, 0, none⟩), .int .i64 0]) ∧ Kp No w w' ∧ ∃ G, RAt w' r ⟨room, none, []⟩ G ∧ ∀ k, G k → w.heap.size ≤ k := by
  go_enter Try.func23, Try.ntmps23
  go_wp2_with fail
  go_ret2
  refine ⟨_, rfl, (Kp.refl _ _).alloc _, fun k => k = w.heap.size, ⟨.slice none 0 0, [], ⟨heap_alloc_new w _, by simpa using Own.nil _ 77 3, by simp, List.Pairwise.nil, by simp [absR, totF], hhi, by simp, by simp [leftOf], by simp [leftOf]⟩, List.Perm.refl _, ?_, ?_⟩, ?_⟩
  · rintro k (rfl | hk | ⟨f, hf, _⟩)
    · rfl
    · cases hk
    · cases hf
  · rintro k rfl
    simp
  · rintro k rfl
    exact Nat.le_refl _
set_option maxHeartbeats 400000 in
theorem rNew_bad (room : Int) (w : World) (h : room < 0 ∨ 1073741824 < room) : Calls Try.prog 23 #[.int .i64 room] w fun e w' => e = .returned (.tuple #[.pointer none, .int .i64 1]) ∧ w' = w := by
  rcases h with h | h
  · go_enter Try.func23, Try.ntmps23
    go_wp2_with fail
    go_ret2
    exact ⟨rfl, rfl⟩
  · have h1 : ¬ room < 0 := by omega
    go_enter Try.func23, Try.ntmps23
    go_wp2_with fail
    go_ret2
    exact ⟨rfl, rfl⟩
end Go.Proofs.Ytenidddbjobblaa
