/-
  StoreOfNothing's row: what it reaches.
-/
import Derived.Test.YtgnkmjeoaoongaaGreatDoorRows
import Derived.SevenTiedAt
namespace Go.Proofs.YtgnkmjeoaoongaaGreatDoor
theorem storeOfNothing_inPlace : (Rows.storeOfNothingRow.inPlace == Tryz.pinned.checked.prog.inPlace 9) = true := by kernel_rfl
theorem storeOfNothing_unfollowed : (Rows.storeOfNothingRow.unfollowed == Tryz.pinned.checked.prog.unfollowed 9) = true := by kernel_rfl
theorem storeOfNothing_recurses : (Rows.storeOfNothingRow.recurses == Tryz.pinned.checked.prog.recurses 9) = true := by kernel_rfl
theorem storeOfNothing_named : (Rows.storeOfNothingRow.named == Tryz.pinned.checked.prog.varsNamed 9) = true := by kernel_rfl
theorem storeOfNothing_joined : joinedFacts Tryz.pinned.checked.prog 9 Tryz.f9 Rows.storeOfNothingSpec Rows.storeOfNothingRow = true := by
  unfold joinedFacts
  rw [storeOfNothing_inPlace, storeOfNothing_unfollowed, storeOfNothing_recurses, storeOfNothing_named]
  kernel_rfl
end Go.Proofs.YtgnkmjeoaoongaaGreatDoor
