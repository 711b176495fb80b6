/-
  StoreOrder's row: what it reaches.
-/
import Derived.Test.YtgnkmjeoaoongaaGreatDoorRows
import Derived.SevenTiedAt
import Derived.Test.YtgnkmjeoaoongaaGreatDoorSe0
namespace Go.Proofs.YtgnkmjeoaoongaaGreatDoor
theorem storeOrder_inPlace : (Rows.storeOrderRow.inPlace == Tryz.pinned.checked.prog.inPlace 3) = true := by kernel_rfl
theorem storeOrder_unfollowed : (Rows.storeOrderRow.unfollowed == Tryz.pinned.checked.prog.unfollowed 3) = true := by kernel_rfl
theorem storeOrder_recurses : (Rows.storeOrderRow.recurses == Tryz.pinned.checked.prog.recurses 3) = true := by kernel_rfl
theorem storeOrder_named : (Rows.storeOrderRow.named == Tryz.pinned.checked.prog.varsNamed 3) = true := by kernel_rfl
theorem storeOrder_joined : joinedFacts Tryz.pinned.checked.prog 3 Tryz.f3 Rows.storeOrderSpec Rows.storeOrderRow = true := by
 unfold joinedFacts
 rw [storeOrder_inPlace, storeOrder_unfollowed, storeOrder_recurses, storeOrder_named]
 kernel_rfl
end Go.Proofs.YtgnkmjeoaoongaaGreatDoor
