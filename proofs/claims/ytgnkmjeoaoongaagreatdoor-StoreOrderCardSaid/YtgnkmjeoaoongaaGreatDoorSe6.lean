/-
  StoreOrder's row: it starts no goroutine.
-/
import Derived.Test.YtgnkmjeoaoongaaGreatDoorRows
import Derived.SevenTiedAt
import Derived.Test.YtgnkmjeoaoongaaGreatDoorSe0
namespace Go.Proofs.YtgnkmjeoaoongaaGreatDoor
theorem storeOrder_goes : false = Rows.storeOrderRow.goesBy Tryz.pinned.checked.prog := by kernel_rfl
end Go.Proofs.YtgnkmjeoaoongaaGreatDoor
