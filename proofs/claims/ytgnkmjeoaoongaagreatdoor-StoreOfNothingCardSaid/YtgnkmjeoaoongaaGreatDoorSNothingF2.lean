/-
  StoreOfNothing's row: it starts no goroutine.
-/
import Derived.Test.YtgnkmjeoaoongaaGreatDoorRows
import Derived.SevenTiedAt
namespace Go.Proofs.YtgnkmjeoaoongaaGreatDoor
theorem storeOfNothing_goes : false = Rows.storeOfNothingRow.goesBy Tryz.pinned.checked.prog := by kernel_rfl
end Go.Proofs.YtgnkmjeoaoongaaGreatDoor
