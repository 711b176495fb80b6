/-
  SDyF2.
-/
import Derived.Test.YtgnkmjeoaoongaaGreatDoorRows
import Derived.SevenTiedAt
namespace Go.Proofs.YtgnkmjeoaoongaaGreatDoor
theorem Q1r:false=Rows.storeDeadRow.goesBy Tryz.pinned.checked.prog:=by kernel_rfl
end Go.Proofs.YtgnkmjeoaoongaaGreatDoor
