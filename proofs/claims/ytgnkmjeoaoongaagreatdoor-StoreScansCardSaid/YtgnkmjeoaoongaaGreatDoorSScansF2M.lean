/-
  SScansF2.
-/
import Derived.Test.YtgnkmjeoaoongaaGreatDoorRows
import Derived.SevenTiedAt
namespace Go.Proofs.YtgnkmjeoaoongaaGreatDoor
theorem A4:false=Rows.storeScansRow.goesBy Tryz.pinned.checked.prog:=by kernel_rfl
end Go.Proofs.YtgnkmjeoaoongaaGreatDoor
