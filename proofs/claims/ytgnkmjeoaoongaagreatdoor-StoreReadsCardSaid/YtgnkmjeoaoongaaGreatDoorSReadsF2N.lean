/-
  SReadsF2.
-/
import Derived.Test.YtgnkmjeoaoongaaGreatDoorRows
import Derived.SevenTiedAt
namespace Go.Proofs.YtgnkmjeoaoongaaGreatDoor
theorem C4:false=Rows.storeReadsRow.goesBy Tryz.pinned.checked.prog:=by kernel_rfl
end Go.Proofs.YtgnkmjeoaoongaaGreatDoor
