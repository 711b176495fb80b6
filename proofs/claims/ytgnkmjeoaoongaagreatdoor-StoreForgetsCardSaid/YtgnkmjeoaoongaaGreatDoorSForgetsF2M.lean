/-
  SForgetsF2.
-/
import Derived.Test.YtgnkmjeoaoongaaGreatDoorRows
import Derived.SevenTiedAt
namespace Go.Proofs.YtgnkmjeoaoongaaGreatDoor
theorem Hf:false=Rows.storeForgetsRow.goesBy Tryz.pinned.checked.prog:=by kernel_rfl
end Go.Proofs.YtgnkmjeoaoongaaGreatDoor
