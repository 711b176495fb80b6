/-
  Texts laid together: WRr, WRrNum, WRead, RRem.
-/
import Derived.Test.YtgnkmjeoaoongaaGreatDoorSc2
import Derived.Test.YtgnkmjeoaoongaaGreatDoorSc1
import Derived.Deep.CutBlock
import Derived.Test.YtgnkmjeoaoongaaGreatDoorSb5
import Derived.Test.YtgnkmjeoaoongaaGreatDoorSa8
namespace Go.Proofs.YtgnkmjeoaoongaaGreatDoor
open Go.RowKit Go.Mer
end Go.Proofs.YtgnkmjeoaoongaaGreatDoor
namespace Go.Proofs.YtgnkmjeoaoongaaGreatDoor
open Go.RowKit Go.Mer
end Go.Proofs.YtgnkmjeoaoongaaGreatDoor
namespace Go.Proofs.YtgnkmjeoaoongaaGreatDoor
open Go.RowKit Go.Mer
end Go.Proofs.YtgnkmjeoaoongaaGreatDoor
namespace Go.Proofs.YtgnkmjeoaoongaaGreatDoor
open Go.RowKit Go.Mer
end Go.Proofs.YtgnkmjeoaoongaaGreatDoor

