/-
  What the listed variables give the walks (the table of powers of ten).
-/
import Derived.Test.YthkbcfenjodbmaaDoorRows
import Derived.Test.YthkbcfenjodbmaaDoorProg
import Derived.Test.YthkbcfenjodbmaaDoorArgs
import Derived.Lib.LaidTab
import Derived.Lib.SmallJoins
import Derived.Stop.LaidErr
import Derived.LaidMore
import Derived.OpenShut
import Derived.Stop.Joined
namespace Go.Proofs.YthkbcfenjodbmaaDoor
open Go.ChangeShapes Go.WideShapes Go.ChangeAt Go.RowKit Go.Mer

theorem Tryd.own : ownKnob Tryd.prog.godebug = none := by kernel_rfl
theorem Tryd.laidOut : laidOutB Tryd.prog = true := by kernel_rfl
end Go.Proofs.YthkbcfenjodbmaaDoor
