/-
  SDyF1.
-/
import Derived.Test.YtgnkmjeoaoongaaGreatDoorRows
import Derived.SevenTiedAt
namespace Go.Proofs.YtgnkmjeoaoongaaGreatDoor
theorem He:(Rows.storeDeadRow.inPlace==Tryz.pinned.checked.prog.inPlace 7)=true:=by kernel_rfl
theorem N9:(Rows.storeDeadRow.unfollowed==Tryz.pinned.checked.prog.unfollowed 7)=true:=by kernel_rfl
theorem Lf:(Rows.storeDeadRow.recurses==Tryz.pinned.checked.prog.recurses 7)=true:=by kernel_rfl
theorem A3:(Rows.storeDeadRow.named==Tryz.pinned.checked.prog.varsNamed 7)=true:=by kernel_rfl
theorem Cp:joinedFacts Tryz.pinned.checked.prog 7 Tryz.f7 Rows.storeDeadSpec Rows.storeDeadRow=true:=by
 unfold joinedFacts;rw [He,N9,Lf,A3];kernel_rfl
end Go.Proofs.YtgnkmjeoaoongaaGreatDoor
