/-
  SScansF1.
-/
import Derived.Test.YtgnkmjeoaoongaaGreatDoorRows
import Derived.SevenTiedAt
namespace Go.Proofs.YtgnkmjeoaoongaaGreatDoor
theorem Lh:(Rows.storeScansRow.inPlace==Tryz.pinned.checked.prog.inPlace 5)=true:=by kernel_rfl
theorem D9:(Rows.storeScansRow.unfollowed==Tryz.pinned.checked.prog.unfollowed 5)=true:=by kernel_rfl
theorem M6:(Rows.storeScansRow.recurses==Tryz.pinned.checked.prog.recurses 5)=true:=by kernel_rfl
theorem Cq:(Rows.storeScansRow.named==Tryz.pinned.checked.prog.varsNamed 5)=true:=by kernel_rfl
theorem Hg:joinedFacts Tryz.pinned.checked.prog 5 Tryz.f5 Rows.storeScansSpec Rows.storeScansRow=true:=by
 unfold joinedFacts;rw [Lh,D9,M6,Cq];kernel_rfl
end Go.Proofs.YtgnkmjeoaoongaaGreatDoor
