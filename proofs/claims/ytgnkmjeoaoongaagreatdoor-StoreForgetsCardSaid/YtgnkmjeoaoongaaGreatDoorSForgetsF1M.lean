/-
  SForgetsF1.
-/
import Derived.Test.YtgnkmjeoaoongaaGreatDoorRows
import Derived.SevenTiedAt
namespace Go.Proofs.YtgnkmjeoaoongaaGreatDoor
theorem Na:(Rows.storeForgetsRow.inPlace==Tryz.pinned.checked.prog.inPlace 6)=true:=by kernel_rfl
theorem Kq:(Rows.storeForgetsRow.unfollowed==Tryz.pinned.checked.prog.unfollowed 6)=true:=by kernel_rfl
theorem D8:(Rows.storeForgetsRow.recurses==Tryz.pinned.checked.prog.recurses 6)=true:=by kernel_rfl
theorem Lg:(Rows.storeForgetsRow.named==Tryz.pinned.checked.prog.varsNamed 6)=true:=by kernel_rfl
theorem M5:joinedFacts Tryz.pinned.checked.prog 6 Tryz.f6 Rows.storeForgetsSpec Rows.storeForgetsRow=true:=by
 unfold joinedFacts;rw [Na,Kq,D8,Lg];kernel_rfl
end Go.Proofs.YtgnkmjeoaoongaaGreatDoor
