/-
  SReadsF1.
-/
import Derived.Test.YtgnkmjeoaoongaaGreatDoorRows
import Derived.SevenTiedAt
namespace Go.Proofs.YtgnkmjeoaoongaaGreatDoor
theorem Ns:(Rows.storeReadsRow.inPlace==Tryz.pinned.checked.prog.inPlace 4)=true:=by kernel_rfl
theorem Kv:(Rows.storeReadsRow.unfollowed==Tryz.pinned.checked.prog.unfollowed 4)=true:=by kernel_rfl
theorem Dm:(Rows.storeReadsRow.recurses==Tryz.pinned.checked.prog.recurses 4)=true:=by kernel_rfl
theorem Ik:(Rows.storeReadsRow.named==Tryz.pinned.checked.prog.varsNamed 4)=true:=by kernel_rfl
theorem L7:joinedFacts Tryz.pinned.checked.prog 4 Tryz.f4 Rows.storeReadsSpec Rows.storeReadsRow=true:=by
 unfold joinedFacts;rw [Ns,Kv,Dm,Ik];kernel_rfl
end Go.Proofs.YtgnkmjeoaoongaaGreatDoor
