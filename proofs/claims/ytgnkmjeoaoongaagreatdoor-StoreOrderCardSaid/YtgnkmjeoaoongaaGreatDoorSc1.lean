/-
  Texts laid together: RWrite, XAppend, WTkI, WRdNum.
-/
import Derived.Test.YtgnkmjeoaoongaaGreatDoorSb5
import Derived.Deep.CutRange
import Derived.Test.YtgnkmjeoaoongaaGreatDoorSc0
import Derived.Test.YtgnkmjeoaoongaaGreatDoorSb9
import Derived.Test.YtgnkmjeoaoongaaGreatDoorSb7
namespace Go.Mer
open Go Go.RowKit
theorem Rd.keep_at {S : Nat → Prop} {w w' : World} {B : Nat} {a : Option Addr} {xs : List Value} (h : Rd w B a xs) (hk : Kp S w w') (hS : 0 < xs.length → ∀ k o, a = some ⟨k, o, none⟩ → ¬ S k) : Rd w' w'.heap.size a xs := fun hx => by
 obtain ⟨g, off, rfl, hg, hB, hc⟩ := h hx
 have hgl : g < w.heap.size := by omega
 refine ⟨g, off, rfl, hk.lt hgl, Nat.le_refl _, fun j u hu => ?_⟩
 exact (hk.cell (p := ⟨g, off + j, none⟩) hgl (hS hx g off rfl)).trans (hc j u hu)
end Go.Mer
namespace Go.Proofs.YtgnkmjeoaoongaaGreatDoor
open Go.RowKit Go.Mer
end Go.Proofs.YtgnkmjeoaoongaaGreatDoor
namespace Go.Proofs.YtgnkmjeoaoongaaGreatDoor
open Go.RowKit Go.Mer
theorem SaidX.kp {w a : World} {d l : Nat} {P : ByteArray} {F G : Nat → Prop} {s' : DSt} {st' : LSt} (h : SaidX w d l P F G s' st' a) : Kp (Both F G) w a := by
 obtain ⟨_, _, _, _, _, h⟩ := h
 exact h
end Go.Proofs.YtgnkmjeoaoongaaGreatDoor
namespace Go.Proofs.YtgnkmjeoaoongaaGreatDoor
open Go.RowKit Go.Mer
end Go.Proofs.YtgnkmjeoaoongaaGreatDoor
namespace Go.Proofs.YtgnkmjeoaoongaaGreatDoor
open Go.RowKit Go.Mer
end Go.Proofs.YtgnkmjeoaoongaaGreatDoor

