/-
  Texts laid together: WRdRaw, WTakes, WOpen, WScan.
-/
import Derived.Test.YtgnkmjeoaoongaaGreatDoorSc1
import Derived.Test.YtgnkmjeoaoongaaGreatDoorSb2
import Derived.Test.YtgnkmjeoaoongaaGreatDoorSa5
import Derived.Deep.CutBlock
import Derived.Test.YtgnkmjeoaoongaaGreatDoorSb8
import Derived.Test.YtgnkmjeoaoongaaGreatDoorSb7
import Derived.Test.YtgnkmjeoaoongaaGreatDoorSb9
namespace Go.Proofs.YtgnkmjeoaoongaaGreatDoor
open Go.RowKit Go.Mer
theorem own_set {w0 : World} {a : Option Addr} {c n b : Nat} {xs : List Value} {u : Value} (h : Mer.Own w0 5 1 (.slice a n c) n xs) (hf : ∀ g, (Value.slice a n c).ownBlock = some g → g ≠ b) : Mer.Own (w0.setCell ⟨b, 0, none⟩ u) 5 1 (.slice a n c) n xs :=
 h.keep ((Kp.refl (fun j => j = b) w0).setCell (p := ⟨b, 0, none⟩) (.inl rfl) u) fun g hg hb => hf g hg hb
end Go.Proofs.YtgnkmjeoaoongaaGreatDoor
namespace Go.Proofs.YtgnkmjeoaoongaaGreatDoor
open Go.RowKit Go.Mer
theorem ReP.kp {w w' : World} {b : Nat} {l : List UInt8} {bad : Bool} (h : ReP w b l bad w') : Kp No w w' := by
 obtain ⟨_, _, _, _, _, _, _, hk⟩ := h
 exact hk
end Go.Proofs.YtgnkmjeoaoongaaGreatDoor
namespace Go.Proofs.YtgnkmjeoaoongaaGreatDoor
open Go.RowKit Go.Mer
structure OpM (w wx : World) (d l b0 : Nat) (P : ByteArray) (F Fx Gx : Nat → Prop) (s' : DSt) (st' : LSt) : Prop where
 at_ : WAt wx d l P s' st' Fx Gx
 foot : Foot F Fx w
 new : ∀ k, Gx k → b0 + 1 < k
 kp : Kp F w wx
 ptr : wx.cell? ⟨b0, 0, none⟩ = some (.pointer (some ⟨l, 0, none⟩))
 ptrf : wx.frozen? ⟨b0, 0, none⟩ = false
 err : wx.cell? ⟨b0 + 1, 0, none⟩ = some (.int .i64 0)
 errf : wx.frozen? ⟨b0 + 1, 0, none⟩ = false
 b0w : b0 = w.heap.size
 ll : b0 + 1 < l
 size : b0 + 1 < wx.heap.size
theorem OpM.no {w wx wy : World} {d l b0 : Nat} {P : ByteArray} {F Fx Gx : Nat → Prop} {s' : DSt} {st' : LSt} (h : OpM w wx d l b0 P F Fx Gx s' st') (hk : Kp No wx wy) : OpM w wy d l b0 P F Fx Gx s' st' :=
 ⟨h.at_.no hk, h.foot, h.new, h.kp.trans_no hk, (hk.cell (p := ⟨b0, 0, none⟩) (by have := h.size; show b0 < _; omega) (fun x => x)).trans h.ptr, (hk.frozen (p := ⟨b0, 0, none⟩) (by have := h.size; show b0 < _; omega) (fun x => x)).trans h.ptrf,
  (hk.cell (p := ⟨b0 + 1, 0, none⟩) h.size (fun x => x)).trans h.err, (hk.frozen (p := ⟨b0 + 1, 0, none⟩) h.size (fun x => x)).trans h.errf, h.b0w, h.ll, hk.lt h.size⟩
end Go.Proofs.YtgnkmjeoaoongaaGreatDoor
namespace Go.Proofs.YtgnkmjeoaoongaaGreatDoor
open Go.RowKit Go.Mer
def RowsP (w wr : World) (a : Option Addr) (n c : Nat) (D : List (List UInt8)) : Prop :=
 ∃ Q : List Row, RowRel 42 1 rowC w wr (.slice a n c) n Q ∧ (∀ q ∈ Q, EntOk wr q ∧ ∀ g, q.val.ownBlock = some g → w.heap.size ≤ g) ∧ Q.map Row.data = D
theorem RowsP.keep {w wr W : World} {a : Option Addr} {n c : Nat} {D : List (List UInt8)} (h : RowsP w wr a n c D) (hk : Kp No wr W) : RowsP w W a n c D := by
 obtain ⟨Q, h1, h2, h3⟩ := h
 exact ⟨Q, h1.keep hk, fun q hq => ⟨(h2 q hq).1.keep hk fun _ _ x => x, (h2 q hq).2⟩, h3⟩
theorem RowsP.nil (w : World) : RowsP w w none 0 0 [] := ⟨[], RowRel.nil _ _ _ w, fun _ h => (by cases h), rfl⟩
theorem RowsP.len {w wr : World} {a : Option Addr} {n c : Nat} {D : List (List UInt8)} (h : RowsP w wr a n c D) : n = D.length := by
 obtain ⟨Q, h1, _, h3⟩ := h
 rw [h1.1, ← h3, List.length_map]
theorem RowsP.kp {w wr : World} {a : Option Addr} {n c : Nat} {D : List (List UInt8)} (h : RowsP w wr a n c D) : Kp No w wr := by
 obtain ⟨Q, h1, _, h3⟩ := h
 exact h1.2.2.2
theorem RowsP.app {w wr : World} {a : Option Addr} {n c : Nat} {D : List (List UInt8)} (h : RowsP w wr a n c D) (hn : n ≤ 1100000000) {ra : Option Addr} {rc : Nat} {p : List UInt8} (hr : Own wr 5 1 (.slice ra p.length rc) p.length (u8s p)) (hf : ∀ g, (Value.slice ra p.length rc).ownBlock = some g → w.heap.size ≤ g) (hp : p.length ≤ 1000000000) :
  ∃ a' c' W', (Builtin.append_ #[187, 187] 187 #[.slice a n c, .slice (some ⟨wr.heap.size, 0, none⟩) 1 1]).run Tryz.prog (wr.alloc (.cells #[.slice ra p.length rc] 42)) = .ok (.slice a' (n + 1) c') W' ∧ RowsP w W' a' (n + 1) c' (D ++ [p]) ∧ Kp (fun k => (Value.slice a n c).ownBlock = some k) wr W' := by
 obtain ⟨Q, h1, h2, h3⟩ := h
 have hk : Kp No wr (wr.alloc (.cells #[.slice ra p.length rc] 42)) := (Kp.refl _ _).alloc _
 have hrc : p.length ≤ rc := by
  obtain ⟨_, a', cap, hv, h1', _⟩ := hr
  injection hv with _ _ e
  omega
 obtain ⟨a', c', W', hrun, ho, hkp⟩ := RowRel.app (P := Tryz.prog) (T := 187) Tryz.underlying187 infoRowB rowC_one (h1.keep hk) [⟨ra, rc, p⟩] (one_src (f := rowC) rowC_len (x := ⟨ra, rc, p⟩) (heap_alloc_new wr _) rfl) rfl (by simp only [maxLen]; omega) (by omega)
 have hall : Kp (fun k => (Value.slice a n c).ownBlock = some k) wr W' := (Kp.of_no hk).trans_same hkp
 have hty : ∀ k, (Value.slice a n c).ownBlock = some k → ∃ cur, wr.heap[k]? = some (.cells cur 42 (0, 0)) := fun k hk' => h1.2.1.type k hk'
 have hrow : ∀ q : Row, EntOk wr q → EntOk W' q := fun q hq => hq.keep hall fun g hg hs => by
  obtain ⟨cur, hc⟩ := hq.1.type g hg
  obtain ⟨cur', hc'⟩ := hty g hs
  exact ne_of_type hc hc' (by decide) rfl
 refine ⟨a', c', W', hrun, ⟨Q ++ [⟨ra, rc, p⟩], ho, fun q hq => ?_, by rw [List.map_append, h3]; rfl⟩, hall⟩
 rcases List.mem_append.1 hq with hq | hq
 ·exact ⟨hrow q (h2 q hq).1, (h2 q hq).2⟩
 ·rw [List.mem_singleton] at hq
  subst hq
  exact ⟨hrow _ ⟨hr, hrc, hp⟩, hf⟩
end Go.Proofs.YtgnkmjeoaoongaaGreatDoor

