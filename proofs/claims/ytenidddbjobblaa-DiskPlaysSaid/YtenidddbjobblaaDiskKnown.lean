/-
  disk's law: 'known', which plays a script of which the end is known, answers true.
-/
import Derived.Test.YtenidddbjobblaaDiskCrash
import Derived.Test.YtenidddbjobblaaDiskSame
import Derived.Lib.SlBytesConst
namespace Go.Proofs.Ytenidddbjobblaa
open Go.RowKit Go.Mer

/-- A disk that was laid behind w, in W. -/
structure Mine (w W : World) (d : Nat) (s : DSt) (F : Nat → Prop) : Prop where
  kp : Kp No w W
  disk : DiskAt W d s F
  new : ∀ k, F k → w.heap.size ≤ k
section
variable {w W W' : World} {d : Nat} {s s' : DSt} {F : Nat → Prop} {r : Int × DSt} {e : Ending} {c : Int}
theorem Mine.no (h : Mine w W d s F) (hk : Kp No W W') : Mine w W' d s F := ⟨h.kp.trans_same hk, h.disk.keep_no hk, h.new⟩
theorem Mine.turn (h : Mine w W d s F) (hk : Kp F W W') (hD : DiskAt W' d s' F) : Mine w W' d s' F := ⟨h.kp.trans hk fun i hi hf => by have := h.new i hf; omega, hD, h.new⟩
theorem Mine.step (h : Mine w W d s F) (h' : Said5 W d F r e W') (hr : r = (c, s')) : e = .returned (.int .i64 c) ∧ ∃ F', Mine w W' d s' F' ∧ Foot F F' W ∧ Kp F W W' := by
  subst hr
  obtain ⟨he, F', hD, hF, hK⟩ := h'
  exact ⟨he, F', ⟨h.kp.trans hK fun i hi hf => by have := h.new i hf; omega, hD, fun k hk => (hF k hk).elim (h.new k) fun hs => Nat.le_trans h.kp.size hs⟩, hF, hK⟩
end

/-- A constant's bytes. -/
theorem Rd.const (W : World) (t : TypeId) (f : Nat × Nat) (C : Array Value) (xs : List Value) (hx : C.toList = xs) : Rd (W.alloc (.cells C t f)) (W.alloc (.cells C t f)).heap.size (some ⟨W.heap.size, 0, none⟩) xs := fun _ =>
  ⟨W.heap.size, 0, rfl, by simp, Nat.le_refl _, fun j u hu => by
    rw [cell_of_row _ _ _ _ _ _ (heap_alloc_new W _)]
    subst hx
    simpa using hu⟩

/-- What Read hands back, where it is known. -/
theorem ReadPost.out {w w' : World} {d : Nat} {s : DSt} {F : Nat → Prop} {name : ByteArray} {e : Ending} (h : ReadPost w d s F name e w') {p : List UInt8} {c : Int} (hr : rdS s.files name = (p, c)) :
    ∃ a cap, e = .returned (.tuple #[.slice a p.length cap, .int .i64 c]) ∧ Own w' 5 1 (.slice a p.length cap) p.length (u8s p) ∧ Kp No w w' ∧ ∀ g, (Value.slice a p.length cap).ownBlock = some g → w.heap.size ≤ g := by
  obtain ⟨v, rfl, hO, hK, hg, _⟩ := h
  rw [hr] at hO ⊢
  obtain ⟨a, cap, rfl, _⟩ := hO.rd
  exact ⟨a, cap, rfl, hO, hK, hg⟩

set_option maxRecDepth 100000 in
set_option maxHeartbeats 1000000 in
theorem known_any (w : World) : Calls Try.prog 9 #[] w fun e w' => e = .returned (.bool true) ∧ Kp No w w' := by
  have kc := fun (w : World) (C : Array Value) (n c : Nat) => Lib.run_convert_bytes_const (P := Try.prog) w 23 5 C n c Try.underlying23 Try.underlying5
  go_enter Try.func9, Try.ntmps9
  go_wp2_with fail
  refine (new_any 100 w (by omega)).mono ?_
  rintro e W1 ⟨rfl, hk1, F1, hD1, hF1⟩
  have M1 : Mine w W1 (w.heap.size + 1) ⟨100, none, []⟩ F1 := ⟨hk1, hD1, hF1⟩
  clear hk1 hD1 hF1
  go_wp2_with fail
  obtain ⟨W2, hW2⟩ : ∃ W, W = W1.alloc (.cells #[.int .u8 49, .int .u8 50, .int .u8 51, .int .u8 52, .int .u8 53] 5 (5, 5 + 1)) := ⟨_, rfl⟩
  have K2 : Kp No W1 W2 := by rw [hW2]; exact (Kp.refl _ _).alloc _
  have R2 : Rd W2 W2.heap.size (some ⟨W1.heap.size, 0, none⟩) (u8s [49, 50, 51, 52, 53]) := by rw [hW2]; exact Rd.const _ _ _ _ _ rfl
  have M2 := M1.no K2
  have H2 := Write_any W2 _ _ F1 M2.disk ⟨#[97]⟩ (some ⟨W1.heap.size, 0, none⟩) 5 [49, 50, 51, 52, 53] R2 (by decide)
  have HH2 := Lib.hid H2
  rw [← hW2]
  clear H2 hW2
  refine (HH2.out).mono ?_
  intro e W3 h
  obtain ⟨rfl, F3, M3, _, _⟩ := M2.step (c := 0) (s' := ⟨100, none, [(⟨#[97]⟩, ⟨[49, 50, 51, 52, 53], 0⟩)]⟩) h rfl
  clear h HH2 M2 M1 R2 K2
  go_wp2_with fail
  have H3 := Lib.hid (Sync_any W3 _ _ F3 M3.disk ⟨#[97]⟩)
  refine (H3.out).mono ?_
  intro e W4 h
  obtain ⟨rfl, F4, M4, _, _⟩ := M3.step (c := 0) (s' := ⟨100, none, [(⟨#[97]⟩, ⟨[49, 50, 51, 52, 53], 5⟩)]⟩) h rfl
  clear h H3 M3
  go_wp2_with fail
  obtain ⟨W5, hW5⟩ : ∃ W, W = W4.alloc (.cells #[.int .u8 54, .int .u8 55, .int .u8 56] 5 (3, 3 + 1)) := ⟨_, rfl⟩
  have K5 : Kp No W4 W5 := by rw [hW5]; exact (Kp.refl _ _).alloc _
  have R5 : Rd W5 W5.heap.size (some ⟨W4.heap.size, 0, none⟩) (u8s [54, 55, 56]) := by rw [hW5]; exact Rd.const _ _ _ _ _ rfl
  have M5 := M4.no K5
  have H5 := Write_any W5 _ _ F4 M5.disk ⟨#[97]⟩ (some ⟨W4.heap.size, 0, none⟩) 3 [54, 55, 56] R5 (by decide)
  have HH5 := Lib.hid H5
  rw [← hW5]
  clear H5 hW5
  refine (HH5.out).mono ?_
  intro e W6 h
  obtain ⟨rfl, F6, M6, _, _⟩ := M5.step (c := 0) (s' := ⟨100, none, [(⟨#[97]⟩, ⟨[49, 50, 51, 52, 53, 54, 55, 56], 5⟩)]⟩) h rfl
  clear h HH5 M5 M4 R5 K5
  go_wp2_with fail
  have H6 := Lib.hid (Crash_any W6 _ _ F6 M6.disk 1 (by decide) (by decide) 1)
  refine (H6.out).mono ?_
  rintro e W7 ⟨rfl, hD7, hK7⟩
  have M7 := M6.turn hK7 (s' := ⟨100, none, [(⟨#[97]⟩, ⟨[49, 50, 51, 52, 53, 55], 6⟩)]⟩) hD7
  clear hD7 hK7 H6 M6
  go_wp2_with fail
  have H7 := Lib.hid (Read_any W7 _ _ F6 M7.disk ⟨#[97]⟩)
  refine (H7.out).mono ?_
  intro e W8 h
  obtain ⟨a8, c8, rfl, hO, hK, _⟩ := h.out (p := [49, 50, 51, 52, 53, 55]) (c := 0) rfl
  have K8 := M7.kp.trans_same hK
  have R8 := hO.rd'
  clear h H7 hK M7 hO
  go_wp2_with fail
  obtain ⟨W9, hW9⟩ : ∃ W, W = W8.alloc (.cells #[.int .u8 49, .int .u8 50, .int .u8 51, .int .u8 52, .int .u8 53, .int .u8 55] 5 (6, 6 + 1)) := ⟨_, rfl⟩
  have K9 : Kp No W8 W9 := by rw [hW9]; exact (Kp.refl _ _).alloc _
  have R9 : Rd W9 W9.heap.size (some ⟨W8.heap.size, 0, none⟩) (u8s [49, 50, 51, 52, 53, 55]) := by rw [hW9]; exact Rd.const _ _ _ _ _ rfl
  have R8' := R8.keep K9 fun _ _ x => x
  rw [← hW9]
  clear hW9 R8
  have H9 := Lib.hid (same_any a8 (some ⟨W8.heap.size, 0, none⟩) c8 6 _ _ [49, 50, 51, 52, 53, 55] [49, 50, 51, 52, 53, 55] W9 R8' R9 (by decide))
  clear R8' R9
  refine (H9.out).mono ?_
  rintro e W10 ⟨rfl, n, rfl⟩
  rw [show decide ([49, 50, 51, 52, 53, 55] = ([49, 50, 51, 52, 53, 55] : List UInt8)) = true from rfl]
  clear H9
  go_wp2_with fail
  go_ret
  exact ⟨rfl, (K8.trans_same K9).drewN n⟩
end Go.Proofs.Ytenidddbjobblaa
