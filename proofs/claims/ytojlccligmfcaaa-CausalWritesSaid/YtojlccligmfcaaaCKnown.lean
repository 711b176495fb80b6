/-
  What the laws ask once: a value that was not found.
-/
import Derived.Test.YtojlccligmfcaaaCCheck
import Derived.Lib.SlBytesConst
namespace Go.Proofs.Ytojlccligmfcaaa
open Go.RowKit Go.Mer

def kx1 (a : Option Addr) : EvR := ⟨0, ⟨1, 0, 0, 0, 0, 0, 0, ⟨#[107]⟩, ⟨#[]⟩, a, 1, [97]⟩, ⟨0, 0, 5, 0, false, none, 0, [], none, 0, []⟩⟩
def kx2 : EvR := ⟨0, ⟨3, 0, 0, 0, 0, 0, 0, ⟨#[]⟩, ⟨#[]⟩, none, 0, []⟩, ⟨0, 0, 6, 0, false, none, 0, [], none, 0, []⟩⟩
def kx3 (f : Bool) (a : Option Addr) (c : Nat) (l : List UInt8) : EvR := ⟨0, ⟨4, 0, 0, 0, 0, 0, 0, ⟨#[107]⟩, ⟨#[]⟩, none, 0, []⟩, ⟨0, 0, 0, 0, f, a, c, l, none, 0, []⟩⟩
theorem kck1 (a : Option Addr) : checkF [kx1 a, kx2, kx3 false none 0 []] = (2, true) := by kernel_rfl
theorem kck2 (a b : Option Addr) : checkF [kx1 a, kx2, kx3 true b 1 [97]] = (0, false) := by kernel_rfl
theorem kwr (a b : Option Addr) : ([kx1 a, kx2, kx3 true b 1 [97]].filterMap wrF).length = 1 := by kernel_rfl
theorem kli (a b : Option Addr) (f : Bool) (c : Nat) (l : List UInt8) (hl : l.length ≤ 8000) : ∀ x ∈ [kx1 a, kx2, kx3 f b c l], x.Li := by
  intro x hx
  simp only [List.mem_cons, List.not_mem_nil, or_false] at hx
  rcases hx with rfl | rfl | rfl
  · exact ⟨by show 1 ≤ 8000; decide, by show 0 ≤ 8000; decide, by show 1 ≤ 8000; decide, by show 0 ≤ 8000; decide, by show 0 ≤ 8000; decide, by intro p hp; cases hp⟩
  · exact ⟨by decide, by decide, by decide, by decide, by decide, by intro p hp; cases hp⟩
  · exact ⟨by show 1 ≤ 8000; decide, by show 0 ≤ 8000; decide, by show 0 ≤ 8000; decide, hl, by show 0 ≤ 8000; decide, by intro p hp; cases hp⟩
theorem kat {W : World} {a b : Option Addr} {f : Bool} {c : Nat} {l : List UInt8} (h1 : Rd W W.heap.size a (u8s [97])) (h2 : Rd W W.heap.size b (u8s l)) {g : Nat} {cs : Array Value} {t : TypeId} (hg : W.heap[g]? = some (.cells cs t (0, 0))) (hc : cs.toList = [kx1 a, kx2, kx3 f b c l].flatMap EvR.cells) :
    EvsAt W (some ⟨g, 0, none⟩) [kx1 a, kx2, kx3 f b c l] := by
  refine ⟨Rd.row (n := 54) hg ?_ (get_lt hg) (Nat.le_refl _), fun x hx => ?_⟩
  · rw [List.drop_zero, hc]
    exact List.take_of_length_le (by simp [EvR.cells, StepR.cells, AnsR.cells])
  · have i0 : I64 0 := ⟨by decide, by decide⟩
    have i1 : I64 1 := ⟨by decide, by decide⟩
    have i3 : I64 3 := ⟨by decide, by decide⟩
    have i4 : I64 4 := ⟨by decide, by decide⟩
    have i5 : I64 5 := ⟨by decide, by decide⟩
    have i6 : I64 6 := ⟨by decide, by decide⟩
    simp only [List.mem_cons, List.not_mem_nil, or_false] at hx
    rcases hx with rfl | rfl | rfl
    · exact ⟨i0, ⟨⟨i1, i0, i0, i0, i0, i0⟩, h1⟩, ⟨⟨i0, i0, i5, i0⟩, Rd.nil _ _ _, Rd.nil _ _ _, fun p hp => by cases hp⟩⟩
    · exact ⟨i0, ⟨⟨i3, i0, i0, i0, i0, i0⟩, Rd.nil _ _ _⟩, ⟨⟨i0, i0, i6, i0⟩, Rd.nil _ _ _, Rd.nil _ _ _, fun p hp => by cases hp⟩⟩
    · exact ⟨i0, ⟨⟨i4, i0, i0, i0, i0, i0⟩, Rd.nil _ _ _⟩, ⟨⟨i0, i0, i0, i0⟩, h2, Rd.nil _ _ _, fun p hp => by cases hp⟩⟩
theorem Rd.const1 {W : World} {g : Nat} {t : TypeId} {f : Nat × Nat} (h : W.heap[g]? = some (.cells #[.int .u8 97] t f)) : Rd W W.heap.size (some ⟨g, 0, none⟩) (u8s [97]) := fun _ =>
  ⟨g, 0, rfl, get_lt h, Nat.le_refl _, fun j u hu => by
    rw [cell_of_row _ _ _ _ _ _ h, Nat.zero_add]
    rw [← hu]
    simp [u8s, u8]⟩
set_option maxRecDepth 100000 in
set_option maxHeartbeats 1000000 in
theorem known_any (w : World) : Calls Try.prog 11 #[] w fun e w' => e = .returned (.bool true) ∧ Kp No w w' := by
  have kc := fun (w : World) (C : Array Value) (n c : Nat) => Lib.run_convert_bytes_const (P := Try.prog) w 33 5 C n c Try.underlying33 Try.underlying5
  obtain ⟨W1, hW1⟩ : ∃ W, W = (w.alloc (.cells #[.int .u8 97] 5 (1, 2))).alloc (.cells ([kx1 (some ⟨w.heap.size, 0, none⟩), kx2, kx3 false none 0 []].flatMap EvR.cells).toArray 47) := ⟨_, rfl⟩
  have k1 : Kp No w W1 := by rw [hW1]; exact ((Kp.refl _ _).alloc _).alloc _
  have b0 : W1.heap[w.heap.size]? = some (.cells #[.int .u8 97] 5 (1, 2)) := by rw [hW1]; exact alloc_far (heap_alloc_new w _) _
  have b1 : W1.heap[w.heap.size + 1]? = some (.cells ([kx1 (some ⟨w.heap.size, 0, none⟩), kx2, kx3 false none 0 []].flatMap EvR.cells).toArray 47 (0, 0)) := by rw [hW1]; exact (congrArg (fun k => ((w.alloc _).alloc _).heap[k]?) (by simp)).trans (heap_alloc_new (w.alloc _) _)
  have hcc := Check_any W1 (some ⟨w.heap.size + 1, 0, none⟩) 3 _ (kat (Rd.const1 b0) (Rd.nil _ _ _) b1 rfl) (by simp) (kli _ _ _ _ _ (by simp))
  rw [kck1] at hcc
  have HCC := Lib.hid hcc
  have HB0 := Lib.hid b0
  have HB1 := Lib.hid b1
  have HK1 := Lib.hid k1
  rw [hW1] at HCC
  have HW1 := Lib.hid hW1
  clear hcc b0 b1 k1 hW1
  go_enter Try.func11, Try.ntmps11
  go_wp2_with fail
  refine HCC.out.mono ?_
  rw [← HW1.out]
  rintro e w2 ⟨rfl, hk2⟩
  have B1 := hk2.get HB1.out fun x => x
  obtain ⟨W3, hW3⟩ : ∃ W, W = w2.alloc (.cells #[.int .u8 97] 5 (1, 2)) := ⟨_, rfl⟩
  have k3 : Kp No w2 W3 := by rw [hW3]; exact (Kp.refl _ _).alloc _
  have b3 : W3.heap[w2.heap.size]? = some (.cells #[.int .u8 97] 5 (1, 2)) := by rw [hW3]; exact heap_alloc_new w2 _
  have B3 := k3.get B1 fun x => x
  have HTh := Lib.hid (there_block (o := 47) (n := 7) B3 (by simp [EvR.cells, StepR.cells, AnsR.cells]))
  obtain ⟨cur', b4, _, hl4⟩ := setCells_block (w.heap.size + 1) 47 [.int .i64 0, .int .i64 0, .int .i64 0, .int .i64 0, .bool true, .slice (some ⟨w2.heap.size, 0, none⟩) 1 1, .slice none 0 0] W3 47 _ B3 (by simp [EvR.cells, StepR.cells, AnsR.cells])
  obtain ⟨W4, hW4⟩ : ∃ W, W = W3.setCells (w.heap.size + 1) 47 [.int .i64 0, .int .i64 0, .int .i64 0, .int .i64 0, .bool true, .slice (some ⟨w2.heap.size, 0, none⟩) 1 1, .slice none 0 0] := ⟨_, rfl⟩
  have k34 : Kp (One (w.heap.size + 1)) W3 W4 := by rw [hW4]; exact Kp.setCells _ _ _ _
  have k04 : Kp No w W4 := (HK1.out.trans_same (hk2.trans_same k3)).trans k34 (fun i hi hs => by
    have hs : i = w.heap.size + 1 := hs
    omega)
  rw [← hW4] at b4
  have c0 := k34.get (k3.get (hk2.get HB0.out fun x => x) fun x => x) (fun hs => by have hs : w.heap.size = w.heap.size + 1 := hs; omega)
  have hsz : w.heap.size + 1 < w2.heap.size := get_lt B1
  have c1 := k34.get b3 (fun hs => by have hs : w2.heap.size = w.heap.size + 1 := hs; omega)
  have hev := kat (f := true) (c := 1) (Rd.const1 c0) (Rd.const1 c1) b4 (by rw [hl4]; rfl)
  have hcc := Check_any W4 (some ⟨w.heap.size + 1, 0, none⟩) 3 _ hev (by simp) (kli _ _ _ _ _ (by simp))
  rw [kck2] at hcc
  have HEV := Lib.hid hev
  have HCC2 := Lib.hid hcc
  have HK4 := Lib.hid k04
  rw [hW4, hW3] at HCC2
  rw [hW3] at HTh hW4
  have HW4 := Lib.hid hW4
  clear hcc hev hW4 c0 c1 b4 k34 k04 B3 b3 k3 hW3 hl4 B1 hk2
  go_upto_region 3 with fail
  go_upto_region 4 with (refine wpList_store_m rfl 45 _ _ rfl (w.heap.size + 1) 47 _ rfl rfl HTh (by kernel_rfl) (by rfl) ?_)
  go_wp2_with fail
  refine HCC2.out.mono ?_
  rw [← HW4.out]
  rintro e w5 ⟨rfl, hk5⟩
  have hwr := Writes_any w5 (some ⟨w.heap.size + 1, 0, none⟩) 3 _ (HEV.out.keep hk5) (by simp) (fun x hx => by have := (kli _ _ _ _ _ (by simp) x hx).val; omega)
  have HWR := Lib.hid hwr
  have HK5 := Lib.hid (HK4.out.trans_same hk5)
  clear hwr hk5
  go_wp2_with fail
  refine HWR.out.mono ?_
  rintro e w6 ⟨b, wc, R, rfl, hR, _, hk6⟩
  have hl : R.length = 1 := by
    have h1 := congrArg List.length hR
    rw [List.length_map, kwr] at h1
    exact h1
  have HK6 := Lib.hid (HK5.out.trans_same hk6)
  clear hR hk6
  go_wp2_with fail
  go_ret
  exact ⟨rfl, HK6.out⟩
end Go.Proofs.Ytojlccligmfcaaa
