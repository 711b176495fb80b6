/-
  Texts laid together: SWr2, SRecA, SRecB, SRecC.
-/
import Derived.Test.YtgnkmjeoaoongaaGreatDoorSc5
import Derived.Laws.IdiomStrings
import Derived.Test.YtgnkmjeoaoongaaGreatDoorSa0
import Derived.Test.YtgnkmjeoaoongaaGreatDoorSa3
namespace Go.Proofs.YtgnkmjeoaoongaaGreatDoor
open Go.RowKit Go.Mer
theorem rd_wrs {w1 W : World} {b : Nat} {v v' : Value} {a : Option Addr} {xs : List Value} (hr : Rd w1 w1.heap.size a xs) (hne : ∀ g o, 0 < xs.length → a = some ⟨g, o, none⟩ → g ≠ b ∧ v.ownBlock ≠ some g) (hS : WrS w1 b v W v') : Rd W W.heap.size a xs := fun hx => by
 obtain ⟨g, off, ha, hg, _, hc⟩ := hr hx
 obtain ⟨n1, n2⟩ := hne g off hx ha
 refine ⟨g, off, ha, hS.1.lt hg, Nat.le_refl _, fun j u hu => ?_⟩
 rw [hS.1.cell (p := ⟨g, off + j, none⟩) hg (fun h => h.elim n1 n2)]
 exact hc j u hu
theorem WrI.old {w0 w1 : World} {b : Nat} {v : Value} {l : List UInt8} (h : WrI w0 b v l w1) {g : Nat} (hg : g < w0.heap.size) : g ≠ b ∧ v.ownBlock ≠ some g :=
 ⟨fun e => by have := h.lo; omega, fun e => by have := h.new g e; omega⟩
theorem str_bytes (k : ByteArray) (w : World) : ∃ c W, (convert 9 42 (.string k)).run Tryz.prog w = .ok (.slice (some ⟨w.heap.size, 0, none⟩) k.size c) W ∧ Kp No w W ∧ W.heap.size = w.heap.size + 1 ∧ Rd W W.heap.size (some ⟨w.heap.size, 0, none⟩) (u8s k.data.toList) ∧
  ∃ row m, W.heap[w.heap.size]? = some (.cells row 5 (m, m + 1)) := by
 have h := run_bytes_of_string (P := Tryz.prog) w 9 42 5 k Tryz.underlying9 Tryz.underlying42 Tryz.underlying5
 have hnew := heap_alloc_new w.drew (.cells (bytesRow k (grownCap w k.size 0 5)) 5 ((bytesRow k (grownCap w k.size 0 5)).size, (bytesRow k (grownCap w k.size 0 5)).size + 1))
 refine ⟨_, _, h, ((Kp.refl _ _).drew).alloc _, by simp, fun hx => ⟨w.heap.size, 0, rfl, by simp, Nat.le_refl _, fun j u hu => ?_⟩, _, _, hnew⟩
 have hj : j < k.data.size := by
  have := (List.getElem?_eq_some_iff.1 hu).1
  rwa [u8s_length, Array.length_toList] at this
 have hb := bytesRow_at k (grownCap w k.size 0 5) j hj
 have hc : (w.drew.alloc (.cells (bytesRow k (grownCap w k.size 0 5)) 5 ((bytesRow k (grownCap w k.size 0 5)).size, (bytesRow k (grownCap w k.size 0 5)).size + 1))).cell? ⟨w.heap.size, 0 + j, none⟩ = (bytesRow k (grownCap w k.size 0 5))[0 + j]? := cell_of_row _ _ _ _ _ _ hnew
 rw [hc, Nat.zero_add, hb, ← hu, u8s_get?, Array.getElem?_toList, Array.getElem?_eq_getElem hj]
 rfl
set_option maxRecDepth 100000 in
set_option maxHeartbeats 1000000 in
theorem Raw_wr (w0 w1 : World) (b : Nat) (v : Value) (l : List UInt8) (h : WrI w0 b v l w1) (a : Option Addr) (c : Nat) (p : List UInt8) (hp : Rd w1 w1.heap.size a (u8s p)) (hl : l.length + p.length ≤ 1000000000) :
  Calls Tryz.prog 59 #[.pointer (some ⟨b, 0, none⟩), .slice a p.length c] w1 fun e w' => e = .returned (.tuple #[]) ∧ ∃ v', WrI w0 b v' (l ++ p) w' ∧ WrS w1 b v w' v' := by
 obtain ⟨a', c', W', hrun, hbW, hI, hS⟩ := h.app a c p hp (by omega)
 have c0 := cell_at h.cell 0
 simp at c0
 have hbl := get_lt h.cell
 have cw : W'.cell? ⟨b, 0, none⟩ = some v := cell_at hbW 0
 have fw := free_at hbW 0
 have hbWl := get_lt hbW
 obtain ⟨n, hn⟩ : ∃ n, n = p.length := ⟨_, rfl⟩
 obtain ⟨ln, hln⟩ : ∃ ln, ln = (l ++ p).length := ⟨_, rfl⟩
 rw [← hln] at hrun hI hS
 rw [← hn] at hrun ⊢
 have HX := Lib.hid hrun
 have HI := Lib.hid (And.intro hI hS)
 clear hrun hI hS hbW h hp hl hn hln
 go_enter Tryz.func59, Tryz.ntmps59
 go_wp2_with (at_builtin; refine wpList_append_run rfl rfl rfl rfl HX.out ?_)
 refine bodyPost_end (results_none rfl _ _ _) rfl ⟨rfl, _, HI.out⟩
def BytJ (w0 w1 : World) (b : Nat) (v : Value) (l p : List UInt8) : Nat → World → Prop
 | 0, wr => wr = w1
 | _ + 1, wr => ∃ v', WrI w0 b v' (l ++ bytesL p) wr ∧ WrS w1 b v wr v'
set_option maxRecDepth 100000 in
set_option maxHeartbeats 2000000 in
theorem Bytes_1 (w0 w1 : World) (b : Nat) (v : Value) (l : List UInt8) (h : WrI w0 b v l w1) (a : Option Addr) (cp : Nat) (p : List UInt8) (hp : ∀ W v', WrS w1 b v W v' → Rd W W.heap.size a (u8s p)) (hl : l.length + p.length ≤ 900000000)
  (g c : Nat) (t : TypeId) (hg : w1.heap[g]? = some (.cells #[.slice a p.length cp] t (0, 0))) :
  Calls Tryz.prog 111 #[.pointer (some ⟨b, 0, none⟩), .slice (some ⟨g, 0, none⟩) 1 c] w1 fun e w' => e = .returned (.tuple #[]) ∧ ∃ v', WrI w0 b v' (l ++ bytesL p) w' ∧ WrS w1 b v w' v' := by
 obtain ⟨n, hn⟩ : ∃ n, n = p.length := ⟨_, rfl⟩
 have hnb : n ≤ 900000000 := by omega
 rw [← hn] at hg
 have cg : w1.cell? ⟨g, 0, none⟩ = some (.slice a n cp) := cell_at hg 0
 have hgl := get_lt hg
 have hbl := get_lt h.cell
 have H := Lib.hid h
 have HP := Lib.hid hp
 have HN := Lib.hid hn
 have HL := Lib.hid hl
 clear h hp hn hl hg
 go_enter Tryz.func111, Tryz.ntmps111
 go_wp2_with fail
 go_loopw [8] (fun i wr => ∃ j : Nat, j ≤ 1 ∧ i = .int .i64 (j : Int) ∧ Hid (BytJ w0 w1 b v l p j wr)) (fun i _ => 1 - (intOf i).toNat)
 case atStart => exact ⟨0, by omega, rfl, Lib.hid rfl⟩
 case round =>
  obtain ⟨j, hj, rfl, HJ⟩ := hrel
  rcases (show j = 0 ∨ j = 1 by omega) with rfl | rfl
  ·have hj0 : wr = w1 := HJ.out
   subst hj0
   clear HJ
   obtain ⟨w2, hw2⟩ : ∃ W, W = wr.alloc (.cells #[.int .i64 (n : Int)] 3) := ⟨_, rfl⟩
   have k2 : Kp No wr w2 := by rw [hw2]; exact (Kp.refl _ _).alloc _
   have b2 : w2.heap[wr.heap.size]? = some (.cells ([n].map intC).toArray 3 (0, 0)) := by rw [hw2]; exact heap_alloc_new wr _
   have hnums := Nums_any w0 w2 b v l (H.out.keep k2) wr.heap.size 1 [n] 3 (fun x hx => by rw [List.mem_singleton] at hx; omega) b2 (by decide) (by decide) (by have := HL.out; omega) (by show 1 ≤ 100; decide)
   have HNU := Lib.hid hnums
   have HW2 := Lib.hid hw2
   have HK2 := Lib.hid k2
   clear hnums hw2 k2 b2
   rw [show ((0 : Nat) : Int) = 0 from rfl]
   go_wp2_with fail
   rw [← HW2.out]
   refine HNU.out.mono ?_
   rintro e w3 ⟨rfl, v3, hI3, hS3⟩
   have hS13 : WrS wr b v w3 v3 := WrS.no HK2.out hS3
   have hI3' : WrI w0 b v3 (l ++ numL n) w3 := by simpa using hI3
   have hraw := Raw_wr w0 w3 b v3 (l ++ numL n) hI3' a cp p (HP.out w3 v3 hS13) (by
    have h1 := numL_len62 (n := n) (by omega)
    have h2 := HL.out
    rw [List.length_append]
    omega)
   rw [← HN.out] at hraw
   have HRW := Lib.hid hraw
   have HS13 := Lib.hid hS13
   have hbl3 := get_lt hI3'.cell
   clear hraw hS13 hI3 hI3' hS3 HNU
   go_wp2_with fail
   refine HRW.out.mono ?_
   rintro e w4 ⟨rfl, v4, hI4, hS4⟩
   have HNEW := Lib.hid (show BytJ w0 wr b v l p 1 w4 from ⟨v4, by unfold bytesL; rw [← HN.out, ← List.append_assoc]; exact hI4, HS13.out.trans hS4⟩)
   clear hI4 hS4 HRW
   go_wp2_with fail
   go_roundw
   case rel => exact ⟨1, by omega, rfl, HNEW⟩
   case measure => simp [intOf]
  ·go_wp2_with fail
   exact bodyPost_end (results_none rfl _ _ _) rfl ⟨rfl, HJ.out⟩
end Go.Proofs.YtgnkmjeoaoongaaGreatDoor
namespace Go.Proofs.YtgnkmjeoaoongaaGreatDoor
open Go.RowKit Go.Mer
set_option maxRecDepth 100000 in
set_option maxHeartbeats 2000000 in
theorem rcIs_x0 (r : RecS) (a : Option Addr) (cap : Nat) (w : World) (HB : Hid (isSt r.v.m r.v.c = false)) (HR : Hid (isR r = false)) :
  Calls Tryz.prog 109 #[.agg #[.int .i64 r.o, .int .i64 r.seq, .string r.key, .int .i64 r.v.m, .int .i64 r.v.c, .int .i64 r.v.o, .slice a r.v.val.length cap, .bool r.v.gone, .int .i64 r.v.ttl]] w fun e w' => e = .returned (.bool (isR r)) ∧ Kp No w w' := by
 obtain ⟨z, hz⟩ : ∃ z, z = isR r := ⟨_, rfl⟩
 rw [← hz] at HR ⊢
 clear hz
 go_enter Tryz.func109, Tryz.ntmps109
 go_wp2_with fail
 first | (refine (Pack_no _ _ _ HB.out).mono ?_) | (refine (Pack_any _ _ _ HB.out).mono ?_)
 rintro e w' ⟨rfl, hk⟩
 have hk' : Kp No w w' := ((Kp.refl _ _).alloc _).trans_same hk
 have hc := hk.get (heap_alloc_new w _) fun x => x
 have c0 := cell_at hc 0
 have c1 := cell_at hc 1
 have c2 := cell_at hc 2
 have c5 := cell_at hc 5
 have c6 := cell_at hc 6
 have c7 := cell_at hc 7
 have c8 := cell_at hc 8
 have hlt := get_lt hc
 simp at c0 c1 c2 c5 c6 c7 c8
 clear hc hk
 have hun : ∀ b : Bool, (undef = Value.bool b) = False := fun b => by unfold undef; simp
 go_wp2_with fail
 all_goals
  go_ret
  exact ⟨by rw [HR.out]; rfl, hk'⟩
set_option maxRecDepth 100000 in
set_option maxHeartbeats 2000000 in
theorem rcIs_d1 (r : RecS) (a : Option Addr) (cap : Nat) (w : World) (HB : Hid (isSt r.v.m r.v.c = true)) (d1 : decide (0 ≤ r.o) = false) (HR : Hid (isR r = false)) :
  Calls Tryz.prog 109 #[.agg #[.int .i64 r.o, .int .i64 r.seq, .string r.key, .int .i64 r.v.m, .int .i64 r.v.c, .int .i64 r.v.o, .slice a r.v.val.length cap, .bool r.v.gone, .int .i64 r.v.ttl]] w fun e w' => e = .returned (.bool (isR r)) ∧ Kp No w w' := by
 obtain ⟨z, hz⟩ : ∃ z, z = isR r := ⟨_, rfl⟩
 rw [← hz] at HR ⊢
 clear hz
 go_enter Tryz.func109, Tryz.ntmps109
 go_wp2_with fail
 first | (refine (Pack_no _ _ _ HB.out).mono ?_) | (refine (Pack_any _ _ _ HB.out).mono ?_)
 rintro e w' ⟨rfl, hk⟩
 have hk' : Kp No w w' := ((Kp.refl _ _).alloc _).trans_same hk
 have hc := hk.get (heap_alloc_new w _) fun x => x
 have c0 := cell_at hc 0
 have c1 := cell_at hc 1
 have c2 := cell_at hc 2
 have c5 := cell_at hc 5
 have c6 := cell_at hc 6
 have c7 := cell_at hc 7
 have c8 := cell_at hc 8
 have hlt := get_lt hc
 simp at c0 c1 c2 c5 c6 c7 c8
 clear hc hk
 have hun : ∀ b : Bool, (undef = Value.bool b) = False := fun b => by unfold undef; simp
 go_wp2_with fail
 all_goals
  go_ret
  exact ⟨by rw [HR.out]; rfl, hk'⟩
set_option maxRecDepth 100000 in
set_option maxHeartbeats 2000000 in
theorem rcIs_d2 (r : RecS) (a : Option Addr) (cap : Nat) (w : World) (HB : Hid (isSt r.v.m r.v.c = true)) (d1 : decide (0 ≤ r.o) = true) (d2 : decide (r.o < 5) = false) (HR : Hid (isR r = false)) :
  Calls Tryz.prog 109 #[.agg #[.int .i64 r.o, .int .i64 r.seq, .string r.key, .int .i64 r.v.m, .int .i64 r.v.c, .int .i64 r.v.o, .slice a r.v.val.length cap, .bool r.v.gone, .int .i64 r.v.ttl]] w fun e w' => e = .returned (.bool (isR r)) ∧ Kp No w w' := by
 obtain ⟨z, hz⟩ : ∃ z, z = isR r := ⟨_, rfl⟩
 rw [← hz] at HR ⊢
 clear hz
 go_enter Tryz.func109, Tryz.ntmps109
 go_wp2_with fail
 first | (refine (Pack_no _ _ _ HB.out).mono ?_) | (refine (Pack_any _ _ _ HB.out).mono ?_)
 rintro e w' ⟨rfl, hk⟩
 have hk' : Kp No w w' := ((Kp.refl _ _).alloc _).trans_same hk
 have hc := hk.get (heap_alloc_new w _) fun x => x
 have c0 := cell_at hc 0
 have c1 := cell_at hc 1
 have c2 := cell_at hc 2
 have c5 := cell_at hc 5
 have c6 := cell_at hc 6
 have c7 := cell_at hc 7
 have c8 := cell_at hc 8
 have hlt := get_lt hc
 simp at c0 c1 c2 c5 c6 c7 c8
 clear hc hk
 have hun : ∀ b : Bool, (undef = Value.bool b) = False := fun b => by unfold undef; simp
 go_wp2_with fail
 all_goals
  go_ret
  exact ⟨by rw [HR.out]; rfl, hk'⟩
set_option maxRecDepth 100000 in
set_option maxHeartbeats 2000000 in
theorem rcIs_d3 (r : RecS) (a : Option Addr) (cap : Nat) (w : World) (HB : Hid (isSt r.v.m r.v.c = true)) (d1 : decide (0 ≤ r.o) = true) (d2 : decide (r.o < 5) = true) (d3 : decide (1 ≤ r.seq) = false) (HR : Hid (isR r = false)) :
  Calls Tryz.prog 109 #[.agg #[.int .i64 r.o, .int .i64 r.seq, .string r.key, .int .i64 r.v.m, .int .i64 r.v.c, .int .i64 r.v.o, .slice a r.v.val.length cap, .bool r.v.gone, .int .i64 r.v.ttl]] w fun e w' => e = .returned (.bool (isR r)) ∧ Kp No w w' := by
 obtain ⟨z, hz⟩ : ∃ z, z = isR r := ⟨_, rfl⟩
 rw [← hz] at HR ⊢
 clear hz
 go_enter Tryz.func109, Tryz.ntmps109
 go_wp2_with fail
 first | (refine (Pack_no _ _ _ HB.out).mono ?_) | (refine (Pack_any _ _ _ HB.out).mono ?_)
 rintro e w' ⟨rfl, hk⟩
 have hk' : Kp No w w' := ((Kp.refl _ _).alloc _).trans_same hk
 have hc := hk.get (heap_alloc_new w _) fun x => x
 have c0 := cell_at hc 0
 have c1 := cell_at hc 1
 have c2 := cell_at hc 2
 have c5 := cell_at hc 5
 have c6 := cell_at hc 6
 have c7 := cell_at hc 7
 have c8 := cell_at hc 8
 have hlt := get_lt hc
 simp at c0 c1 c2 c5 c6 c7 c8
 clear hc hk
 have hun : ∀ b : Bool, (undef = Value.bool b) = False := fun b => by unfold undef; simp
 go_wp2_with fail
 all_goals
  go_ret
  exact ⟨by rw [HR.out]; rfl, hk'⟩
set_option maxRecDepth 100000 in
set_option maxHeartbeats 2000000 in
theorem rcIs_d4 (r : RecS) (a : Option Addr) (cap : Nat) (w : World) (HB : Hid (isSt r.v.m r.v.c = true)) (d1 : decide (0 ≤ r.o) = true) (d2 : decide (r.o < 5) = true) (d3 : decide (1 ≤ r.seq) = true) (d4 : decide (r.seq ≤ 1099511627776) = false) (HR : Hid (isR r = false)) :
  Calls Tryz.prog 109 #[.agg #[.int .i64 r.o, .int .i64 r.seq, .string r.key, .int .i64 r.v.m, .int .i64 r.v.c, .int .i64 r.v.o, .slice a r.v.val.length cap, .bool r.v.gone, .int .i64 r.v.ttl]] w fun e w' => e = .returned (.bool (isR r)) ∧ Kp No w w' := by
 obtain ⟨z, hz⟩ : ∃ z, z = isR r := ⟨_, rfl⟩
 rw [← hz] at HR ⊢
 clear hz
 go_enter Tryz.func109, Tryz.ntmps109
 go_wp2_with fail
 first | (refine (Pack_no _ _ _ HB.out).mono ?_) | (refine (Pack_any _ _ _ HB.out).mono ?_)
 rintro e w' ⟨rfl, hk⟩
 have hk' : Kp No w w' := ((Kp.refl _ _).alloc _).trans_same hk
 have hc := hk.get (heap_alloc_new w _) fun x => x
 have c0 := cell_at hc 0
 have c1 := cell_at hc 1
 have c2 := cell_at hc 2
 have c5 := cell_at hc 5
 have c6 := cell_at hc 6
 have c7 := cell_at hc 7
 have c8 := cell_at hc 8
 have hlt := get_lt hc
 simp at c0 c1 c2 c5 c6 c7 c8
 clear hc hk
 have hun : ∀ b : Bool, (undef = Value.bool b) = False := fun b => by unfold undef; simp
 go_wp2_with fail
 all_goals
  go_ret
  exact ⟨by rw [HR.out]; rfl, hk'⟩
end Go.Proofs.YtgnkmjeoaoongaaGreatDoor
namespace Go.Proofs.YtgnkmjeoaoongaaGreatDoor
open Go.RowKit Go.Mer
set_option maxRecDepth 100000 in
set_option maxHeartbeats 2000000 in
theorem rcIs_d5 (r : RecS) (a : Option Addr) (cap : Nat) (w : World) (HB : Hid (isSt r.v.m r.v.c = true)) (d1 : decide (0 ≤ r.o) = true) (d2 : decide (r.o < 5) = true) (d3 : decide (1 ≤ r.seq) = true) (d4 : decide (r.seq ≤ 1099511627776) = true) (d5 : decide (1 ≤ (r.key.size : Int)) = false) (d5' : decide (1 ≤ r.key.size) = false) (HR : Hid (isR r = false)) :
  Calls Tryz.prog 109 #[.agg #[.int .i64 r.o, .int .i64 r.seq, .string r.key, .int .i64 r.v.m, .int .i64 r.v.c, .int .i64 r.v.o, .slice a r.v.val.length cap, .bool r.v.gone, .int .i64 r.v.ttl]] w fun e w' => e = .returned (.bool (isR r)) ∧ Kp No w w' := by
 obtain ⟨z, hz⟩ : ∃ z, z = isR r := ⟨_, rfl⟩
 rw [← hz] at HR ⊢
 clear hz
 go_enter Tryz.func109, Tryz.ntmps109
 go_wp2_with fail
 first | (refine (Pack_no _ _ _ HB.out).mono ?_) | (refine (Pack_any _ _ _ HB.out).mono ?_)
 rintro e w' ⟨rfl, hk⟩
 have hk' : Kp No w w' := ((Kp.refl _ _).alloc _).trans_same hk
 have hc := hk.get (heap_alloc_new w _) fun x => x
 have c0 := cell_at hc 0
 have c1 := cell_at hc 1
 have c2 := cell_at hc 2
 have c5 := cell_at hc 5
 have c6 := cell_at hc 6
 have c7 := cell_at hc 7
 have c8 := cell_at hc 8
 have hlt := get_lt hc
 simp at c0 c1 c2 c5 c6 c7 c8
 clear hc hk
 have hun : ∀ b : Bool, (undef = Value.bool b) = False := fun b => by unfold undef; simp
 go_wp2_with fail
 all_goals
  go_ret
  exact ⟨by rw [HR.out]; rfl, hk'⟩
set_option maxRecDepth 100000 in
set_option maxHeartbeats 2000000 in
theorem rcIs_d6 (r : RecS) (a : Option Addr) (cap : Nat) (w : World) (HB : Hid (isSt r.v.m r.v.c = true)) (d1 : decide (0 ≤ r.o) = true) (d2 : decide (r.o < 5) = true) (d3 : decide (1 ≤ r.seq) = true) (d4 : decide (r.seq ≤ 1099511627776) = true) (d5 : decide (1 ≤ (r.key.size : Int)) = true) (d5' : decide (1 ≤ r.key.size) = true) (d6 : decide ((r.key.size : Int) ≤ 64) = false) (d6' : decide (r.key.size ≤ 64) = false) (HR : Hid (isR r = false)) :
  Calls Tryz.prog 109 #[.agg #[.int .i64 r.o, .int .i64 r.seq, .string r.key, .int .i64 r.v.m, .int .i64 r.v.c, .int .i64 r.v.o, .slice a r.v.val.length cap, .bool r.v.gone, .int .i64 r.v.ttl]] w fun e w' => e = .returned (.bool (isR r)) ∧ Kp No w w' := by
 obtain ⟨z, hz⟩ : ∃ z, z = isR r := ⟨_, rfl⟩
 rw [← hz] at HR ⊢
 clear hz
 go_enter Tryz.func109, Tryz.ntmps109
 go_wp2_with fail
 first | (refine (Pack_no _ _ _ HB.out).mono ?_) | (refine (Pack_any _ _ _ HB.out).mono ?_)
 rintro e w' ⟨rfl, hk⟩
 have hk' : Kp No w w' := ((Kp.refl _ _).alloc _).trans_same hk
 have hc := hk.get (heap_alloc_new w _) fun x => x
 have c0 := cell_at hc 0
 have c1 := cell_at hc 1
 have c2 := cell_at hc 2
 have c5 := cell_at hc 5
 have c6 := cell_at hc 6
 have c7 := cell_at hc 7
 have c8 := cell_at hc 8
 have hlt := get_lt hc
 simp at c0 c1 c2 c5 c6 c7 c8
 clear hc hk
 have hun : ∀ b : Bool, (undef = Value.bool b) = False := fun b => by unfold undef; simp
 go_wp2_with fail
 all_goals
  go_ret
  exact ⟨by rw [HR.out]; rfl, hk'⟩
set_option maxRecDepth 100000 in
set_option maxHeartbeats 2000000 in
theorem rcIs_d7 (r : RecS) (a : Option Addr) (cap : Nat) (w : World) (HB : Hid (isSt r.v.m r.v.c = true)) (d1 : decide (0 ≤ r.o) = true) (d2 : decide (r.o < 5) = true) (d3 : decide (1 ≤ r.seq) = true) (d4 : decide (r.seq ≤ 1099511627776) = true) (d5 : decide (1 ≤ (r.key.size : Int)) = true) (d5' : decide (1 ≤ r.key.size) = true) (d6 : decide ((r.key.size : Int) ≤ 64) = true) (d6' : decide (r.key.size ≤ 64) = true) (d7 : (r.v.o == r.o) = false) (HR : Hid (isR r = false)) :
  Calls Tryz.prog 109 #[.agg #[.int .i64 r.o, .int .i64 r.seq, .string r.key, .int .i64 r.v.m, .int .i64 r.v.c, .int .i64 r.v.o, .slice a r.v.val.length cap, .bool r.v.gone, .int .i64 r.v.ttl]] w fun e w' => e = .returned (.bool (isR r)) ∧ Kp No w w' := by
 obtain ⟨z, hz⟩ : ∃ z, z = isR r := ⟨_, rfl⟩
 rw [← hz] at HR ⊢
 clear hz
 go_enter Tryz.func109, Tryz.ntmps109
 go_wp2_with fail
 first | (refine (Pack_no _ _ _ HB.out).mono ?_) | (refine (Pack_any _ _ _ HB.out).mono ?_)
 rintro e w' ⟨rfl, hk⟩
 have hk' : Kp No w w' := ((Kp.refl _ _).alloc _).trans_same hk
 have hc := hk.get (heap_alloc_new w _) fun x => x
 have c0 := cell_at hc 0
 have c1 := cell_at hc 1
 have c2 := cell_at hc 2
 have c5 := cell_at hc 5
 have c6 := cell_at hc 6
 have c7 := cell_at hc 7
 have c8 := cell_at hc 8
 have hlt := get_lt hc
 simp at c0 c1 c2 c5 c6 c7 c8
 clear hc hk
 have hun : ∀ b : Bool, (undef = Value.bool b) = False := fun b => by unfold undef; simp
 go_wp2_with fail
 all_goals
  go_ret
  exact ⟨by rw [HR.out]; rfl, hk'⟩
set_option maxRecDepth 100000 in
set_option maxHeartbeats 2000000 in
theorem rcIs_d8 (r : RecS) (a : Option Addr) (cap : Nat) (w : World) (HB : Hid (isSt r.v.m r.v.c = true)) (d1 : decide (0 ≤ r.o) = true) (d2 : decide (r.o < 5) = true) (d3 : decide (1 ≤ r.seq) = true) (d4 : decide (r.seq ≤ 1099511627776) = true) (d5 : decide (1 ≤ (r.key.size : Int)) = true) (d5' : decide (1 ≤ r.key.size) = true) (d6 : decide ((r.key.size : Int) ≤ 64) = true) (d6' : decide (r.key.size ≤ 64) = true) (d7 : (r.v.o == r.o) = true) (d8 : decide ((r.v.val.length : Int) ≤ 1024) = false) (d8' : decide (r.v.val.length ≤ 1024) = false) (HR : Hid (isR r = false)) :
  Calls Tryz.prog 109 #[.agg #[.int .i64 r.o, .int .i64 r.seq, .string r.key, .int .i64 r.v.m, .int .i64 r.v.c, .int .i64 r.v.o, .slice a r.v.val.length cap, .bool r.v.gone, .int .i64 r.v.ttl]] w fun e w' => e = .returned (.bool (isR r)) ∧ Kp No w w' := by
 obtain ⟨z, hz⟩ : ∃ z, z = isR r := ⟨_, rfl⟩
 rw [← hz] at HR ⊢
 clear hz
 go_enter Tryz.func109, Tryz.ntmps109
 go_wp2_with fail
 first | (refine (Pack_no _ _ _ HB.out).mono ?_) | (refine (Pack_any _ _ _ HB.out).mono ?_)
 rintro e w' ⟨rfl, hk⟩
 have hk' : Kp No w w' := ((Kp.refl _ _).alloc _).trans_same hk
 have hc := hk.get (heap_alloc_new w _) fun x => x
 have c0 := cell_at hc 0
 have c1 := cell_at hc 1
 have c2 := cell_at hc 2
 have c5 := cell_at hc 5
 have c6 := cell_at hc 6
 have c7 := cell_at hc 7
 have c8 := cell_at hc 8
 have hlt := get_lt hc
 simp at c0 c1 c2 c5 c6 c7 c8
 clear hc hk
 have hun : ∀ b : Bool, (undef = Value.bool b) = False := fun b => by unfold undef; simp
 go_wp2_with fail
 all_goals
  go_ret
  exact ⟨by rw [HR.out]; rfl, hk'⟩
set_option maxRecDepth 100000 in
set_option maxHeartbeats 2000000 in
theorem rcIs_d9 (r : RecS) (a : Option Addr) (cap : Nat) (w : World) (HB : Hid (isSt r.v.m r.v.c = true)) (d1 : decide (0 ≤ r.o) = true) (d2 : decide (r.o < 5) = true) (d3 : decide (1 ≤ r.seq) = true) (d4 : decide (r.seq ≤ 1099511627776) = true) (d5 : decide (1 ≤ (r.key.size : Int)) = true) (d5' : decide (1 ≤ r.key.size) = true) (d6 : decide ((r.key.size : Int) ≤ 64) = true) (d6' : decide (r.key.size ≤ 64) = true) (d7 : (r.v.o == r.o) = true) (d8 : decide ((r.v.val.length : Int) ≤ 1024) = true) (d8' : decide (r.v.val.length ≤ 1024) = true) (d9 : decide (0 ≤ r.v.ttl) = false) (HR : Hid (isR r = false)) :
  Calls Tryz.prog 109 #[.agg #[.int .i64 r.o, .int .i64 r.seq, .string r.key, .int .i64 r.v.m, .int .i64 r.v.c, .int .i64 r.v.o, .slice a r.v.val.length cap, .bool r.v.gone, .int .i64 r.v.ttl]] w fun e w' => e = .returned (.bool (isR r)) ∧ Kp No w w' := by
 obtain ⟨z, hz⟩ : ∃ z, z = isR r := ⟨_, rfl⟩
 rw [← hz] at HR ⊢
 clear hz
 go_enter Tryz.func109, Tryz.ntmps109
 go_wp2_with fail
 first | (refine (Pack_no _ _ _ HB.out).mono ?_) | (refine (Pack_any _ _ _ HB.out).mono ?_)
 rintro e w' ⟨rfl, hk⟩
 have hk' : Kp No w w' := ((Kp.refl _ _).alloc _).trans_same hk
 have hc := hk.get (heap_alloc_new w _) fun x => x
 have c0 := cell_at hc 0
 have c1 := cell_at hc 1
 have c2 := cell_at hc 2
 have c5 := cell_at hc 5
 have c6 := cell_at hc 6
 have c7 := cell_at hc 7
 have c8 := cell_at hc 8
 have hlt := get_lt hc
 simp at c0 c1 c2 c5 c6 c7 c8
 clear hc hk
 have hun : ∀ b : Bool, (undef = Value.bool b) = False := fun b => by unfold undef; simp
 go_wp2_with fail
 all_goals
  go_ret
  exact ⟨by rw [HR.out]; rfl, hk'⟩
end Go.Proofs.YtgnkmjeoaoongaaGreatDoor
namespace Go.Proofs.YtgnkmjeoaoongaaGreatDoor
open Go.RowKit Go.Mer
set_option maxRecDepth 100000 in
set_option maxHeartbeats 2000000 in
theorem rcIs_da (r : RecS) (a : Option Addr) (cap : Nat) (w : World) (HB : Hid (isSt r.v.m r.v.c = true)) (d1 : decide (0 ≤ r.o) = true) (d2 : decide (r.o < 5) = true) (d3 : decide (1 ≤ r.seq) = true) (d4 : decide (r.seq ≤ 1099511627776) = true) (d5 : decide (1 ≤ (r.key.size : Int)) = true) (d5' : decide (1 ≤ r.key.size) = true) (d6 : decide ((r.key.size : Int) ≤ 64) = true) (d6' : decide (r.key.size ≤ 64) = true) (d7 : (r.v.o == r.o) = true) (d8 : decide ((r.v.val.length : Int) ≤ 1024) = true) (d8' : decide (r.v.val.length ≤ 1024) = true) (d9 : decide (0 ≤ r.v.ttl) = true) (da : decide (r.v.ttl ≤ 281474976710655) = false) (HR : Hid (isR r = false)) :
  Calls Tryz.prog 109 #[.agg #[.int .i64 r.o, .int .i64 r.seq, .string r.key, .int .i64 r.v.m, .int .i64 r.v.c, .int .i64 r.v.o, .slice a r.v.val.length cap, .bool r.v.gone, .int .i64 r.v.ttl]] w fun e w' => e = .returned (.bool (isR r)) ∧ Kp No w w' := by
 obtain ⟨z, hz⟩ : ∃ z, z = isR r := ⟨_, rfl⟩
 rw [← hz] at HR ⊢
 clear hz
 go_enter Tryz.func109, Tryz.ntmps109
 go_wp2_with fail
 first | (refine (Pack_no _ _ _ HB.out).mono ?_) | (refine (Pack_any _ _ _ HB.out).mono ?_)
 rintro e w' ⟨rfl, hk⟩
 have hk' : Kp No w w' := ((Kp.refl _ _).alloc _).trans_same hk
 have hc := hk.get (heap_alloc_new w _) fun x => x
 have c0 := cell_at hc 0
 have c1 := cell_at hc 1
 have c2 := cell_at hc 2
 have c5 := cell_at hc 5
 have c6 := cell_at hc 6
 have c7 := cell_at hc 7
 have c8 := cell_at hc 8
 have hlt := get_lt hc
 simp at c0 c1 c2 c5 c6 c7 c8
 clear hc hk
 have hun : ∀ b : Bool, (undef = Value.bool b) = False := fun b => by unfold undef; simp
 go_wp2_with fail
 all_goals
  go_ret
  exact ⟨by rw [HR.out]; rfl, hk'⟩
set_option maxRecDepth 100000 in
set_option maxHeartbeats 2000000 in
theorem rcIs_db (r : RecS) (a : Option Addr) (cap : Nat) (w : World) (HB : Hid (isSt r.v.m r.v.c = true)) (d1 : decide (0 ≤ r.o) = true) (d2 : decide (r.o < 5) = true) (d3 : decide (1 ≤ r.seq) = true) (d4 : decide (r.seq ≤ 1099511627776) = true) (d5 : decide (1 ≤ (r.key.size : Int)) = true) (d5' : decide (1 ≤ r.key.size) = true) (d6 : decide ((r.key.size : Int) ≤ 64) = true) (d6' : decide (r.key.size ≤ 64) = true) (d7 : (r.v.o == r.o) = true) (d8 : decide ((r.v.val.length : Int) ≤ 1024) = true) (d8' : decide (r.v.val.length ≤ 1024) = true) (d9 : decide (0 ≤ r.v.ttl) = true) (da : decide (r.v.ttl ≤ 281474976710655) = true) (db : r.v.gone = false) (HR : Hid (isR r = true)) :
  Calls Tryz.prog 109 #[.agg #[.int .i64 r.o, .int .i64 r.seq, .string r.key, .int .i64 r.v.m, .int .i64 r.v.c, .int .i64 r.v.o, .slice a r.v.val.length cap, .bool r.v.gone, .int .i64 r.v.ttl]] w fun e w' => e = .returned (.bool (isR r)) ∧ Kp No w w' := by
 obtain ⟨z, hz⟩ : ∃ z, z = isR r := ⟨_, rfl⟩
 rw [← hz] at HR ⊢
 clear hz
 go_enter Tryz.func109, Tryz.ntmps109
 go_wp2_with fail
 first | (refine (Pack_no _ _ _ HB.out).mono ?_) | (refine (Pack_any _ _ _ HB.out).mono ?_)
 rintro e w' ⟨rfl, hk⟩
 have hk' : Kp No w w' := ((Kp.refl _ _).alloc _).trans_same hk
 have hc := hk.get (heap_alloc_new w _) fun x => x
 have c0 := cell_at hc 0
 have c1 := cell_at hc 1
 have c2 := cell_at hc 2
 have c5 := cell_at hc 5
 have c6 := cell_at hc 6
 have c7 := cell_at hc 7
 have c8 := cell_at hc 8
 have hlt := get_lt hc
 simp at c0 c1 c2 c5 c6 c7 c8
 clear hc hk
 have hun : ∀ b : Bool, (undef = Value.bool b) = False := fun b => by unfold undef; simp
 go_wp2_with fail
 all_goals
  go_ret
  exact ⟨by rw [HR.out]; rfl, hk'⟩
set_option maxRecDepth 100000 in
set_option maxHeartbeats 2000000 in
theorem rcIs_dc (r : RecS) (a : Option Addr) (cap : Nat) (w : World) (HB : Hid (isSt r.v.m r.v.c = true)) (d1 : decide (0 ≤ r.o) = true) (d2 : decide (r.o < 5) = true) (d3 : decide (1 ≤ r.seq) = true) (d4 : decide (r.seq ≤ 1099511627776) = true) (d5 : decide (1 ≤ (r.key.size : Int)) = true) (d5' : decide (1 ≤ r.key.size) = true) (d6 : decide ((r.key.size : Int) ≤ 64) = true) (d6' : decide (r.key.size ≤ 64) = true) (d7 : (r.v.o == r.o) = true) (d8 : decide ((r.v.val.length : Int) ≤ 1024) = true) (d8' : decide (r.v.val.length ≤ 1024) = true) (d9 : decide (0 ≤ r.v.ttl) = true) (da : decide (r.v.ttl ≤ 281474976710655) = true) (db : r.v.gone = true) (dc : ((r.v.val.length : Int) == 0) = false) (dc' : (r.v.val.length == 0) = false) (HR : Hid (isR r = false)) :
  Calls Tryz.prog 109 #[.agg #[.int .i64 r.o, .int .i64 r.seq, .string r.key, .int .i64 r.v.m, .int .i64 r.v.c, .int .i64 r.v.o, .slice a r.v.val.length cap, .bool r.v.gone, .int .i64 r.v.ttl]] w fun e w' => e = .returned (.bool (isR r)) ∧ Kp No w w' := by
 obtain ⟨z, hz⟩ : ∃ z, z = isR r := ⟨_, rfl⟩
 rw [← hz] at HR ⊢
 clear hz
 go_enter Tryz.func109, Tryz.ntmps109
 go_wp2_with fail
 first | (refine (Pack_no _ _ _ HB.out).mono ?_) | (refine (Pack_any _ _ _ HB.out).mono ?_)
 rintro e w' ⟨rfl, hk⟩
 have hk' : Kp No w w' := ((Kp.refl _ _).alloc _).trans_same hk
 have hc := hk.get (heap_alloc_new w _) fun x => x
 have c0 := cell_at hc 0
 have c1 := cell_at hc 1
 have c2 := cell_at hc 2
 have c5 := cell_at hc 5
 have c6 := cell_at hc 6
 have c7 := cell_at hc 7
 have c8 := cell_at hc 8
 have hlt := get_lt hc
 simp at c0 c1 c2 c5 c6 c7 c8
 clear hc hk
 have hun : ∀ b : Bool, (undef = Value.bool b) = False := fun b => by unfold undef; simp
 go_wp2_with fail
 all_goals
  go_ret
  exact ⟨by rw [HR.out]; rfl, hk'⟩
set_option maxRecDepth 100000 in
set_option maxHeartbeats 2000000 in
theorem rcIs_dd (r : RecS) (a : Option Addr) (cap : Nat) (w : World) (HB : Hid (isSt r.v.m r.v.c = true)) (d1 : decide (0 ≤ r.o) = true) (d2 : decide (r.o < 5) = true) (d3 : decide (1 ≤ r.seq) = true) (d4 : decide (r.seq ≤ 1099511627776) = true) (d5 : decide (1 ≤ (r.key.size : Int)) = true) (d5' : decide (1 ≤ r.key.size) = true) (d6 : decide ((r.key.size : Int) ≤ 64) = true) (d6' : decide (r.key.size ≤ 64) = true) (d7 : (r.v.o == r.o) = true) (d8 : decide ((r.v.val.length : Int) ≤ 1024) = true) (d8' : decide (r.v.val.length ≤ 1024) = true) (d9 : decide (0 ≤ r.v.ttl) = true) (da : decide (r.v.ttl ≤ 281474976710655) = true) (db : r.v.gone = true) (dc : ((r.v.val.length : Int) == 0) = true) (dc' : (r.v.val.length == 0) = true) (dd : (r.v.ttl == 0) = false) (HR : Hid (isR r = false)) :
  Calls Tryz.prog 109 #[.agg #[.int .i64 r.o, .int .i64 r.seq, .string r.key, .int .i64 r.v.m, .int .i64 r.v.c, .int .i64 r.v.o, .slice a r.v.val.length cap, .bool r.v.gone, .int .i64 r.v.ttl]] w fun e w' => e = .returned (.bool (isR r)) ∧ Kp No w w' := by
 obtain ⟨z, hz⟩ : ∃ z, z = isR r := ⟨_, rfl⟩
 rw [← hz] at HR ⊢
 clear hz
 go_enter Tryz.func109, Tryz.ntmps109
 go_wp2_with fail
 first | (refine (Pack_no _ _ _ HB.out).mono ?_) | (refine (Pack_any _ _ _ HB.out).mono ?_)
 rintro e w' ⟨rfl, hk⟩
 have hk' : Kp No w w' := ((Kp.refl _ _).alloc _).trans_same hk
 have hc := hk.get (heap_alloc_new w _) fun x => x
 have c0 := cell_at hc 0
 have c1 := cell_at hc 1
 have c2 := cell_at hc 2
 have c5 := cell_at hc 5
 have c6 := cell_at hc 6
 have c7 := cell_at hc 7
 have c8 := cell_at hc 8
 have hlt := get_lt hc
 simp at c0 c1 c2 c5 c6 c7 c8
 clear hc hk
 have hun : ∀ b : Bool, (undef = Value.bool b) = False := fun b => by unfold undef; simp
 go_wp2_with fail
 all_goals
  go_ret
  exact ⟨by rw [HR.out]; rfl, hk'⟩
set_option maxRecDepth 100000 in
set_option maxHeartbeats 2000000 in
theorem rcIs_all (r : RecS) (a : Option Addr) (cap : Nat) (w : World) (HB : Hid (isSt r.v.m r.v.c = true)) (d1 : decide (0 ≤ r.o) = true) (d2 : decide (r.o < 5) = true) (d3 : decide (1 ≤ r.seq) = true) (d4 : decide (r.seq ≤ 1099511627776) = true) (d5 : decide (1 ≤ (r.key.size : Int)) = true) (d5' : decide (1 ≤ r.key.size) = true) (d6 : decide ((r.key.size : Int) ≤ 64) = true) (d6' : decide (r.key.size ≤ 64) = true) (d7 : (r.v.o == r.o) = true) (d8 : decide ((r.v.val.length : Int) ≤ 1024) = true) (d8' : decide (r.v.val.length ≤ 1024) = true) (d9 : decide (0 ≤ r.v.ttl) = true) (da : decide (r.v.ttl ≤ 281474976710655) = true) (db : r.v.gone = true) (dc : ((r.v.val.length : Int) == 0) = true) (dc' : (r.v.val.length == 0) = true) (dd : (r.v.ttl == 0) = true) (HR : Hid (isR r = true)) :
  Calls Tryz.prog 109 #[.agg #[.int .i64 r.o, .int .i64 r.seq, .string r.key, .int .i64 r.v.m, .int .i64 r.v.c, .int .i64 r.v.o, .slice a r.v.val.length cap, .bool r.v.gone, .int .i64 r.v.ttl]] w fun e w' => e = .returned (.bool (isR r)) ∧ Kp No w w' := by
 obtain ⟨z, hz⟩ : ∃ z, z = isR r := ⟨_, rfl⟩
 rw [← hz] at HR ⊢
 clear hz
 go_enter Tryz.func109, Tryz.ntmps109
 go_wp2_with fail
 first | (refine (Pack_no _ _ _ HB.out).mono ?_) | (refine (Pack_any _ _ _ HB.out).mono ?_)
 rintro e w' ⟨rfl, hk⟩
 have hk' : Kp No w w' := ((Kp.refl _ _).alloc _).trans_same hk
 have hc := hk.get (heap_alloc_new w _) fun x => x
 have c0 := cell_at hc 0
 have c1 := cell_at hc 1
 have c2 := cell_at hc 2
 have c5 := cell_at hc 5
 have c6 := cell_at hc 6
 have c7 := cell_at hc 7
 have c8 := cell_at hc 8
 have hlt := get_lt hc
 simp at c0 c1 c2 c5 c6 c7 c8
 clear hc hk
 have hun : ∀ b : Bool, (undef = Value.bool b) = False := fun b => by unfold undef; simp
 go_wp2_with fail
 all_goals
  go_ret
  exact ⟨by rw [HR.out]; rfl, hk'⟩
end Go.Proofs.YtgnkmjeoaoongaaGreatDoor

