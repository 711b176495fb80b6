/-
  Texts laid together: SRecIs, SEncR, SList, SMay.
-/
import Derived.Test.YtgnkmjeoaoongaaGreatDoorSc6
import Derived.Test.YtgnkmjeoaoongaaGreatDoorSa5
import Derived.Test.YtgnkmjeoaoongaaGreatDoorSc5
import Derived.Test.YtgnkmjeoaoongaaGreatDoorSb7
namespace Go.Proofs.YtgnkmjeoaoongaaGreatDoor
open Go.RowKit Go.Mer
def recV (x : RecR) : Value := .agg (recC x).toArray
structure IsRP (r : RecS) : Prop where
 st : isSt r.v.m r.v.c = true
 o0 : 0 ≤ r.o
 o5 : r.o < 5
 q1 : 1 ≤ r.seq
 q2 : r.seq ≤ 1099511627776
 k1 : 1 ≤ (r.key.size : Int)
 k2 : (r.key.size : Int) ≤ 64
 oo : r.v.o = r.o
 vl : (r.v.val.length : Int) ≤ 1024
 t0 : 0 ≤ r.v.ttl
 t1 : r.v.ttl ≤ 281474976710655
 gg : r.v.gone = true → (r.v.val.length : Int) = 0 ∧ r.v.ttl = 0
theorem isR_P {r : RecS} : isR r = true ↔ IsRP r := by
 rw [isR_iff, isV_iff, ← isSt_iff]
 constructor
 ·rintro ⟨⟨st, o0, o5, vl, t0, t1, gg⟩, oo, q1, q2, k1, k2⟩
  exact ⟨st, by omega, by omega, q1, q2, by omega, by omega, oo, by omega, t0, t1, fun h => ⟨by have := gg h; omega, (gg h).2⟩⟩
 ·rintro ⟨st, o0, o5, q1, q2, k1, k2, oo, vl, t0, t1, gg⟩
  exact ⟨⟨st, by omega, by omega, by omega, t0, t1, fun h => ⟨by have := gg h; omega, (gg h).2⟩⟩, oo, q1, q2, by omega, by omega⟩
theorem isR_no {r : RecS} (h : ¬ IsRP r) : isR r = false := by
 cases hh : isR r with
 | false => rfl
 | true => exact absurd (isR_P.1 hh) h
theorem dec_same {p q : Prop} [Decidable p] [Decidable q] (h : p ↔ q) {b : Bool} (hp : decide p = b) : decide q = b := by rw [← hp]; exact decide_eq_decide.2 h.symm
theorem beq_same {n : Nat} {b : Bool} (h : ((n : Int) == 0) = b) : (n == 0) = b := by
 rw [← h]
 cases n with
 | zero => rfl
 | succ k =>
  have e : (((k + 1 : Nat) : Int) == 0) = false := by rw [beq_eq_false_iff_ne]; omega
  rw [e]
  rfl
set_option maxRecDepth 100000 in
theorem rcIs_any (x : RecR) (w : World) : Calls Tryz.prog 109 #[recV x] w fun e w' => e = .returned (.bool (isR x.r)) ∧ Kp No w w' := by
 obtain ⟨r, a, cap⟩ := x
 unfold recV recC RecR.sl
 simp only
 cases b1 : isSt r.v.m r.v.c with
 | false => exact rcIs_x0 r a cap w (Lib.hid b1) (Lib.hid (isR_no fun h => absurd h.st (by rw [b1]; decide)))
 | true =>
 cases d1 : decide (0 ≤ r.o) with
 | false => exact rcIs_d1 r a cap w (Lib.hid b1) d1 (Lib.hid (isR_no fun h => of_decide_eq_false d1 h.o0))
 | true =>
 cases d2 : decide (r.o < 5) with
 | false => exact rcIs_d2 r a cap w (Lib.hid b1) d1 d2 (Lib.hid (isR_no fun h => of_decide_eq_false d2 h.o5))
 | true =>
 cases d3 : decide (1 ≤ r.seq) with
 | false => exact rcIs_d3 r a cap w (Lib.hid b1) d1 d2 d3 (Lib.hid (isR_no fun h => of_decide_eq_false d3 h.q1))
 | true =>
 cases d4 : decide (r.seq ≤ 1099511627776) with
 | false => exact rcIs_d4 r a cap w (Lib.hid b1) d1 d2 d3 d4 (Lib.hid (isR_no fun h => of_decide_eq_false d4 h.q2))
 | true =>
 cases d5 : decide (1 ≤ (r.key.size : Int)) with
 | false => exact rcIs_d5 r a cap w (Lib.hid b1) d1 d2 d3 d4 d5 (dec_same (by omega) d5) (Lib.hid (isR_no fun h => of_decide_eq_false d5 h.k1))
 | true =>
 cases d6 : decide ((r.key.size : Int) ≤ 64) with
 | false => exact rcIs_d6 r a cap w (Lib.hid b1) d1 d2 d3 d4 d5 (dec_same (by omega) d5) d6 (dec_same (by omega) d6) (Lib.hid (isR_no fun h => of_decide_eq_false d6 h.k2))
 | true =>
 cases d7 : (r.v.o == r.o) with
 | false => exact rcIs_d7 r a cap w (Lib.hid b1) d1 d2 d3 d4 d5 (dec_same (by omega) d5) d6 (dec_same (by omega) d6) d7 (Lib.hid (isR_no fun h => ne_of_beq_false d7 h.oo))
 | true =>
 cases d8 : decide ((r.v.val.length : Int) ≤ 1024) with
 | false => exact rcIs_d8 r a cap w (Lib.hid b1) d1 d2 d3 d4 d5 (dec_same (by omega) d5) d6 (dec_same (by omega) d6) d7 d8 (dec_same (by omega) d8) (Lib.hid (isR_no fun h => of_decide_eq_false d8 h.vl))
 | true =>
 cases d9 : decide (0 ≤ r.v.ttl) with
 | false => exact rcIs_d9 r a cap w (Lib.hid b1) d1 d2 d3 d4 d5 (dec_same (by omega) d5) d6 (dec_same (by omega) d6) d7 d8 (dec_same (by omega) d8) d9 (Lib.hid (isR_no fun h => of_decide_eq_false d9 h.t0))
 | true =>
 cases da : decide (r.v.ttl ≤ 281474976710655) with
 | false => exact rcIs_da r a cap w (Lib.hid b1) d1 d2 d3 d4 d5 (dec_same (by omega) d5) d6 (dec_same (by omega) d6) d7 d8 (dec_same (by omega) d8) d9 da (Lib.hid (isR_no fun h => of_decide_eq_false da h.t1))
 | true =>
 rcases Bool.eq_false_or_eq_true r.v.gone with db | db
 rotate_left
 ·exact rcIs_db r a cap w (Lib.hid b1) d1 d2 d3 d4 d5 (dec_same (by omega) d5) d6 (dec_same (by omega) d6) d7 d8 (dec_same (by omega) d8) d9 da db (Lib.hid (isR_P.2 ⟨b1, of_decide_eq_true d1, of_decide_eq_true d2, of_decide_eq_true d3, of_decide_eq_true d4, of_decide_eq_true d5, of_decide_eq_true d6, eq_of_beq d7, of_decide_eq_true d8, of_decide_eq_true d9, of_decide_eq_true da, fun h => absurd h (by rw [db]; decide)⟩))
 cases dc : ((r.v.val.length : Int) == 0) with
 | false => exact rcIs_dc r a cap w (Lib.hid b1) d1 d2 d3 d4 d5 (dec_same (by omega) d5) d6 (dec_same (by omega) d6) d7 d8 (dec_same (by omega) d8) d9 da db dc (beq_same dc) (Lib.hid (isR_no fun h => ne_of_beq_false dc (h.gg db).1))
 | true =>
 cases dd : (r.v.ttl == 0) with
 | false => exact rcIs_dd r a cap w (Lib.hid b1) d1 d2 d3 d4 d5 (dec_same (by omega) d5) d6 (dec_same (by omega) d6) d7 d8 (dec_same (by omega) d8) d9 da db dc (beq_same dc) dd (Lib.hid (isR_no fun h => ne_of_beq_false dd (h.gg db).2))
 | true =>
 exact rcIs_all r a cap w (Lib.hid b1) d1 d2 d3 d4 d5 (dec_same (by omega) d5) d6 (dec_same (by omega) d6) d7 d8 (dec_same (by omega) d8) d9 da db dc (beq_same dc) dd (Lib.hid (isR_P.2 ⟨b1, of_decide_eq_true d1, of_decide_eq_true d2, of_decide_eq_true d3, of_decide_eq_true d4, of_decide_eq_true d5, of_decide_eq_true d6, eq_of_beq d7, of_decide_eq_true d8, of_decide_eq_true d9, of_decide_eq_true da, fun _ => ⟨eq_of_beq dc, eq_of_beq dd⟩⟩))
end Go.Proofs.YtgnkmjeoaoongaaGreatDoor
namespace Go.Proofs.YtgnkmjeoaoongaaGreatDoor
open Go.RowKit Go.Mer
def EncP (w : World) (l : List UInt8) (e : Ending) (w' : World) : Prop :=
 ∃ a c, e = .returned (.tuple #[.slice a l.length c, .int .i64 0]) ∧ Mer.Own w' 5 1 (.slice a l.length c) l.length (u8s l) ∧ (∀ g, (Value.slice a l.length c).ownBlock = some g → w.heap.size ≤ g) ∧ Kp No w w'
theorem cells2 {x y : Int} (hx : 0 ≤ x) (hy : 0 ≤ y) : ([x.toNat, y.toNat].map intC).toArray = #[.int .i64 x, .int .i64 y] := by
 simp only [List.map_cons, List.map_nil, intC, Int.toNat_of_nonneg hx, Int.toNat_of_nonneg hy]
theorem cells4 {x y z u : Int} (hx : 0 ≤ x) (hy : 0 ≤ y) (hz : 0 ≤ z) (hu : 0 ≤ u) : ([x.toNat, y.toNat, z.toNat, u.toNat].map intC).toArray = #[.int .i64 x, .int .i64 y, .int .i64 z, .int .i64 u] := by
 simp only [List.map_cons, List.map_nil, intC, Int.toNat_of_nonneg hx, Int.toNat_of_nonneg hy, Int.toNat_of_nonneg hz, Int.toNat_of_nonneg hu]
set_option maxRecDepth 100000 in
set_option maxHeartbeats 4000000 in
theorem rcEnc_any (w : World) (x : RecR) (hx : x.rd w) (hr : isR x.r = true) : Calls Tryz.prog 110 #[recV x] w (EncP w (recL x.r)) := by
 obtain ⟨w1, hw1⟩ : ∃ W, W = w.alloc (.cells (recC x).toArray 46) := ⟨_, rfl⟩
 have k1 : Kp No w w1 := by rw [hw1]; exact (Kp.refl _ _).alloc _
 have b1 : w1.heap[w.heap.size]? = some (.cells (recC x).toArray 46 (0, 0)) := by rw [hw1]; exact heap_alloc_new w _
 have R1 := Lib.hid (show w1.rangeAt w.heap.size 0 (recC x) from by have := rangeAt_block b1 0 9; exact this)
 have his := rcIs_any x w1
 rw [hr] at his
 have HIS := Lib.hid his
 have HP := Lib.hid (isR_P.1 hr)
 have HRD1 := Lib.hid (show Rd w w.heap.size x.a (u8s x.r.v.val) from hx.1)
 have HK1 := Lib.hid k1
 have HB1 := Lib.hid b1
 have HW1 := Lib.hid hw1
 obtain ⟨r, a, cap⟩ := x
 simp only at HP HRD1 ⊢
 have HNB := Lib.hid (show (∀ n ∈ [r.o.toNat, r.seq.toNat], n ≤ 4611686018427387904) ∧ True ∧ True from ⟨fun n hn => by
  have h1 := HP.out.o5
  have h2 := HP.out.q2
  simp only [List.mem_cons, List.not_mem_nil, or_false] at hn
  rcases hn with rfl | rfl <;> omega, trivial, trivial⟩)
 unfold recV recC RecR.sl
 unfold recC RecR.sl at HW1
 simp only at HW1 ⊢
 clear k1 b1 hw1 hr his hx
 rcases Bool.eq_false_or_eq_true r.v.gone with hg | hg
 ·have HGN := Lib.hid (show goneN r.v.gone = 1 from by rw [hg]; rfl)
  have HG := Lib.hid hg
  clear hg
  go_enter Tryz.func110, Tryz.ntmps110
  go_upto_region 1 with fail
  rw [← HW1.out]
  go_wp2_with (refine wpList_load_w rfl 46 _ rfl w.heap.size 0 rfl _ _ R1 Tryz.underlying46 rfl (by kernel_rfl) ?_)
  refine HIS.out.mono ?_
  rintro e w2 ⟨rfl, k2⟩
  have HB2 := Lib.hid (k2.get HB1.out fun x => x)
  have HK2 := Lib.hid (HK1.out.trans_same k2)
  have HRD := Lib.hid (Rd.kp HRD1.out HK2.out)
  have d0 : w2.cell? ⟨w.heap.size, 0, none⟩ = some (.int .i64 r.o) := cell_at HB2.out 0
  have d7 : w2.cell? ⟨w.heap.size, 7, none⟩ = some (.bool true) := by rw [← HG.out]; exact cell_at HB2.out 7
  have hl2 := get_lt HB2.out
  clear k2
  go_upto_region 6 with fail
  have hs3 := WrI.start (Kp.refl No w2)
  have hw3b : w2.heap.size + 1 = (w2.alloc (.cells #[.slice none 0 0] 121)).heap.size := by simp
  obtain ⟨b, hb⟩ : ∃ b, b = w2.heap.size := ⟨_, rfl⟩
  go_upto_region 7 with fail
  rw [← hb] at hs3 ⊢
  obtain ⟨w3, hw3⟩ : ∃ W, W = w2.alloc (.cells #[.slice none 0 0] 121) := ⟨_, rfl⟩
  rw [← hw3] at hs3 ⊢
  have HI3 := Lib.hid hs3
  clear hs3 hw3 hw3b hb d0 d7 hl2
  have e0 : w3.cell? ⟨w.heap.size, 0, none⟩ = some (.int .i64 r.o) := cell_at (HI3.out.kp.get HB2.out fun x => x) 0
  have e1 : w3.cell? ⟨w.heap.size, 1, none⟩ = some (.int .i64 r.seq) := cell_at (HI3.out.kp.get HB2.out fun x => x) 1
  have hl3 := get_lt (HI3.out.kp.get HB2.out fun x => x)
  have k4 : Kp No w3 (w3.alloc (.cells #[.int .i64 r.o, .int .i64 r.seq] 3)) := (Kp.refl _ _).alloc _
  have hn4 := Nums_any w2 (w3.alloc (.cells #[.int .i64 r.o, .int .i64 r.seq] 3)) b _ [] (HI3.out.keep k4) w3.heap.size 2 [r.o.toNat, r.seq.toNat] 3 HNB.out.1 (by rw [cells2 HP.out.o0 (by have := HP.out.q1; omega)]; exact heap_alloc_new w3 _) (by decide) (by decide) (by decide) (by simp)
  have HN4 := Lib.hid hn4
  clear hn4 k4
  go_wp2_with fail
  refine HN4.out.mono ?_
  rintro e w5 ⟨rfl, v5, hI5, _⟩
  have HI5 := Lib.hid hI5
  have hb5 := get_lt (HI5.out.kp.get HB2.out fun x => x)
  have e2 : w5.cell? ⟨w.heap.size, 2, none⟩ = some (.string r.key) := cell_at (HI5.out.kp.get HB2.out fun x => x) 2
  obtain ⟨kc, w6, hcv, k6, hs6, hr6, hrow6⟩ := str_bytes r.key w5
  have k7 : Kp No w6 (w6.alloc (.cells #[.slice (some ⟨w5.heap.size, 0, none⟩) r.key.size kc] 42)) := (Kp.refl _ _).alloc _
  have hB7 := Bytes_1 w2 (w6.alloc (.cells #[.slice (some ⟨w5.heap.size, 0, none⟩) r.key.size kc] 42)) b v5 _ (HI5.out.keep (k6.trans_same k7)) (some ⟨w5.heap.size, 0, none⟩) kc r.key.data.toList
   (fun W v' hS => rd_wrs (Rd.kp hr6 k7) (fun g o _ ha => by
    injection ha with ha
    injection ha with ha
    subst ha
    refine ⟨fun e => ?_, fun e => ?_⟩
    ·have := get_lt HI5.out.cell
     omega
    ·have := HI5.out.own.lt _ e
     omega) hS) (by
    have h1 := HNB.out.2.2
    have h2 := flat_len [r.o.toNat, r.seq.toNat] HNB.out.1
    have h3 := HP.out.k2
    have h4 := key_size r.key
    simp only [List.length_append, List.length_nil, List.length_cons] at h2 ⊢
    omega) w6.heap.size 1 42 (heap_alloc_new w6 _)
  have HCV := Lib.hid hcv
  have HB7 := Lib.hid hB7
  have h65 := k6.size
  clear hI5 hcv k6 hs6 hr6 hrow6 k7 hB7 e0 e1 hl3 HN4
  go_wp2_with fail
  rw [HCV.out]
  simp only [Result.andThen_ok]
  go_wp2_with fail
  refine HB7.out.mono ?_
  rintro e w8 ⟨rfl, v8, hI8, _⟩
  have HI8 := Lib.hid hI8
  have hb8 := get_lt (HI8.out.kp.get HB2.out fun x => x)
  have e3 : w8.cell? ⟨w.heap.size, 3, none⟩ = some (.int .i64 r.v.m) := cell_at (HI8.out.kp.get HB2.out fun x => x) 3
  have e4 : w8.cell? ⟨w.heap.size, 4, none⟩ = some (.int .i64 r.v.c) := cell_at (HI8.out.kp.get HB2.out fun x => x) 4
  have e8 : w8.cell? ⟨w.heap.size, 8, none⟩ = some (.int .i64 r.v.ttl) := cell_at (HI8.out.kp.get HB2.out fun x => x) 8
  have k9 : Kp No w8 (w8.alloc (.cells #[.int .i64 r.v.m, .int .i64 r.v.c, .int .i64 1, .int .i64 r.v.ttl] 3)) := (Kp.refl _ _).alloc _
  have hn9 := Nums_any w2 (w8.alloc (.cells #[.int .i64 r.v.m, .int .i64 r.v.c, .int .i64 1, .int .i64 r.v.ttl] 3)) b v8 _ (HI8.out.keep k9) w8.heap.size 4 [r.v.m.toNat, r.v.c.toNat, (1 : Int).toNat, r.v.ttl.toNat] 3 (by
    intro x hx
    have h1 := isSt_iff.1 HP.out.st
    have h2 := HP.out.t1
    simp only [List.mem_cons, List.not_mem_nil, or_false] at hx
    rcases hx with rfl | rfl | rfl | rfl <;> omega) (by
    have h1 := isSt_iff.1 HP.out.st
    rw [cells4 h1.1 h1.2.2.1 (by decide) HP.out.t0]; exact heap_alloc_new w8 _) (by decide) (by decide) (by
    have h2 := flat_len [r.o.toNat, r.seq.toNat] HNB.out.1
    have h3 := HP.out.k2
    have h4 := key_size r.key
    have h5 := numL_len62 (n := r.key.data.toList.length) (by rw [h4]; omega)
    unfold bytesL
    simp only [List.length_append, List.length_nil, List.length_cons] at h2 ⊢
    omega) (by simp)
  have HN9 := Lib.hid hn9
  clear hI8 k9 hn9 HB7 HCV e2 h65
  go_wp2_with fail
  refine HN9.out.mono ?_
  rintro e wa ⟨rfl, va, hIa, _⟩
  have HIa := Lib.hid hIa
  have hba := get_lt (HIa.out.kp.get HB2.out fun x => x)
  have e6 : wa.cell? ⟨w.heap.size, 6, none⟩ = some (.slice a r.v.val.length cap) := cell_at (HIa.out.kp.get HB2.out fun x => x) 6
  have kb : Kp No wa (wa.alloc (.cells #[.slice a r.v.val.length cap] 42)) := (Kp.refl _ _).alloc _
  have hBb := Bytes_1 w2 (wa.alloc (.cells #[.slice a r.v.val.length cap] 42)) b va _ (HIa.out.keep kb) a cap r.v.val
   (fun W v' hS => rd_wrs (Rd.kp (Rd.kp HRD.out HIa.out.kp) kb) (fun g o h0 ha => by
    obtain ⟨g', o', ha', hg', _⟩ := HRD.out h0
    rw [ha] at ha'
    injection ha' with ha'
    injection ha' with e1 e2
    exact HIa.out.old (by rw [e1]; exact hg')) hS) (by
    have h2 := flat_len [r.o.toNat, r.seq.toNat] HNB.out.1
    have h3 := HP.out.k2
    have h4 := key_size r.key
    have h5 := numL_len62 (n := r.key.data.toList.length) (by rw [h4]; omega)
    have h6 := HP.out.vl
    have h7 := isSt_iff.1 HP.out.st
    have h8 := HP.out.t1
    have h9 := flat_len [r.v.m.toNat, r.v.c.toNat, (1 : Int).toNat, r.v.ttl.toNat] (by
     intro x hx
     simp only [List.mem_cons, List.not_mem_nil, or_false] at hx
     rcases hx with rfl | rfl | rfl | rfl <;> omega)
    unfold bytesL
    simp only [List.length_append, List.length_nil, List.length_cons] at h2 h9 ⊢
    omega) wa.heap.size 1 42 (heap_alloc_new wa _)
  have HBb := Lib.hid hBb
  clear hIa kb hBb HN9 e3 e4 e8
  go_wp2_with fail
  refine HBb.out.mono ?_
  rintro e wc ⟨rfl, vc, hIc, _⟩
  have hl : ((([] ++ [r.o.toNat, r.seq.toNat].flatMap numL) ++ bytesL r.key.data.toList) ++ [r.v.m.toNat, r.v.c.toNat, (1 : Int).toNat, r.v.ttl.toNat].flatMap numL) ++ bytesL r.v.val = recL r := by
   unfold recL
   rw [show goneN r.v.gone = (1 : Int).toNat from by rw [HGN.out]; rfl]
   simp only [List.flatMap_cons, List.flatMap_nil, List.nil_append, List.append_nil, List.append_assoc]
  rw [hl] at hIc
  obtain ⟨_, ac, cc, rfl, _⟩ := id hIc.own
  have hout := Out_any wc b ac cc (recL r) hIc.cell hIc.own.rd' (by have := recL_length (isR_P.2 HP.out); omega)
  have HOU := Lib.hid hout
  have HIc := Lib.hid hIc
  have hbc := get_lt hIc.cell
  clear hIc hout hl HBb e6
  go_wp2_with fail
  refine HOU.out.mono ?_
  rintro e wd ⟨ad, cd, rfl, hod, hfd, kd⟩
  have HD := Lib.hid (And.intro hod (And.intro hfd kd))
  clear hod hfd kd HOU
  go_wp2_with fail
  go_ret2
  have h1 := HIc.out.kp
  have h2 := HK2.out.size
  exact ⟨ad, cd, rfl, HD.out.1, fun g hg => Nat.le_trans (Nat.le_trans h2 h1.size) (HD.out.2.1 g hg), (HK2.out.trans_same h1).trans_same HD.out.2.2⟩
 ·have HGN := Lib.hid (show goneN r.v.gone = 0 from by rw [hg]; rfl)
  have HG := Lib.hid hg
  clear hg
  go_enter Tryz.func110, Tryz.ntmps110
  go_upto_region 1 with fail
  rw [← HW1.out]
  go_wp2_with (refine wpList_load_w rfl 46 _ rfl w.heap.size 0 rfl _ _ R1 Tryz.underlying46 rfl (by kernel_rfl) ?_)
  refine HIS.out.mono ?_
  rintro e w2 ⟨rfl, k2⟩
  have HB2 := Lib.hid (k2.get HB1.out fun x => x)
  have HK2 := Lib.hid (HK1.out.trans_same k2)
  have HRD := Lib.hid (Rd.kp HRD1.out HK2.out)
  have d0 : w2.cell? ⟨w.heap.size, 0, none⟩ = some (.int .i64 r.o) := cell_at HB2.out 0
  have d7 : w2.cell? ⟨w.heap.size, 7, none⟩ = some (.bool false) := by rw [← HG.out]; exact cell_at HB2.out 7
  have hl2 := get_lt HB2.out
  clear k2
  go_upto_region 6 with fail
  have hs3 := WrI.start (Kp.refl No w2)
  have hw3b : w2.heap.size + 1 = (w2.alloc (.cells #[.slice none 0 0] 121)).heap.size := by simp
  obtain ⟨b, hb⟩ : ∃ b, b = w2.heap.size := ⟨_, rfl⟩
  go_upto_region 7 with fail
  rw [← hb] at hs3 ⊢
  obtain ⟨w3, hw3⟩ : ∃ W, W = w2.alloc (.cells #[.slice none 0 0] 121) := ⟨_, rfl⟩
  rw [← hw3] at hs3 ⊢
  have HI3 := Lib.hid hs3
  clear hs3 hw3 hw3b hb d0 d7 hl2
  have e0 : w3.cell? ⟨w.heap.size, 0, none⟩ = some (.int .i64 r.o) := cell_at (HI3.out.kp.get HB2.out fun x => x) 0
  have e1 : w3.cell? ⟨w.heap.size, 1, none⟩ = some (.int .i64 r.seq) := cell_at (HI3.out.kp.get HB2.out fun x => x) 1
  have hl3 := get_lt (HI3.out.kp.get HB2.out fun x => x)
  have k4 : Kp No w3 (w3.alloc (.cells #[.int .i64 r.o, .int .i64 r.seq] 3)) := (Kp.refl _ _).alloc _
  have hn4 := Nums_any w2 (w3.alloc (.cells #[.int .i64 r.o, .int .i64 r.seq] 3)) b _ [] (HI3.out.keep k4) w3.heap.size 2 [r.o.toNat, r.seq.toNat] 3 HNB.out.1 (by rw [cells2 HP.out.o0 (by have := HP.out.q1; omega)]; exact heap_alloc_new w3 _) (by decide) (by decide) (by decide) (by simp)
  have HN4 := Lib.hid hn4
  clear hn4 k4
  go_wp2_with fail
  refine HN4.out.mono ?_
  rintro e w5 ⟨rfl, v5, hI5, _⟩
  have HI5 := Lib.hid hI5
  have hb5 := get_lt (HI5.out.kp.get HB2.out fun x => x)
  have e2 : w5.cell? ⟨w.heap.size, 2, none⟩ = some (.string r.key) := cell_at (HI5.out.kp.get HB2.out fun x => x) 2
  obtain ⟨kc, w6, hcv, k6, hs6, hr6, hrow6⟩ := str_bytes r.key w5
  have k7 : Kp No w6 (w6.alloc (.cells #[.slice (some ⟨w5.heap.size, 0, none⟩) r.key.size kc] 42)) := (Kp.refl _ _).alloc _
  have hB7 := Bytes_1 w2 (w6.alloc (.cells #[.slice (some ⟨w5.heap.size, 0, none⟩) r.key.size kc] 42)) b v5 _ (HI5.out.keep (k6.trans_same k7)) (some ⟨w5.heap.size, 0, none⟩) kc r.key.data.toList
   (fun W v' hS => rd_wrs (Rd.kp hr6 k7) (fun g o _ ha => by
    injection ha with ha
    injection ha with ha
    subst ha
    refine ⟨fun e => ?_, fun e => ?_⟩
    ·have := get_lt HI5.out.cell
     omega
    ·have := HI5.out.own.lt _ e
     omega) hS) (by
    have h1 := HNB.out.2.2
    have h2 := flat_len [r.o.toNat, r.seq.toNat] HNB.out.1
    have h3 := HP.out.k2
    have h4 := key_size r.key
    simp only [List.length_append, List.length_nil, List.length_cons] at h2 ⊢
    omega) w6.heap.size 1 42 (heap_alloc_new w6 _)
  have HCV := Lib.hid hcv
  have HB7 := Lib.hid hB7
  have h65 := k6.size
  clear hI5 hcv k6 hs6 hr6 hrow6 k7 hB7 e0 e1 hl3 HN4
  go_wp2_with fail
  rw [HCV.out]
  simp only [Result.andThen_ok]
  go_wp2_with fail
  refine HB7.out.mono ?_
  rintro e w8 ⟨rfl, v8, hI8, _⟩
  have HI8 := Lib.hid hI8
  have hb8 := get_lt (HI8.out.kp.get HB2.out fun x => x)
  have e3 : w8.cell? ⟨w.heap.size, 3, none⟩ = some (.int .i64 r.v.m) := cell_at (HI8.out.kp.get HB2.out fun x => x) 3
  have e4 : w8.cell? ⟨w.heap.size, 4, none⟩ = some (.int .i64 r.v.c) := cell_at (HI8.out.kp.get HB2.out fun x => x) 4
  have e8 : w8.cell? ⟨w.heap.size, 8, none⟩ = some (.int .i64 r.v.ttl) := cell_at (HI8.out.kp.get HB2.out fun x => x) 8
  have k9 : Kp No w8 (w8.alloc (.cells #[.int .i64 r.v.m, .int .i64 r.v.c, .int .i64 0, .int .i64 r.v.ttl] 3)) := (Kp.refl _ _).alloc _
  have hn9 := Nums_any w2 (w8.alloc (.cells #[.int .i64 r.v.m, .int .i64 r.v.c, .int .i64 0, .int .i64 r.v.ttl] 3)) b v8 _ (HI8.out.keep k9) w8.heap.size 4 [r.v.m.toNat, r.v.c.toNat, (0 : Int).toNat, r.v.ttl.toNat] 3 (by
    intro x hx
    have h1 := isSt_iff.1 HP.out.st
    have h2 := HP.out.t1
    simp only [List.mem_cons, List.not_mem_nil, or_false] at hx
    rcases hx with rfl | rfl | rfl | rfl <;> omega) (by
    have h1 := isSt_iff.1 HP.out.st
    rw [cells4 h1.1 h1.2.2.1 (by decide) HP.out.t0]; exact heap_alloc_new w8 _) (by decide) (by decide) (by
    have h2 := flat_len [r.o.toNat, r.seq.toNat] HNB.out.1
    have h3 := HP.out.k2
    have h4 := key_size r.key
    have h5 := numL_len62 (n := r.key.data.toList.length) (by rw [h4]; omega)
    unfold bytesL
    simp only [List.length_append, List.length_nil, List.length_cons] at h2 ⊢
    omega) (by simp)
  have HN9 := Lib.hid hn9
  clear hI8 k9 hn9 HB7 HCV e2 h65
  go_wp2_with fail
  refine HN9.out.mono ?_
  rintro e wa ⟨rfl, va, hIa, _⟩
  have HIa := Lib.hid hIa
  have hba := get_lt (HIa.out.kp.get HB2.out fun x => x)
  have e6 : wa.cell? ⟨w.heap.size, 6, none⟩ = some (.slice a r.v.val.length cap) := cell_at (HIa.out.kp.get HB2.out fun x => x) 6
  have kb : Kp No wa (wa.alloc (.cells #[.slice a r.v.val.length cap] 42)) := (Kp.refl _ _).alloc _
  have hBb := Bytes_1 w2 (wa.alloc (.cells #[.slice a r.v.val.length cap] 42)) b va _ (HIa.out.keep kb) a cap r.v.val
   (fun W v' hS => rd_wrs (Rd.kp (Rd.kp HRD.out HIa.out.kp) kb) (fun g o h0 ha => by
    obtain ⟨g', o', ha', hg', _⟩ := HRD.out h0
    rw [ha] at ha'
    injection ha' with ha'
    injection ha' with e1 e2
    exact HIa.out.old (by rw [e1]; exact hg')) hS) (by
    have h2 := flat_len [r.o.toNat, r.seq.toNat] HNB.out.1
    have h3 := HP.out.k2
    have h4 := key_size r.key
    have h5 := numL_len62 (n := r.key.data.toList.length) (by rw [h4]; omega)
    have h6 := HP.out.vl
    have h7 := isSt_iff.1 HP.out.st
    have h8 := HP.out.t1
    have h9 := flat_len [r.v.m.toNat, r.v.c.toNat, (0 : Int).toNat, r.v.ttl.toNat] (by
     intro x hx
     simp only [List.mem_cons, List.not_mem_nil, or_false] at hx
     rcases hx with rfl | rfl | rfl | rfl <;> omega)
    unfold bytesL
    simp only [List.length_append, List.length_nil, List.length_cons] at h2 h9 ⊢
    omega) wa.heap.size 1 42 (heap_alloc_new wa _)
  have HBb := Lib.hid hBb
  clear hIa kb hBb HN9 e3 e4 e8
  go_wp2_with fail
  refine HBb.out.mono ?_
  rintro e wc ⟨rfl, vc, hIc, _⟩
  have hl : ((([] ++ [r.o.toNat, r.seq.toNat].flatMap numL) ++ bytesL r.key.data.toList) ++ [r.v.m.toNat, r.v.c.toNat, (0 : Int).toNat, r.v.ttl.toNat].flatMap numL) ++ bytesL r.v.val = recL r := by
   unfold recL
   rw [show goneN r.v.gone = (0 : Int).toNat from by rw [HGN.out]; rfl]
   simp only [List.flatMap_cons, List.flatMap_nil, List.nil_append, List.append_nil, List.append_assoc]
  rw [hl] at hIc
  obtain ⟨_, ac, cc, rfl, _⟩ := id hIc.own
  have hout := Out_any wc b ac cc (recL r) hIc.cell hIc.own.rd' (by have := recL_length (isR_P.2 HP.out); omega)
  have HOU := Lib.hid hout
  have HIc := Lib.hid hIc
  have hbc := get_lt hIc.cell
  clear hIc hout hl HBb e6
  go_wp2_with fail
  refine HOU.out.mono ?_
  rintro e wd ⟨ad, cd, rfl, hod, hfd, kd⟩
  have HD := Lib.hid (And.intro hod (And.intro hfd kd))
  clear hod hfd kd HOU
  go_wp2_with fail
  go_ret2
  have h1 := HIc.out.kp
  have h2 := HK2.out.size
  exact ⟨ad, cd, rfl, HD.out.1, fun g hg => Nat.le_trans (Nat.le_trans h2 h1.size) (HD.out.2.1 g hg), (HK2.out.trans_same h1).trans_same HD.out.2.2⟩
end Go.Proofs.YtgnkmjeoaoongaaGreatDoor
namespace Go.Proofs.YtgnkmjeoaoongaaGreatDoor
open Go.RowKit Go.Mer
def RecsAt (w : World) (a : Option Addr) (L : List RecR) : Prop := Rd w w.heap.size a (L.flatMap recC) ∧ ∀ x ∈ L, x.rd w
theorem RecsAt.kp {w w' : World} {a : Option Addr} {L : List RecR} (h : RecsAt w a L) (hk : Kp No w w') : RecsAt w' a L := ⟨Rd.kp h.1 hk, fun x hx => VerR.rd_kp (h.2 x hx) hk⟩
theorem rec_range {w : World} {a : Option Addr} {L : List RecR} (h : Rd w w.heap.size a (L.flatMap recC)) {k : Nat} (hk : k < L.length) :
  ∃ g off, a = some ⟨g, off, none⟩ ∧ g < w.heap.size ∧ ∀ W, Kp No w W → W.rangeAt g (off + k * 9) (recC L[k]) := by
 obtain ⟨g, off, ha, hc⟩ := rd_chunk (f := recC) recC_len (by decide) h hk
 obtain ⟨g', off', ha', hg', _⟩ := h (by rw [chunk_len recC 9 recC_len]; omega)
 rw [ha] at ha'
 injection ha' with ha'
 injection ha' with e1 e2
 exact ⟨g, off, ha, by rw [e1]; exact hg', fun W hW j u hu => hc W hW j u hu⟩
def ListJ (w0 : World) (b : Nat) (L : List RecR) (k : Nat) (wr : World) : Prop :=
 ∃ v, WrI w0 b v (numL L.length ++ rowsL ((L.take k).map RecR.r)) wr
theorem rows_snoc (L : List RecS) (r : RecS) : rowsL (L ++ [r]) = rowsL L ++ bytesL (recL r) := by
 unfold rowsL
 rw [List.flatMap_append]
 simp
set_option maxRecDepth 100000 in
set_option maxHeartbeats 4000000 in
theorem rcList_any (w : World) (a : Option Addr) (cap : Nat) (L : List RecR) (hL : RecsAt w a L) (hr : ∀ x ∈ L, isR x.r = true) (hn : L.length ≤ 64) :
  Calls Tryz.prog 57 #[.slice a L.length cap] w (EncP w (listL (L.map RecR.r))) := by
 obtain ⟨n, hnL⟩ : ∃ n, n = L.length := ⟨_, rfl⟩
 have hr' : ∀ k, ∀ r ∈ (L.take k).map RecR.r, isR r = true := fun k r h => by
  obtain ⟨x, hx, rfl⟩ := List.mem_map.1 h
  exact hr x (List.mem_of_mem_take hx)
 have hrl : ∀ k, (rowsL ((L.take k).map RecR.r)).length ≤ 71808 := fun k => by
  have h1 := rowsL_length (hr' k)
  have h2 := List.length_take_le' k L
  rw [List.length_map] at h1
  omega
 have HRL := Lib.hid hrl
 have HL := Lib.hid hL
 have HR := Lib.hid hr
 have HN := Lib.hid hnL
 have hnn : n ≤ 64 := by omega
 have d0 : decide ((64 : Int) < (n : Int)) = false := decide_eq_false (by omega)
 have d0' : decide (64 < n) = false := decide_eq_false (by omega)
 obtain ⟨w1, hw1⟩ : ∃ W, W = w.alloc (.cells #[.slice none 0 0] 121) := ⟨_, rfl⟩
 have hs1 := WrI.start (Kp.refl No w)
 rw [← hw1] at hs1
 have k2 : Kp No w1 (w1.alloc (.cells #[.int .i64 (n : Int)] 3)) := (Kp.refl _ _).alloc _
 have hn2 := Nums_any w (w1.alloc (.cells #[.int .i64 (n : Int)] 3)) w.heap.size _ [] (hs1.keep k2) w1.heap.size 1 [n] 3 (fun x hx => by rw [List.mem_singleton] at hx; omega) (heap_alloc_new w1 _) (by decide) (by decide) (by decide) (by simp)
 have HN2 := Lib.hid hn2
 have HW1 := Lib.hid hw1
 have HI1 := Lib.hid hs1
 have hb1 := get_lt hs1.cell
 rw [← hnL]
 clear hL hr hnL hn hs1 hn2 hrl hr' hw1 k2
 go_enter Tryz.func57, Tryz.ntmps57
 go_upto_region 4 with fail
 rw [← HW1.out]
 go_wp2_with fail
 refine HN2.out.mono ?_
 rintro e w2 ⟨rfl, v2, hI2, _⟩
 have HJ0 := Lib.hid (show ListJ w w.heap.size L 0 w2 from ⟨v2, by rw [← HN.out]; simpa [rowsL] using hI2⟩)
 clear hI2 HN2
 go_wp2_with fail
 go_loopw [18] (fun i wr => ∃ k : Nat, k ≤ n ∧ i = .int .i64 (k : Int) ∧ Hid (ListJ w w.heap.size L k wr)) (fun i _ => n - (intOf i).toNat)
 case atStart => exact ⟨0, Nat.zero_le _, rfl, HJ0⟩
 case round =>
  obtain ⟨k, hk, rfl, HJ⟩ := hrel
  obtain ⟨v, hI⟩ := HJ.out
  rcases Nat.lt_or_ge k n with hlt | hge
  ·have hkL : k < L.length := by have := HN.out; omega
   obtain ⟨g, off, rfl, hgl, hgr⟩ := rec_range HL.out.1 hkL
   have hxr := VerR.rd_kp (HL.out.2 L[k] (List.getElem_mem hkL)) hI.kp
   have hxi := HR.out L[k] (List.getElem_mem hkL)
   have hst : (L.take (k + 1)).map RecR.r = (L.take k).map RecR.r ++ [L[k].r] := by
    rw [List.take_succ_eq_append_getElem hkL, List.map_append]
    rfl
   obtain ⟨x, hx⟩ : ∃ x, x = L[k] := ⟨_, rfl⟩
   rw [← hx] at hgr hxr hxi hst
   have R1 := Lib.hid (hgr wr hI.kp)
   have hg3 := hI.kp.lt hgl
   obtain ⟨w5, hw5⟩ : ∃ W, W = wr.alloc (.cells (recC x).toArray 46) := ⟨_, rfl⟩
   have k5 : Kp No wr w5 := by rw [hw5]; exact (Kp.refl _ _).alloc _
   have b5 : w5.heap[wr.heap.size]? = some (.cells (recC x).toArray 46 (0, 0)) := by rw [hw5]; exact heap_alloc_new wr _
   have R5 := Lib.hid (show w5.rangeAt wr.heap.size 0 (recC x) from by have := rangeAt_block b5 0 9; exact this)
   have hl5 := get_lt b5
   have henc := rcEnc_any w5 x (VerR.rd_kp hxr k5) hxi
   have HEN := Lib.hid henc
   have HW5 := Lib.hid hw5
   have HI5 := Lib.hid (hI.keep k5)
   have HST := Lib.hid hst
   have HXI := Lib.hid hxi
   clear hgr hxr k5 b5 henc hw5 hx hst hxi hgl HJ hI
   go_upto_region 8 with (first
    | (refine wpList_load_w rfl 46 _ rfl g (off + k * 9) rfl _ _ R1 Tryz.underlying46 rfl (by kernel_rfl) ?_)
    | (refine wpList_store_w rfl 46 _ _ rfl wr.heap.size (by rfl) _ _ _ rfl rfl (by kernel_rfl) (by rfl) (by rfl) ?_))
   rw [← HW5.out]
   go_wp2_with (refine wpList_load_w rfl 46 _ rfl wr.heap.size 0 rfl _ _ R5 Tryz.underlying46 rfl (by kernel_rfl) ?_)
   refine HEN.out.mono ?_
   rintro e w6 ⟨ae, ce, rfl, hoe, hfe, k6⟩
   have hI6 := HI5.out.keep k6
   obtain ⟨ln, hln⟩ : ∃ ln, ln = (recL x.r).length := ⟨_, rfl⟩
   have k7 : Kp No w6 (w6.alloc (.cells #[.slice ae ln ce] 42)) := (Kp.refl _ _).alloc _
   have hB7 := Bytes_1 w (w6.alloc (.cells #[.slice ae ln ce] 42)) w.heap.size v _ (hI6.keep k7) ae ce (recL x.r)
    (fun W v' hS => rd_wrs (Rd.kp hoe.rd' k7) (fun gg o h0 ha => by
     have h1 := hfe gg (by rw [ha]; rfl)
     refine ⟨fun e => ?_, fun e => ?_⟩
     ·have := get_lt HI5.out.cell
      omega
     ·have := HI5.out.own.lt _ e
      omega) hS) (by
     have h1 := HRL.out k
     have h2 := recL_length HXI.out
     have h3 := numL_len62 (n := L.length) (by have := HN.out; omega)
     rw [List.length_append]
     omega) w6.heap.size 1 42 (by rw [hln]; exact heap_alloc_new w6 _)
   have HB7 := Lib.hid hB7
   have HI6 := Lib.hid hI6
   have hb6 := get_lt hI6.cell
   rw [← hln]
   clear hoe hfe k6 hI6 k7 hB7 HEN hln
   go_wp2_with fail
   refine HB7.out.mono ?_
   rintro e w8 ⟨rfl, v8, hI8, _⟩
   have HNEW := Lib.hid (show ListJ w w.heap.size L (k + 1) w8 from ⟨v8, by rw [HST.out, rows_snoc, ← List.append_assoc]; exact hI8⟩)
   clear hI8 HB7
   go_wp2_with fail
   go_roundw
   case rel => exact ⟨k + 1, hlt, by go_num, HNEW⟩
   case measure => simp [intOf]; omega
  ·obtain rfl : k = n := by omega
   have hl : numL L.length ++ rowsL ((L.take k).map RecR.r) = listL (L.map RecR.r) := by
    unfold listL
    rw [HN.out, List.take_length, List.length_map]
   rw [hl] at hI
   obtain ⟨_, ac, cc, rfl, _⟩ := id hI.own
   have hout := Out_any wr w.heap.size ac cc _ hI.cell hI.own.rd' (by
    have := HRL.out L.length
    have h3 := numL_len62 (n := L.length) (by have := HN.out; omega)
    unfold listL
    rw [List.length_append, List.length_map]
    rw [List.take_length] at this
    omega)
   have HOU := Lib.hid hout
   have HI := Lib.hid hI
   have hbr := get_lt hI.cell
   clear hI hout hl hge HJ
   go_wp2_with fail
   refine HOU.out.mono ?_
   rintro e wd ⟨ad, cd, rfl, hod, hfd, kd⟩
   have HD := Lib.hid (And.intro hod (And.intro hfd kd))
   clear hod hfd kd HOU
   go_wp2_with fail
   go_ret2
   exact ⟨ad, cd, rfl, HD.out.1, fun g hg => Nat.le_trans HI.out.kp.size (HD.out.2.1 g hg), HI.out.kp.trans_same HD.out.2.2⟩
end Go.Proofs.YtgnkmjeoaoongaaGreatDoor
namespace Go.Proofs.YtgnkmjeoaoongaaGreatDoor
open Go.RowKit Go.Mer
set_option maxRecDepth 100000 in
set_option maxHeartbeats 4000000 in
theorem sMay_any {w : World} {s d l o m : Nat} {P : ByteArray} {st : SSt} {cs : ChL} {ka : Option Addr} {kc : Nat} {K : List RecR} (h : StC w s d l P o st m cs ka kc K) (hof : OfB st.of)
  (a : Option Addr) (cap : Nat) (L : List RecR) (hL : RecsAt w a L) (hc : L.length ≤ cap) (hcm : L.length ≤ 1000000) :
  Calls Tryz.prog 56 #[.pointer (some ⟨s, 0, none⟩), .slice a L.length cap] w fun e w' => e = .returned (.int .i64 (mayS st (L.map RecR.r) : Nat)) ∧ Kp No w w' := by
 obtain ⟨n, hnL⟩ : ∃ n, n = L.length := ⟨_, rfl⟩
 have hsl := get_lt h.cell
 have H := Lib.hid h
 have HL := Lib.hid hL
 have HN := Lib.hid hnL
 have HOF := Lib.hid hof
 have hnn : n ≤ 1000000 := by omega
 rw [← hnL]
 rcases Nat.lt_or_ge 64 n with h64 | h64
 ·have d0 : decide ((64 : Int) < (n : Int)) = true := decide_eq_true (by omega)
  have d0' : decide (64 < n) = true := decide_eq_true h64
  have HV := Lib.hid (may_long (st := st) (L := L.map RecR.r) (by rw [List.length_map]; omega))
  clear h hL hof hnL h64 hc hcm
  go_enter Tryz.func56, Tryz.ntmps56
  go_wp2_with fail
  go_ret
  exact ⟨by rw [HV.out]; rfl, Kp.refl _ _⟩
 ·have d0 : decide ((64 : Int) < (n : Int)) = false := decide_eq_false (by omega)
  have d0' : decide (64 < n) = false := decide_eq_false (by omega)
  have H64 := Lib.hid (show ¬ 64 < (L.map RecR.r).length from by rw [List.length_map]; omega)
  clear h hL hof hnL hc hcm
  go_enter Tryz.func56, Tryz.ntmps56
  go_wp2_with fail
  go_loopw [16] (fun i wr => ∃ k : Nat, k ≤ n ∧ i = .int .i64 (k : Int) ∧ Hid (Kp No w wr) ∧ Hid (∀ x ∈ L.take k, isR x.r = true)) (fun i _ => n - (intOf i).toNat)
  case atStart => exact ⟨0, Nat.zero_le _, rfl, Lib.hid (Kp.refl _ _), Lib.hid fun x hx => absurd hx (by simp)⟩
  case round =>
   obtain ⟨k, hk, rfl, HK, HA⟩ := hrel
   rcases Nat.lt_or_ge k n with hlt | hge
   ·have hkL : k < L.length := by have := HN.out; omega
    obtain ⟨g, off, rfl, hgl, hgr⟩ := rec_range HL.out.1 hkL
    have hst : L.take (k + 1) = L.take k ++ [L[k]] := List.take_succ_eq_append_getElem hkL
    have hxk : (L.map RecR.r)[k]? = some L[k].r := by rw [List.getElem?_map, List.getElem?_eq_getElem hkL]; rfl
    obtain ⟨x, hx⟩ : ∃ x, x = L[k] := ⟨_, rfl⟩
    rw [← hx] at hgr hst hxk
    have R1 := Lib.hid (hgr wr HK.out)
    have hg3 := HK.out.lt hgl
    obtain ⟨w5, hw5⟩ : ∃ W, W = wr.alloc (.cells (recC x).toArray 46) := ⟨_, rfl⟩
    have k5 : Kp No wr w5 := by rw [hw5]; exact (Kp.refl _ _).alloc _
    have b5 : w5.heap[wr.heap.size]? = some (.cells (recC x).toArray 46 (0, 0)) := by rw [hw5]; exact heap_alloc_new wr _
    have R5 := Lib.hid (show w5.rangeAt wr.heap.size 0 (recC x) from by have := rangeAt_block b5 0 9; exact this)
    have hl5 := get_lt b5
    have HIS := Lib.hid (rcIs_any x w5)
    have HW5 := Lib.hid hw5
    have HK5 := Lib.hid (HK.out.trans_same k5)
    have HST := Lib.hid (And.intro hst hxk)
    clear hgr hst hxk k5 b5 hw5 hx hgl hkL
    cases hri : isR x.r with
    | true =>
     have HRI := Lib.hid hri
     clear hri
     go_upto_region 6 with (first
      | (refine wpList_load_w rfl 46 _ rfl g (off + k * 9) rfl _ _ R1 Tryz.underlying46 rfl (by kernel_rfl) ?_)
      | (refine wpList_store_w rfl 46 _ _ rfl wr.heap.size (by rfl) _ _ _ rfl rfl (by kernel_rfl) (by rfl) (by rfl) ?_))
     rw [← HW5.out]
     go_wp2_with (refine wpList_load_w rfl 46 _ rfl wr.heap.size 0 rfl _ _ R5 Tryz.underlying46 rfl (by kernel_rfl) ?_)
     refine HIS.out.mono ?_
     rintro e w6 ⟨rfl, k6⟩
     rw [HRI.out]
     have HK6 := Lib.hid (HK5.out.trans_same k6)
     have HA6 := Lib.hid (show ∀ y ∈ L.take (k + 1), isR y.r = true from fun y hy => by
      rw [HST.out.1] at hy
      rcases List.mem_append.1 hy with hy | hy
      ·exact HA.out y hy
      ·rw [List.mem_singleton] at hy
       rw [hy]
       exact HRI.out)
     clear k6
     go_wp2_with fail
     go_roundw
     case rel => exact ⟨k + 1, hlt, by go_num, HK6, HA6⟩
     case measure => simp [intOf]; omega
    | false =>
     have HRI := Lib.hid (may_none (st := st) H64.out HST.out.2 hri)
     have HRF := Lib.hid hri
     clear hri
     go_upto_region 6 with (first
      | (refine wpList_load_w rfl 46 _ rfl g (off + k * 9) rfl _ _ R1 Tryz.underlying46 rfl (by kernel_rfl) ?_)
      | (refine wpList_store_w rfl 46 _ _ rfl wr.heap.size (by rfl) _ _ _ rfl rfl (by kernel_rfl) (by rfl) (by rfl) ?_))
     rw [← HW5.out]
     go_wp2_with (refine wpList_load_w rfl 46 _ rfl wr.heap.size 0 rfl _ _ R5 Tryz.underlying46 rfl (by kernel_rfl) ?_)
     refine HIS.out.mono ?_
     rintro e w6 ⟨rfl, k6⟩
     rw [HRF.out]
     have HK6 := Lib.hid (HK5.out.trans_same k6)
     clear k6
     go_wp2_with fail
     go_ret
     exact ⟨by rw [HRI.out]; rfl, HK6.out⟩
   ·obtain rfl : n = k := by omega
    have hall : ∀ x ∈ L, isR x.r = true := fun x hx => by
     have := HA.out
     rw [HN.out, List.take_length] at this
     exact this x hx
    have hallr : ∀ r ∈ L.map RecR.r, isR r = true := fun r hr => by
     obtain ⟨x, hx, rfl⟩ := List.mem_map.1 hr
     exact hall x hx
    have hval := may_go (st := st) H64.out hallr
    have ROF := Lib.hid (show wr.rangeAt s 10 (ofC st.of) from by
     have := rangeAt_block ((H.out.keep_no HK.out).cell) 10 15
     rwa [st_of] at this)
    have hsr := HK.out.lt hsl
    obtain ⟨w7, hw7⟩ : ∃ W, W = wr.alloc (.cells (ofC st.of).toArray 131) := ⟨_, rfl⟩
    have k7 : Kp No wr w7 := by rw [hw7]; exact (Kp.refl _ _).alloc _
    have b7 : w7.heap[wr.heap.size]? = some (.cells (ofC st.of).toArray 131 (0, 0)) := by rw [hw7]; exact heap_alloc_new wr _
    have HW7 := Lib.hid hw7
    have HK7 := Lib.hid (HK.out.trans_same k7)
    have HB7 := Lib.hid b7
    have HALL := Lib.hid (And.intro hall hallr)
    have HVAL := Lib.hid hval
    obtain ⟨q, hq⟩ : ∃ q, q = wr.heap.size := ⟨_, rfl⟩
    rw [← hq] at HB7
    have HQ := Lib.hid (show w.heap.size ≤ q by rw [hq]; exact HK.out.size)
    clear hall hallr hval hw7 k7 b7 HA hge
    go_upto_region 10 with (first
     | (refine wpList_load_w rfl 131 _ rfl s 10 rfl _ _ ROF Tryz.underlying131 rfl (by kernel_rfl) ?_)
     | (refine wpList_store_w rfl 131 _ _ rfl wr.heap.size (by rfl) _ _ _ rfl rfl (by kernel_rfl) (by rfl) (by rfl) ?_))
    rw [← HW7.out, ← hq]
    clear hq
    have HMG := Lib.hid (show mayG st.mm st.mc st.of (L.map RecR.r) = mayG st.mm st.mc (ofK st.of ((L.map RecR.r).take 0)) ((L.map RecR.r).drop 0) from rfl)
    go_wp2_with fail
    go_loopw [30] (fun i wr => ∃ k : Nat, k ≤ n ∧ i = .int .i64 (k : Int) ∧ Hid (Kp No w wr) ∧ Hid (wr.heap[q]? = some (.cells (ofC (ofK st.of ((L.map RecR.r).take k))).toArray 131 (0, 0))) ∧ Hid (mayG st.mm st.mc st.of (L.map RecR.r) = mayG st.mm st.mc (ofK st.of ((L.map RecR.r).take k)) ((L.map RecR.r).drop k))) (fun i _ => n - (intOf i).toNat)
    case atStart => exact ⟨0, Nat.zero_le _, rfl, HK7, HB7, HMG⟩
    case round =>
     clear HMG HB7 HK7
     obtain ⟨j, hj, rfl, HK, HB, HMG⟩ := hrel
     rcases Nat.lt_or_ge j n with hlt | hge
     ·have hjL : j < L.length := by have := HN.out; omega
      obtain ⟨g, off, rfl, hgl, hgr⟩ := rec_range HL.out.1 hjL
      have hxk : (L.map RecR.r)[j]? = some L[j].r := by rw [List.getElem?_map, List.getElem?_eq_getElem hjL]; rfl
      have hxi := HALL.out.1 L[j] (List.getElem_mem hjL)
      have hofb := (HOF.out.upto ((L.map RecR.r).take j) fun r hr => HALL.out.2 r (List.mem_of_mem_take hr))
      have hst : ofK st.of ((L.map RecR.r).take (j + 1)) = doneR (ofK st.of ((L.map RecR.r).take j)) L[j].r := by
       rw [List.take_succ_eq_append_getElem (by rw [List.length_map]; exact hjL), ofK_snoc, List.getElem_map]
      have hmg := mayG_at _ j _ hxk HMG.out
      obtain ⟨x, hx⟩ : ∃ x, x = L[j] := ⟨_, rfl⟩
      obtain ⟨OF, hOF⟩ : ∃ OF, OF = ofK st.of ((L.map RecR.r).take j) := ⟨_, rfl⟩
      rw [← hOF] at hofb hst hmg HB
      rw [← hx] at hgr hst hxi hmg
      rw [hst] at hmg
      obtain ⟨hv, e1, e2, e3, _⟩ := isR_iff.1 hxi
      obtain ⟨_, o1, o2, _⟩ := isV_iff.1 hv
      obtain ⟨oN, hoN⟩ : ∃ oN : Nat, x.r.o = (oN : Int) := ⟨x.r.o.toNat, by omega⟩
      have hoL : oN < 5 := by omega
      have hoT : x.r.o.toNat = oN := by omega
      have hrc : recC x = [.int .i64 (oN : Int), .int .i64 x.r.seq, .string x.r.key, .int .i64 x.r.v.m, .int .i64 x.r.v.c, .int .i64 x.r.v.o, x.sl, .bool x.r.v.gone, .int .i64 x.r.v.ttl] := by unfold recC; rw [hoN]
      rw [hrc] at hgr
      have R1 := Lib.hid (hgr wr HK.out)
      have hg3 := HK.out.lt hgl
      obtain ⟨w8, hw8⟩ : ∃ W, W = wr.alloc (.cells #[.int .i64 (oN : Int), .int .i64 x.r.seq, .string x.r.key, .int .i64 x.r.v.m, .int .i64 x.r.v.c, .int .i64 x.r.v.o, x.sl, .bool x.r.v.gone, .int .i64 x.r.v.ttl] 46) := ⟨_, rfl⟩
      have k8 : Kp No wr w8 := by rw [hw8]; exact (Kp.refl _ _).alloc _
      have b8 : w8.heap[wr.heap.size]? = some (.cells #[.int .i64 (oN : Int), .int .i64 x.r.seq, .string x.r.key, .int .i64 x.r.v.m, .int .i64 x.r.v.c, .int .i64 x.r.v.o, x.sl, .bool x.r.v.gone, .int .i64 x.r.v.ttl] 46 (0, 0)) := by rw [hw8]; exact heap_alloc_new wr _
      obtain ⟨p, hpq⟩ : ∃ p, p = wr.heap.size := ⟨_, rfl⟩
      rw [← hpq] at b8
      have hp8 := get_lt b8
      have hq8 := get_lt (k8.get HB.out fun x => x)
      have c0 : w8.cell? ⟨p, 0, none⟩ = some (.int .i64 (oN : Int)) := cell_at b8 0
      have HW8 := Lib.hid hw8
      have HK8 := Lib.hid (HK.out.trans_same k8)
      have HB8 := Lib.hid (And.intro b8 (k8.get HB.out fun x => x))
      have HST := Lib.hid (And.intro hst (And.intro hmg (And.intro hofb (And.intro hoT hxi))))
      have HPQ := Lib.hid (show w.heap.size ≤ p from by rw [hpq]; exact HK.out.size)
      have hsq := hofb.low oN
      have hseq0 : 0 ≤ x.r.seq ∧ x.r.seq ≤ 1099511627776 := ⟨by omega, e3⟩
      clear hgr hst hmg k8 b8 hw8 hx hOF hgl hjL hxk hxi hofb hv e1 e2 e3 o1 o2 hoN hoT hrc HMG HB
      go_upto_region 13 with (first
       | (refine wpList_load_w rfl 46 _ rfl g (off + j * 9) rfl _ _ R1 Tryz.underlying46 rfl (by kernel_rfl) ?_)
       | (refine wpList_store_w rfl 46 _ _ rfl wr.heap.size (by rfl) _ _ _ rfl rfl (by kernel_rfl) (by rfl) (by rfl) ?_))
      rw [← HW8.out, ← hpq]
      clear hpq
      go_upto_region 14 with fail
      obtain ⟨sq, hsqe⟩ : ∃ sq, sq = (ofAt OF oN).seq := ⟨_, rfl⟩
      obtain ⟨m0, hm0⟩ : ∃ m0, m0 = (ofAt OF oN).m := ⟨_, rfl⟩
      obtain ⟨c00, hc00⟩ : ∃ c0, c0 = (ofAt OF oN).c := ⟨_, rfl⟩
      have hg3' := ofC_get OF hoL
      rw [← hsqe] at hsq
      rw [← hsqe, ← hm0, ← hc00] at hg3'
      have fp1 : ∀ W, Kp No w8 W → W.cell? ⟨p, 1, none⟩ = some (.int .i64 x.r.seq) := fun W hW => cell_at (hW.get HB8.out.1 fun x => x) 1
      have fq0 : ∀ W, Kp No w8 W → W.cell? ⟨q, oN * 3, none⟩ = some (.int .i64 sq) := fun W hW => by
       rw [cell_at (hW.get HB8.out.2 fun x => x)]
       simpa using hg3'.1
      have RP := Lib.hid (show ∀ W, Kp No w8 W → W.rangeAt p 3 [.int .i64 x.r.v.m, .int .i64 x.r.v.c] from fun W hW => by have := rangeAt_block (hW.get HB8.out.1 fun x => x) 3 2; exact this)
      have RQ := Lib.hid (show ∀ W, Kp No w8 W → W.rangeAt q (oN * 3 + 1) [.int .i64 m0, .int .i64 c00] from fun W hW => by
       intro jj v hj
       rw [cell_at (hW.get HB8.out.2 fun x => x)]
       match jj, hj with
       | 0, hj => injection hj with hj; subst hj; simpa using hg3'.2.1
       | 1, hj => injection hj with hj; subst hj; simpa using hg3'.2.2)
      have RS := Lib.hid (show ∀ W, Kp No w8 W → W.rangeAt s 8 [.int .i64 st.mm, .int .i64 st.mc] from fun W hW => by have := rangeAt_block ((H.out.keep_no (HK8.out.trans_same hW)).cell) 8 2; exact this)
      obtain ⟨s1, hs1⟩ : ∃ s1, s1 = sq + 1 := ⟨_, rfl⟩
      have hws : wrap64 (sq + 1) = s1 := by rw [IntWalk.wrap64_in _ (by omega), hs1]
      have hws' : IntKind.i64.wrap (sq + 1) = s1 := (IntWalk.i64_in _ (by omega)).trans hs1.symm
      have hs8 := HK8.out.lt hsl
      obtain ⟨z1, hz1⟩ : ∃ z, z = cmpH x.r.v.m x.r.v.c m0 c00 := ⟨_, rfl⟩
      obtain ⟨z2, hz2⟩ : ∃ z, z = cmpH x.r.v.m x.r.v.c st.mm st.mc := ⟨_, rfl⟩
      have hcm1 := fun W => Compare_any x.r.v.m x.r.v.c m0 c00 W
      have hcm2 := fun W => Compare_any x.r.v.m x.r.v.c st.mm st.mc W
      rw [← hz1] at hcm1
      rw [← hz2] at hcm2
      have HCM := Lib.hid (And.intro hcm1 hcm2)
      have hstep : stepOk st.mm st.mc OF x.r = (decide (x.r.seq = s1) && (decide (0 < z1) && decide (0 < z2))) := by
       rw [step_parts, HST.out.2.2.2.1, ← hsqe, ← hs1, ← hm0, ← hc00]
       congr 1
       congr 1
       ·rw [Bool.eq_iff_iff, decide_eq_true_iff, hz1, (cmpH_st _ _ _ _).2.2]
       ·rw [Bool.eq_iff_iff, decide_eq_true_iff, hz2, (cmpH_st _ _ _ _).2.2]
      have HSTEP := Lib.hid hstep
      have HNO := Lib.hid (show stepOk st.mm st.mc OF x.r = false → mayS st (L.map RecR.r) = 12 from fun hf => by
       rw [HVAL.out, HST.out.2.1, hf]
       rfl)
      clear hsqe hm0 hc00 hg3' hs1 hz1 hz2 hcm1 hcm2 hstep c0 hseq0
      by_cases q1 : x.r.seq = s1
      ·have e1 : (x.r.seq == s1) = true := by rw [beq_iff_eq]; exact q1
       have e2 : (x.r.seq != s1) = false := by rw [bne, e1]; rfl
       have HQ1 := Lib.hid q1
       clear q1
       rcases Int.lt_or_le 0 z1 with q2 | q2
       ·have e3 : decide (z1 ≤ 0) = false := decide_eq_false (by omega)
        have HQ2 := Lib.hid q2
        clear q2
        rcases Int.lt_or_le 0 z2 with q3 | q3
        ·have e4 : decide (z2 ≤ 0) = false := decide_eq_false (by omega)
         have HQ3 := Lib.hid q3
         clear q3
         refine wp_region_held' (Kp No _) [0,0,0,0,0,0,0,0,0,0,0,0,0,0,0,0,2,0,0,0,0,0,0,0,0,0,0,2,0,0] [0,1,2,3,4,5,6,7,8,9,10,11,12,13,14,15,16,17,18,19,20,21,22,23,24,25,26,27,28,29] (by kernel_rfl) (by kernel_rfl) (fun _ n h => h.drewN n) (Kp.refl _ _) ?_
         repeat (first
          | (apply wpOrd_skip rfl (by decide) rfl; (focus (go_simp; rfl)))
          | (apply wpOrd_pure rfl rfl rfl; (focus (intro _ _; go_simp; (try go_ints); rfl)); (focus (go_simp; rfl)))
          | (apply wpOrd_read rfl rfl rfl; (focus (intro _; go_simp; (try go_ints); rfl)); (focus (go_simp; rfl))))
         apply wpOrd_pure rfl rfl rfl
         ·intro W hW
          exact exec_load_w 25 _ rfl p 3 rfl [.int .i64 x.r.v.m, .int .i64 x.r.v.c] _ (RP.out W hW) Tryz.underlying25 rfl (by kernel_rfl)
         ·(focus (go_simp; rfl))
         repeat (first
          | (apply wpOrd_skip rfl (by decide) rfl; (focus (go_simp; rfl)))
          | (apply wpOrd_pure rfl rfl rfl; (focus (intro _ _; go_simp; (try go_ints); rfl)); (focus (go_simp; rfl)))
          | (apply wpOrd_read rfl rfl rfl; (focus (intro _; go_simp; (try go_ints); rfl)); (focus (go_simp; rfl))))
         apply wpOrd_pure rfl rfl rfl
         ·intro W hW
          exact exec_load_w 25 _ rfl q (oN * 3 + 1) rfl [.int .i64 m0, .int .i64 c00] _ (RQ.out W hW) Tryz.underlying25 rfl (by kernel_rfl)
         ·(focus (go_simp; rfl))
         refine wpOrd_eff rfl rfl (fun n1 => ?_)
         go_wp2_with fail
         refine (HCM.out.1 _).mono ?_
         rintro e wa ⟨rfl, ka0⟩
         have ka : Kp No w8 wa := ka0.of_drewN
         clear ka0
         go_wp2_with fail
         (try refine ⟨ka, ?_⟩)
         repeat (first
          | (apply wpOrd_skip rfl (by decide) rfl; (focus (go_simp; rfl)))
          | (apply wpOrd_pure rfl rfl rfl; (focus (intro _ _; go_simp; (try go_ints); rfl)); (focus (go_simp; rfl)))
          | (apply wpOrd_read rfl rfl rfl; (focus (intro _; go_simp; (try go_ints); rfl)); (focus (go_simp; rfl))))
         apply wpOrd_pure rfl rfl rfl
         ·intro W hW
          exact exec_load_w 25 _ rfl p 3 rfl [.int .i64 x.r.v.m, .int .i64 x.r.v.c] _ (RP.out W hW) Tryz.underlying25 rfl (by kernel_rfl)
         ·(focus (go_simp; rfl))
         repeat (first
          | (apply wpOrd_skip rfl (by decide) rfl; (focus (go_simp; rfl)))
          | (apply wpOrd_pure rfl rfl rfl; (focus (intro _ _; go_simp; (try go_ints); rfl)); (focus (go_simp; rfl)))
          | (apply wpOrd_read rfl rfl rfl; (focus (intro _; go_simp; (try go_ints); rfl)); (focus (go_simp; rfl))))
         apply wpOrd_pure rfl rfl rfl
         ·intro W hW
          exact exec_load_w 25 _ rfl s 8 rfl [.int .i64 st.mm, .int .i64 st.mc] _ (RS.out W hW) Tryz.underlying25 rfl (by kernel_rfl)
         ·(focus (go_simp; rfl))
         refine wpOrd_eff rfl rfl (fun n2 => ?_)
         go_wp2_with fail
         refine (HCM.out.2 _).mono ?_
         rintro e wb ⟨rfl, kb0⟩
         have kb : Kp No w8 wb := ka.trans_same kb0.of_drewN
         clear kb0 ka
         go_wp2_with fail
         (try refine ⟨kb, ?_⟩)
         repeat (first
          | (apply wpOrd_skip rfl (by decide) rfl; (focus (go_simp; rfl)))
          | (apply wpOrd_pure rfl rfl rfl; (focus (intro _ _; go_simp; (try go_ints); rfl)); (focus (go_simp; rfl)))
          | (apply wpOrd_read rfl rfl rfl; (focus (intro _; go_simp; (try go_ints); rfl)); (focus (go_simp; rfl))))
         refine wpOrd_nil (fun nq => ?_)
         obtain ⟨wd, hwd⟩ : ∃ W, W = wb.drewN nq := ⟨_, rfl⟩
         have kd : Kp No w8 wd := by rw [hwd]; exact kb.drewN nq
         have bp := kd.get HB8.out.1 fun x => x
         have bq := kd.get HB8.out.2 fun x => x
         have c1 : wd.cell? ⟨p, 1, none⟩ = some (.int .i64 x.r.seq) := cell_at bp 1
         have c3 : wd.cell? ⟨p, 3, none⟩ = some (.int .i64 x.r.v.m) := cell_at bp 3
         have c4 : wd.cell? ⟨p, 4, none⟩ = some (.int .i64 x.r.v.c) := cell_at bp 4
         have hpd := get_lt bp
         have hqd := get_lt bq
         have HKD := Lib.hid (HK8.out.trans_same kd)
         have HBQ := Lib.hid bq
         rw [← hwd]
         have hT := HST.out.2.2.2.1
         have hset := ofC_set OF HST.out.2.2.1.five hoL ⟨x.r.seq, x.r.v.m, x.r.v.c⟩
         have hnew : doneR OF x.r = OF.set oN ⟨x.r.seq, x.r.v.m, x.r.v.c⟩ := by unfold doneR; rw [hT]
         have h9 := set_at (set_at (set_at bq (oN * 3) (.int .i64 x.r.seq)) (oN * 3 + 1) (.int .i64 x.r.v.m)) (oN * 3 + 2) (.int .i64 x.r.v.c)
         have HB9 := Lib.hid (show (((wd.setCell ⟨q, oN * 3, none⟩ (.int .i64 x.r.seq)).setCell ⟨q, oN * 3 + 1, none⟩ (.int .i64 x.r.v.m)).setCell ⟨q, oN * 3 + 2, none⟩ (.int .i64 x.r.v.c)).heap[q]? = some (.cells (ofC (ofK st.of ((L.map RecR.r).take (j + 1)))).toArray 131 (0, 0)) from by
          rw [h9, HST.out.1, hnew, ← hset]
          simp)
         have HK9 := Lib.hid (show Kp No w (((wd.setCell ⟨q, oN * 3, none⟩ (.int .i64 x.r.seq)).setCell ⟨q, oN * 3 + 1, none⟩ (.int .i64 x.r.v.m)).setCell ⟨q, oN * 3 + 2, none⟩ (.int .i64 x.r.v.c)) from
          ((HKD.out.setCell (p := ⟨q, oN * 3, none⟩) (.inr HQ.out) _).setCell (p := ⟨q, oN * 3 + 1, none⟩) (.inr HQ.out) _).setCell (p := ⟨q, oN * 3 + 2, none⟩) (.inr HQ.out) _)
         have HMG9 := Lib.hid (show mayG st.mm st.mc st.of (L.map RecR.r) = mayG st.mm st.mc (ofK st.of ((L.map RecR.r).take (j + 1))) ((L.map RecR.r).drop (j + 1)) from by
          rw [HST.out.2.1, HSTEP.out, decide_eq_true HQ1.out, decide_eq_true HQ2.out, decide_eq_true HQ3.out, HST.out.1]
          rfl)
         have f0 := free_at bq (oN * 3)
         have f1 := free_at bq (oN * 3 + 1)
         have f2 := free_at bq (oN * 3 + 2)
         have g3 := ofC_get OF hoL
         have g0 : wd.cell? ⟨q, oN * 3, none⟩ = some (.int .i64 (ofAt OF oN).seq) := by rw [cell_at bq]; simpa using g3.1
         have g1 : wd.cell? ⟨q, oN * 3 + 1, none⟩ = some (.int .i64 (ofAt OF oN).m) := by rw [cell_at bq]; simpa using g3.2.1
         have g2 : wd.cell? ⟨q, oN * 3 + 2, none⟩ = some (.int .i64 (ofAt OF oN).c) := by rw [cell_at bq]; simpa using g3.2.2
         clear hwd kb kd bp bq fp1 fq0 hT hset hnew h9 g3
         go_wp2_with fail
         go_roundw
         case rel => exact ⟨j + 1, hlt, by go_num, HK9, HB9, HMG9⟩
         case measure => simp [intOf]; omega
        ·have e4 : decide (z2 ≤ 0) = true := decide_eq_true q3
         have HF := Lib.hid (HNO.out (by rw [HSTEP.out, decide_eq_false (show ¬ 0 < z2 by omega)]; simp))
         clear q3
         refine wp_region_held' (Kp No _) [0,0,0,0,0,0,0,0,0,0,0,0,0,0,0,0,2,0,0,0,0,0,0,0,0,0,0,2,0,0] [0,1,2,3,4,5,6,7,8,9,10,11,12,13,14,15,16,17,18,19,20,21,22,23,24,25,26,27,28,29] (by kernel_rfl) (by kernel_rfl) (fun _ n h => h.drewN n) (Kp.refl _ _) ?_
         repeat (first
          | (apply wpOrd_skip rfl (by decide) rfl; (focus (go_simp; rfl)))
          | (apply wpOrd_pure rfl rfl rfl; (focus (intro _ _; go_simp; (try go_ints); rfl)); (focus (go_simp; rfl)))
          | (apply wpOrd_read rfl rfl rfl; (focus (intro _; go_simp; (try go_ints); rfl)); (focus (go_simp; rfl))))
         apply wpOrd_pure rfl rfl rfl
         ·intro W hW
          exact exec_load_w 25 _ rfl p 3 rfl [.int .i64 x.r.v.m, .int .i64 x.r.v.c] _ (RP.out W hW) Tryz.underlying25 rfl (by kernel_rfl)
         ·(focus (go_simp; rfl))
         repeat (first
          | (apply wpOrd_skip rfl (by decide) rfl; (focus (go_simp; rfl)))
          | (apply wpOrd_pure rfl rfl rfl; (focus (intro _ _; go_simp; (try go_ints); rfl)); (focus (go_simp; rfl)))
          | (apply wpOrd_read rfl rfl rfl; (focus (intro _; go_simp; (try go_ints); rfl)); (focus (go_simp; rfl))))
         apply wpOrd_pure rfl rfl rfl
         ·intro W hW
          exact exec_load_w 25 _ rfl q (oN * 3 + 1) rfl [.int .i64 m0, .int .i64 c00] _ (RQ.out W hW) Tryz.underlying25 rfl (by kernel_rfl)
         ·(focus (go_simp; rfl))
         refine wpOrd_eff rfl rfl (fun n1 => ?_)
         go_wp2_with fail
         refine (HCM.out.1 _).mono ?_
         rintro e wa ⟨rfl, ka0⟩
         have ka : Kp No w8 wa := ka0.of_drewN
         clear ka0
         go_wp2_with fail
         (try refine ⟨ka, ?_⟩)
         repeat (first
          | (apply wpOrd_skip rfl (by decide) rfl; (focus (go_simp; rfl)))
          | (apply wpOrd_pure rfl rfl rfl; (focus (intro _ _; go_simp; (try go_ints); rfl)); (focus (go_simp; rfl)))
          | (apply wpOrd_read rfl rfl rfl; (focus (intro _; go_simp; (try go_ints); rfl)); (focus (go_simp; rfl))))
         apply wpOrd_pure rfl rfl rfl
         ·intro W hW
          exact exec_load_w 25 _ rfl p 3 rfl [.int .i64 x.r.v.m, .int .i64 x.r.v.c] _ (RP.out W hW) Tryz.underlying25 rfl (by kernel_rfl)
         ·(focus (go_simp; rfl))
         repeat (first
          | (apply wpOrd_skip rfl (by decide) rfl; (focus (go_simp; rfl)))
          | (apply wpOrd_pure rfl rfl rfl; (focus (intro _ _; go_simp; (try go_ints); rfl)); (focus (go_simp; rfl)))
          | (apply wpOrd_read rfl rfl rfl; (focus (intro _; go_simp; (try go_ints); rfl)); (focus (go_simp; rfl))))
         apply wpOrd_pure rfl rfl rfl
         ·intro W hW
          exact exec_load_w 25 _ rfl s 8 rfl [.int .i64 st.mm, .int .i64 st.mc] _ (RS.out W hW) Tryz.underlying25 rfl (by kernel_rfl)
         ·(focus (go_simp; rfl))
         refine wpOrd_eff rfl rfl (fun n2 => ?_)
         go_wp2_with fail
         refine (HCM.out.2 _).mono ?_
         rintro e wb ⟨rfl, kb0⟩
         have kb : Kp No w8 wb := ka.trans_same kb0.of_drewN
         clear kb0 ka
         go_wp2_with fail
         (try refine ⟨kb, ?_⟩)
         repeat (first
          | (apply wpOrd_skip rfl (by decide) rfl; (focus (go_simp; rfl)))
          | (apply wpOrd_pure rfl rfl rfl; (focus (intro _ _; go_simp; (try go_ints); rfl)); (focus (go_simp; rfl)))
          | (apply wpOrd_read rfl rfl rfl; (focus (intro _; go_simp; (try go_ints); rfl)); (focus (go_simp; rfl))))
         refine wpOrd_nil (fun nq => ?_)
         have HKD := Lib.hid ((HK8.out.trans_same kb).drewN nq)
         clear kb fp1 fq0
         go_wp2_with fail
         go_ret
         exact ⟨by rw [HF.out]; rfl, HKD.out⟩
       ·have e3 : decide (z1 ≤ 0) = true := decide_eq_true q2
        have HF := Lib.hid (HNO.out (by rw [HSTEP.out, decide_eq_false (show ¬ 0 < z1 by omega)]; simp))
        clear q2
        refine wp_region_held' (Kp No _) [0,0,0,0,0,0,0,0,0,0,0,0,0,0,0,0,2,0,0,0,0,0,0,0,0,0,0,2,0,0] [0,1,2,3,4,5,6,7,8,9,10,11,12,13,14,15,16,17,18,19,20,21,22,23,24,25,26,27,28,29] (by kernel_rfl) (by kernel_rfl) (fun _ n h => h.drewN n) (Kp.refl _ _) ?_
        repeat (first
         | (apply wpOrd_skip rfl (by decide) rfl; (focus (go_simp; rfl)))
         | (apply wpOrd_pure rfl rfl rfl; (focus (intro _ _; go_simp; (try go_ints); rfl)); (focus (go_simp; rfl)))
         | (apply wpOrd_read rfl rfl rfl; (focus (intro _; go_simp; (try go_ints); rfl)); (focus (go_simp; rfl))))
        apply wpOrd_pure rfl rfl rfl
        ·intro W hW
         exact exec_load_w 25 _ rfl p 3 rfl [.int .i64 x.r.v.m, .int .i64 x.r.v.c] _ (RP.out W hW) Tryz.underlying25 rfl (by kernel_rfl)
        ·(focus (go_simp; rfl))
        repeat (first
         | (apply wpOrd_skip rfl (by decide) rfl; (focus (go_simp; rfl)))
         | (apply wpOrd_pure rfl rfl rfl; (focus (intro _ _; go_simp; (try go_ints); rfl)); (focus (go_simp; rfl)))
         | (apply wpOrd_read rfl rfl rfl; (focus (intro _; go_simp; (try go_ints); rfl)); (focus (go_simp; rfl))))
        apply wpOrd_pure rfl rfl rfl
        ·intro W hW
         exact exec_load_w 25 _ rfl q (oN * 3 + 1) rfl [.int .i64 m0, .int .i64 c00] _ (RQ.out W hW) Tryz.underlying25 rfl (by kernel_rfl)
        ·(focus (go_simp; rfl))
        refine wpOrd_eff rfl rfl (fun n1 => ?_)
        go_wp2_with fail
        refine (HCM.out.1 _).mono ?_
        rintro e wa ⟨rfl, ka0⟩
        have ka : Kp No w8 wa := ka0.of_drewN
        clear ka0
        go_wp2_with fail
        (try refine ⟨ka, ?_⟩)
        repeat (first
         | (apply wpOrd_skip rfl (by decide) rfl; (focus (go_simp; rfl)))
         | (apply wpOrd_pure rfl rfl rfl; (focus (intro _ _; go_simp; (try go_ints); rfl)); (focus (go_simp; rfl)))
         | (apply wpOrd_read rfl rfl rfl; (focus (intro _; go_simp; (try go_ints); rfl)); (focus (go_simp; rfl))))
        refine wpOrd_shutw rfl rfl (by rfl) rfl (fun n2 => ⟨ka.drewN n2, ?_⟩)
        repeat (first
         | (apply wpOrd_skip rfl (by decide) rfl; (focus (go_simp; rfl)))
         | (apply wpOrd_pure rfl rfl rfl; (focus (intro _ _; go_simp; (try go_ints); rfl)); (focus (go_simp; rfl)))
         | (apply wpOrd_read rfl rfl rfl; (focus (intro _; go_simp; (try go_ints); rfl)); (focus (go_simp; rfl))))
        refine wpOrd_nil (fun nq => ?_)
        have HKD := Lib.hid (((HK8.out.trans_same ka).drewN n2).drewN nq)
        clear ka fp1 fq0
        go_wp2_with fail
        go_ret
        exact ⟨by rw [HF.out]; rfl, HKD.out⟩
      ·have e1 : (x.r.seq == s1) = false := by rw [beq_eq_false_iff_ne]; exact q1
       have e2 : (x.r.seq != s1) = true := by rw [bne, e1]; rfl
       have HF := Lib.hid (HNO.out (by rw [HSTEP.out, decide_eq_false q1]; rfl))
       clear q1
       refine wp_region_held' (Kp No _) [0,0,0,0,0,0,0,0,0,0,0,0,0,0,0,0,2,0,0,0,0,0,0,0,0,0,0,2,0,0] [0,1,2,3,4,5,6,7,8,9,10,11,12,13,14,15,16,17,18,19,20,21,22,23,24,25,26,27,28,29] (by kernel_rfl) (by kernel_rfl) (fun _ n h => h.drewN n) (Kp.refl _ _) ?_
       repeat (first
        | (apply wpOrd_skip rfl (by decide) rfl; (focus (go_simp; rfl)))
        | (apply wpOrd_pure rfl rfl rfl; (focus (intro _ _; go_simp; (try go_ints); rfl)); (focus (go_simp; rfl)))
        | (apply wpOrd_read rfl rfl rfl; (focus (intro _; go_simp; (try go_ints); rfl)); (focus (go_simp; rfl))))
       refine wpOrd_shutw rfl rfl (by rfl) rfl (fun n1 => ⟨(Kp.refl _ _).drewN n1, ?_⟩)
       repeat (first
        | (apply wpOrd_skip rfl (by decide) rfl; (focus (go_simp; rfl)))
        | (apply wpOrd_pure rfl rfl rfl; (focus (intro _ _; go_simp; (try go_ints); rfl)); (focus (go_simp; rfl)))
        | (apply wpOrd_read rfl rfl rfl; (focus (intro _; go_simp; (try go_ints); rfl)); (focus (go_simp; rfl))))
       refine wpOrd_shutw rfl rfl (by rfl) rfl (fun n2 => ⟨((Kp.refl No _).drewN n1).drewN n2, ?_⟩)
       repeat (first
        | (apply wpOrd_skip rfl (by decide) rfl; (focus (go_simp; rfl)))
        | (apply wpOrd_pure rfl rfl rfl; (focus (intro _ _; go_simp; (try go_ints); rfl)); (focus (go_simp; rfl)))
        | (apply wpOrd_read rfl rfl rfl; (focus (intro _; go_simp; (try go_ints); rfl)); (focus (go_simp; rfl))))
       refine wpOrd_nil (fun nq => ?_)
       have HKD := Lib.hid (((HK8.out.drewN n1).drewN n2).drewN nq)
       clear fp1 fq0
       go_wp2_with fail
       go_ret
       exact ⟨by rw [HF.out]; rfl, HKD.out⟩
     ·have hjn : j = n := by omega
      have HF := Lib.hid (show mayS st (L.map RecR.r) = 0 from by
       rw [HVAL.out, HMG.out, hjn, HN.out, List.drop_of_length_le (by rw [List.length_map]; exact Nat.le_refl _)]
       rfl)
      clear hjn
      go_wp2_with fail
      go_ret
      exact ⟨by rw [HF.out]; rfl, HK.out⟩
end Go.Proofs.YtgnkmjeoaoongaaGreatDoor

