/-
  Texts laid together: SXOpn0, SXOpn, RD3, SStart.
-/
import Derived.Test.YtgnkmjeoaoongaaGreatDoorSc9
import Derived.Test.YtgnkmjeoaoongaaGreatDoorSb5
import Derived.Test.YtgnkmjeoaoongaaGreatDoorSb6
import Derived.Test.YtgnkmjeoaoongaaGreatDoorSa9
import Derived.Test.YtgnkmjeoaoongaaGreatDoorSb4
import Derived.Test.YtgnkmjeoaoongaaGreatDoorSa3
namespace Go.Proofs.YtgnkmjeoaoongaaGreatDoor
open Go.RowKit Go.Mer
theorem xnames_none {w : World} {r : Nat} {ds : DSt} {F : Nat → Prop} (hD : RAt w r ds F) (hds : ds.files = []) :
  Calls Tryz.prog 171 #[.pointer (some ⟨r, 0, none⟩)] w fun e w' => ∃ a c, e = .returned (.slice a 0 c) ∧ Kp No w w' := by
 refine (rNames_any w r ds F hD).mono ?_
 rintro e w' ⟨N, a, c, rfl, _, hp, _, hk⟩
 rw [hds, List.map_nil] at hp
 obtain rfl := hp.eq_nil
 exact ⟨a, c, rfl, hk⟩
theorem sxlog0 {w : World} {x r : Nat} {P : ByteArray} (h : w.heap[x]? = some (.cells #[.pointer (some ⟨r, 0, none⟩), .string P, .slice none 0 0, .slice none 0 0, .int .i64 1, .bool false] 190 (0, 0))) : RLogAt w x r P st0 (Mer.One x) :=
 ⟨.slice none 0 0, .slice none 0 0, [], ⟨h, Own.nil _ _ _, Own.nil _ _ _, fun _ h => (by cases h)⟩, rfl, (fun k hk => by
  rcases hk with h | h | h | ⟨_, h, _⟩
  ·exact h
  ·cases h
  ·cases h
  ·cases h), (fun k hk => by
  rw [show k = x from hk]
  exact get_lt h)⟩
set_option maxRecDepth 100000 in
set_option maxHeartbeats 4000000 in
theorem xopen_none {w : World} {r : Nat} {P : ByteArray} {ds : DSt} {F : Nat → Prop} (hD : RAt w r ds F) (hds : ds.files = []) (hP2 : P.size ≤ 20) :
  Calls Tryz.prog 107 #[.pointer (some ⟨r, 0, none⟩), .string (logN P 0)] w fun e w' => ∃ x F' G', e = .returned (.tuple #[.pointer (some ⟨x, 0, none⟩), .int .i64 0]) ∧ XAt w' r x (logN P 0) ds st0 F' G' ∧ Foot F F' w ∧ (∀ k, G' k → w.heap.size ≤ k) ∧ Kp F w w' := by
 have hsz := logN_size P
 obtain ⟨Q, hQ⟩ : ∃ Q, Q = logN P 0 := ⟨_, rfl⟩
 rw [← hQ] at hsz ⊢
 have e1 : decide ((Q.size : Int) < 1) = false := by rw [decide_eq_false_iff_not]; omega
 have e2 : decide ((50 : Int) < (Q.size : Int)) = false := by rw [decide_eq_false_iff_not]; omega
 have HD := Lib.hid hD
 have HDS := Lib.hid hds
 obtain ⟨W1, hW1⟩ : ∃ W, W = w.alloc (.cells #[.pointer (some ⟨r, 0, none⟩), .string Q, .slice none 0 0, .slice none 0 0, .int .i64 0, .bool false] 190) := ⟨_, rfl⟩
 have k1 : Kp No w W1 := by rw [hW1]; exact (Kp.refl _ _).alloc _
 obtain ⟨x, hx⟩ : ∃ x, x = w.heap.size := ⟨_, rfl⟩
 have b1 : W1.heap[x]? = some (.cells #[.pointer (some ⟨r, 0, none⟩), .string Q, .slice none 0 0, .slice none 0 0, .int .i64 0, .bool false] 190 (0, 0)) := by rw [hW1, hx]; exact heap_alloc_new w _
 have H1 := Lib.hid (And.intro k1 b1)
 have HW := Lib.hid hW1
 have HX := Lib.hid hx
 clear hD hds hQ hsz hP2 k1 b1 hW1 hx
 go_enter Tryz.func107, Tryz.ntmps107
 go_upto_region 4 with fail
 rw [← HX.out, ← HW.out]
 go_wp2_with fail
 refine (xnames_none (HD.out.keep_no H1.out.1) HDS.out).mono ?_
 rintro e w2 ⟨na, nc, rfl, k2⟩
 have H2 := Lib.hid (And.intro (H1.out.1.trans_same k2) (k2.get H1.out.2 fun x => x))
 clear k2
 go_wp2_with fail
 go_loop [7, 9] (fun a z => a = .slice none 0 0 ∧ z = .int .i64 0) (fun _ _ => 0)
 case atStart => exact ⟨rfl, rfl⟩
 case round =>
  obtain ⟨rfl, rfl⟩ := hrel
  go_wp2_with fail
  go_loop [11] (fun z => z = .int .i64 0) (fun _ => 0)
  case atStart => rfl
  case round =>
   obtain rfl := hrel
   have c3 : w2.cell? ⟨x, 3, none⟩ = some (.slice none 0 0) := cell_at H2.out.2 3
   have c2 : w2.cell? ⟨x, 2, none⟩ = some (.slice none 0 0) := cell_at H2.out.2 2
   have c4 : w2.cell? ⟨x, 4, none⟩ = some (.int .i64 0) := cell_at H2.out.2 4
   have f4 := free_at H2.out.2 4
   have hl := get_lt H2.out.2
   go_wp2_with fail
   go_loop [21] (fun z => z = .int .i64 0) (fun _ => 0)
   case atStart => rfl
   case round =>
    obtain rfl := hrel
    go_wp2_with fail
    obtain ⟨w3, hw3⟩ : ∃ W, W = w2.setCell ⟨x, 4, none⟩ (.int .i64 1) := ⟨_, rfl⟩
    have k3 : Kp (Mer.One x) w2 w3 := by rw [hw3]; exact (Kp.refl (Mer.One x) w2).setCell (p := ⟨x, 4, none⟩) (.inl (show Mer.One x x from rfl)) _
    have b3 := set_at H2.out.2 4 (.int .i64 1)
    rw [← hw3] at b3 ⊢
    go_ret2
    have hFw := HD.out.lt
    have hx := HX.out
    have k03 : Kp No w w3 := H2.out.1.trans k3 fun i hi e => by
     have e : i = x := e
     omega
    refine ⟨x, rfl, F, Mer.One x, ⟨HD.out.keep_no k03, sxlog0 b3, fun k hf e => ?_⟩, fun _ h => .inl h, fun k e => ?_, Kp.of_no k03⟩
    ·have := hFw k hf
     have e : k = x := e
     omega
    ·have e : k = x := e
     omega
end Go.Proofs.YtgnkmjeoaoongaaGreatDoor
namespace Go.Proofs.YtgnkmjeoaoongaaGreatDoor
open Go.RowKit Go.Mer
theorem xlogged_any (P : ByteArray) (hP : P.size ≤ 1000) (n : Nat) (hn : n < 1000000) (w : World) :
  Calls Tryz.prog 106 #[.string P, .int .i64 (n : Int)] w fun e w' => e = .returned (.string (logN P n)) ∧ Kp No w w' := by
 have hd := rDec_any n hn w
 obtain ⟨D, hD⟩ : ∃ D : ByteArray, D = ⟨(Lib.decDigits n).toArray⟩ := ⟨_, rfl⟩
 rw [← hD] at hd
 have hDs : D.size ≤ 7 := by
  have := dec_len n (Nat.le_of_lt hn)
  rw [hD]
  show (Lib.decDigits n).toArray.size ≤ 7
  simpa using this
 have HL := Lib.hid (show (P ++ D) ++ (⟨#[46]⟩ : ByteArray) = logN P n from by
  rw [hD]
  apply ByteArray.ext
  unfold logN
  simp [ByteArray.data_append])
 have HC := Lib.hid hd
 clear hd hD
 go_enter Tryz.func106, Tryz.ntmps106
 go_wp2_with fail
 refine HC.out.mono ?_
 rintro e w1 ⟨rfl, k1⟩
 have HK := Lib.hid k1
 clear k1
 go_wp2_with fail
 go_ret
 exact ⟨congrArg (fun s => Ending.returned (.string s)) HL.out, HK.out⟩
theorem xnumber_none {w : World} {r : Nat} {s : DSt} {F : Nat → Prop} (hD : RAt w r s F) (name : ByteArray) (hn : gget s.files name = none) :
  Calls Tryz.prog 104 #[.pointer (some ⟨r, 0, none⟩), .string name] w fun e w' => e = .returned (.tuple #[.int .i64 0, .int .i64 0]) ∧ Kp No w w' := by
 have hr := rRead_any w r s F hD name
 have h2 : rdS s.files name = ([], 7) := by unfold rdS; rw [hn]
 unfold RReadPost at hr
 rw [h2] at hr
 have HR := Lib.hid hr
 clear hr hD hn h2
 go_enter Tryz.func104, Tryz.ntmps104
 go_wp2_with fail
 refine HR.out.mono ?_
 rintro e w1 ⟨v, rfl, _, k1, _⟩
 have HK := Lib.hid k1
 clear k1
 go_wp2_with fail
 go_ret2
 exact ⟨rfl, HK.out⟩
theorem xclear_none {w : World} {r : Nat} {s : DSt} {F : Nat → Prop} (hD : RAt w r s F) (hds : s.files = []) (A B C : ByteArray) :
  Calls Tryz.prog 105 #[.pointer (some ⟨r, 0, none⟩), .string A, .string B, .string C] w fun e w' => e = .returned (.int .i64 0) ∧ Kp No w w' := by
 have hr := rNames_any w r s F hD
 have HR := Lib.hid hr
 have HDS := Lib.hid hds
 clear hr hD hds
 go_enter Tryz.func105, Tryz.ntmps105
 go_wp2_with fail
 refine HR.out.mono ?_
 rintro e w1 ⟨N, a, c, rfl, _, hp, _, k1⟩
 have hp := hp
 rw [HDS.out, List.map_nil] at hp
 obtain rfl := hp.eq_nil
 have HK := Lib.hid k1
 clear k1 hp
 simp only [List.length_nil]
 go_wp2_with fail
 go_loop [10] (fun z => z = .int .i64 0) (fun _ => 0)
 case atStart => rfl
 case round =>
  obtain rfl := hrel
  go_wp2_with fail
  go_ret
  exact ⟨rfl, HK.out⟩
theorem opn_stx {w : World} {x r y o : Nat} {P : ByteArray} (hs : w.heap[x]? = some (.cells #[.pointer (some ⟨r, 0, none⟩), .string P, .int .i64 (o : Int), .pointer (some ⟨y, 0, none⟩), .int .i64 0, .slice none 0 0, .int .i64 0, .int .i64 0,
  .int .i64 0, .int .i64 0, .int .i64 0, .int .i64 0, .int .i64 0, .int .i64 0, .int .i64 0, .int .i64 0, .int .i64 0, .int .i64 0, .int .i64 0, .int .i64 0, .int .i64 0, .int .i64 0, .int .i64 0, .slice none 0 0, .int .i64 0, .bool false] 64 (0, 0))) : StX w x r y P o empS none 0 [] none 0 [] :=
 ⟨hs, Own.nil _ _ _, ⟨fun p hp => absurd hp List.not_mem_nil, List.nodup_nil, List.nodup_nil, List.nodup_nil⟩, ⟨Own.nil _ _ _, fun x hx => absurd hx List.not_mem_nil⟩, rfl, rfl⟩
theorem opn_stxf {x k : Nat} (h : StXF x none 0 [] none 0 [] k) : k = x := by
 rcases h with h | h | ⟨p, hp, _⟩ | h | ⟨x, hx, _⟩
 ·exact h
 ·simp [Value.ownBlock] at h
 ·exact absurd hp List.not_mem_nil
 ·simp [Value.ownBlock] at h
 ·exact absurd hx List.not_mem_nil
set_option maxRecDepth 100000 in
set_option maxHeartbeats 4000000 in
theorem x16Open_empty (w : World) (r : Nat) (P : ByteArray) (o : Nat) (ds : DSt) (F : Nat → Prop) (hD : RAt w r ds F) (hds : ds.files = []) (hP1 : 1 ≤ P.size) (hP2 : P.size ≤ 20) (hroom : ds.room ≤ 4194304) (ho : o < 5) :
  Calls Tryz.prog 51 #[.pointer (some ⟨r, 0, none⟩), .string P, .int .i64 (o : Int)] w fun e w' => ∃ x y F' G', e = .returned (.tuple #[.pointer (some ⟨x, 0, none⟩), .int .i64 0]) ∧ StXW w' x r y P (logN P 0) o empS none 0 [] none 0 [] ds st0 F' G' ∧
   Foot F F' w ∧ (∀ k, G' k → w.heap.size ≤ k) ∧ w.heap.size ≤ x ∧ Kp F w w' := by
 have e1 : decide ((P.size : Int) < 1) = false := decide_eq_false (by omega)
 have e2 : decide (20 < (P.size : Int)) = false := decide_eq_false (by omega)
 have e3 : decide ((o : Int) < 0) = false := decide_eq_false (by omega)
 have e4 : decide (5 ≤ (o : Int)) = false := decide_eq_false (by omega)
 have e1' : decide (P.size < 1) = false := decide_eq_false (by omega)
 have e2' : decide (20 < P.size) = false := decide_eq_false (by omega)
 have e4' : decide (5 ≤ o) = false := decide_eq_false (by omega)
 have HD := Lib.hid hD
 have HDS := Lib.hid hds
 have HRM := Lib.hid (And.intro hroom (And.intro hP1 (And.intro hP2 ho)))
 obtain ⟨W1, hW1⟩ : ∃ W, W = w.alloc (.cells #[.pointer (some ⟨r, 0, none⟩), .string P, .int .i64 (o : Int), .pointer none, .int .i64 0, .slice none 0 0, .int .i64 0, .int .i64 0,
  .int .i64 0, .int .i64 0, .int .i64 0, .int .i64 0, .int .i64 0, .int .i64 0, .int .i64 0, .int .i64 0, .int .i64 0, .int .i64 0, .int .i64 0, .int .i64 0, .int .i64 0, .int .i64 0, .int .i64 0, .slice none 0 0, .int .i64 0, .bool false] 64) := ⟨_, rfl⟩
 have k1 : Kp No w W1 := by rw [hW1]; exact (Kp.refl _ _).alloc _
 obtain ⟨x, hx⟩ : ∃ x, x = w.heap.size := ⟨_, rfl⟩
 have b1 : W1.heap[x]? = some (.cells #[.pointer (some ⟨r, 0, none⟩), .string P, .int .i64 (o : Int), .pointer none, .int .i64 0, .slice none 0 0, .int .i64 0, .int .i64 0,
  .int .i64 0, .int .i64 0, .int .i64 0, .int .i64 0, .int .i64 0, .int .i64 0, .int .i64 0, .int .i64 0, .int .i64 0, .int .i64 0, .int .i64 0, .int .i64 0, .int .i64 0, .int .i64 0, .int .i64 0, .slice none 0 0, .int .i64 0, .bool false] 64 (0, 0)) := by rw [hW1, hx]; exact heap_alloc_new w _
 have HX := Lib.hid hx
 have H1 := Lib.hid (And.intro k1 b1)
 have HW := Lib.hid hW1
 clear hD hds hroom k1 b1 hW1
 go_enter Tryz.func51, Tryz.ntmps51
 go_upto_region 4 with fail
 rw [← hx, ← HW.out]
 clear hx
 go_wp2_with fail
 refine (xnumber_none (HD.out.keep_no H1.out.1) _ (by rw [HDS.out]; rfl)).mono ?_
 rintro e w2 ⟨rfl, k2⟩
 have H2 := Lib.hid (And.intro (H1.out.1.trans_same k2) (k2.get H1.out.2 fun x => x))
 have f4 := free_at H2.out.2 4
 have c4 : w2.cell? ⟨x, 4, none⟩ = some (.int .i64 0) := cell_at H2.out.2 4
 have l2 := get_lt H2.out.2
 clear k2
 go_upto_region 8 with fail
 obtain ⟨w3, hw3⟩ : ∃ W, W = w2.setCell ⟨x, 4, none⟩ (.int .i64 0) := ⟨_, rfl⟩
 have k3 : Kp (Mer.One x) w2 w3 := by rw [hw3]; exact (Kp.refl (Mer.One x) w2).setCell (p := ⟨x, 4, none⟩) (.inl (show Mer.One x x from rfl)) _
 have b3 := set_at H2.out.2 4 (.int .i64 0)
 rw [← hw3] at b3 ⊢
 have k03 : Kp No w w3 := H2.out.1.trans k3 fun i hi e => by
  have := HX.out
  have e : i = x := e
  omega
 have H3 := Lib.hid (And.intro k03 b3)
 clear f4 c4 l2 hw3 k3 b3 k03
 go_wp2_with fail
 refine (xlogged_any P (by have := HRM.out.2.2.1; omega) 0 (by decide) _).mono ?_
 rintro e w4 ⟨rfl, k4⟩
 have H4 := Lib.hid (And.intro (H3.out.1.trans_same k4) (k4.get H3.out.2 fun x => x))
 clear k4
 obtain ⟨Q, hQ⟩ : ∃ Q, Q = logN P 0 := ⟨_, rfl⟩
 rw [← hQ]
 have HQ := Lib.hid hQ
 clear hQ
 go_wp2_with fail
 refine (xclear_none (HD.out.keep_no H4.out.1) HDS.out _ _ _).mono ?_
 rintro e w5 ⟨rfl, k5⟩
 have H5 := Lib.hid (And.intro (H4.out.1.trans_same k5) (k5.get H4.out.2 fun x => x))
 clear k5
 go_wp2_with fail
 refine (xlogged_any P (by have := HRM.out.2.2.1; omega) 0 (by decide) _).mono ?_
 rintro e w6 ⟨rfl, k6⟩
 have H6 := Lib.hid (And.intro (H5.out.1.trans_same k6) (k6.get H5.out.2 fun x => x))
 clear k6
 rw [← HQ.out]
 have hop := xopen_none (P := P) (HD.out.keep_no H6.out.1) HDS.out HRM.out.2.2.1
 rw [← HQ.out] at hop
 have HOP := Lib.hid hop
 clear hop
 go_wp2_with fail
 refine HOP.out.mono ?_
 rintro e w7 ⟨y, F1, G1, rfl, hX7, hF7, hG7, k7⟩
 have hFx : ¬ F x := fun hf => by
  have := HD.out.lt x hf
  have := HX.out
  omega
 have b7 := k7.get H6.out.2 hFx
 have H7 := Lib.hid (And.intro hX7 (And.intro hF7 (And.intro hG7 k7)))
 have HB7 := Lib.hid b7
 have f7 := free_at b7 3
 have c7 : w7.cell? ⟨x, 3, none⟩ = some (.pointer none) := cell_at b7 3
 have l7 := get_lt b7
 clear hX7 hF7 hG7 k7 b7 HOP
 go_upto_region 12 with fail
 obtain ⟨w8, hw8⟩ : ∃ W, W = w7.setCell ⟨x, 3, none⟩ (.pointer (some ⟨y, 0, none⟩)) := ⟨_, rfl⟩
 have k8 : Kp (Mer.One x) w7 w8 := by rw [hw8]; exact (Kp.refl (Mer.One x) w7).setCell (p := ⟨x, 3, none⟩) (.inl (show Mer.One x x from rfl)) _
 have b8 : w8.heap[x]? = some (.cells #[.pointer (some ⟨r, 0, none⟩), .string P, .int .i64 (o : Int), .pointer (some ⟨y, 0, none⟩), .int .i64 0, .slice none 0 0, .int .i64 0, .int .i64 0,
  .int .i64 0, .int .i64 0, .int .i64 0, .int .i64 0, .int .i64 0, .int .i64 0, .int .i64 0, .int .i64 0, .int .i64 0, .int .i64 0, .int .i64 0, .int .i64 0, .int .i64 0, .int .i64 0, .int .i64 0, .slice none 0 0, .int .i64 0, .bool false] 64 (0, 0)) := by
  rw [hw8]
  exact set_at HB7.out 3 (.pointer (some ⟨y, 0, none⟩))
 rw [← hw8]
 have hxF : ∀ k, F1 k → k ≠ x := fun k hk e => by
  rcases H7.out.2.1 k hk with h1 | h1
  ·exact hFx (e ▸ h1)
  ·have := get_lt H6.out.2
   omega
 have hxG : ∀ k, G1 k → k ≠ x := fun k hk e => by
  have h1 := H7.out.2.2.1 k hk
  have := get_lt H6.out.2
  omega
 have hX8 : XAt w8 r y Q ds st0 F1 G1 := ⟨H7.out.1.disk.keep k8 fun k hk e => hxF k hk e, H7.out.1.log.keep k8 fun k hk e => hxG k hk e, H7.out.1.sep⟩
 obtain ⟨sv, ev, E, hRL, hE, _⟩ := hX8.log
 have hE0 : E = [] := List.eq_nil_of_map_eq_nil (show E.map Row.data = [] from hE.symm)
 subst hE0
 obtain ⟨_, ea, ec, rfl, _⟩ := hRL.ents
 have cy := hRL.cells.2.2.1 w8 (Kp.refl _ _)
 have ly := get_lt hRL.cell
 have cx : w8.cell? ⟨x, 3, none⟩ = some (.pointer (some ⟨y, 0, none⟩)) := cell_at b8 3
 have lx := get_lt b8
 have hH : ∃ x y F' G', Ending.returned (.tuple #[.pointer (some ⟨x, 0, none⟩), .int .i64 0]) = .returned (.tuple #[.pointer (some ⟨x, 0, none⟩), .int .i64 0]) := ⟨x, y, F1, G1, rfl⟩
 have HF := Lib.hid (show StXW w8 x r y P (logN P 0) o empS none 0 [] none 0 [] ds st0 F1 G1 ∧ Foot F F1 w ∧ (∀ k, G1 k → w.heap.size ≤ k) ∧ w.heap.size ≤ x ∧ Kp F w w8 from by
  refine ⟨⟨opn_stx b8, HQ.out ▸ hX8, fun i hi hf => hxF i hf (opn_stxf hi), fun i hi hf => hxG i hf (opn_stxf hi)⟩, fun k hk => ?_, fun k hk => ?_, Nat.le_of_eq HX.out.symm, ?_⟩
  ·rcases H7.out.2.1 k hk with h1 | h1
   ·exact .inl h1
   ·have := H6.out.1.size
    exact .inr (by omega)
  ·have h1 := H7.out.2.2.1 k hk
   have := H6.out.1.size
   omega
  ·refine ((Kp.of_no H6.out.1).trans_same H7.out.2.2.2).trans k8 fun i hi e => ?_
   have := HX.out
   have e : i = x := e
   omega)
 clear hH f7 c7 l7 hw8 k8 b8 hX8 hRL hE hxF hxG
 go_wp2_with fail
 go_loop [11] (fun z => z = .int .i64 0) (fun _ => 0)
 case atStart => rfl
 case round =>
  obtain rfl := hrel
  go_wp2_with fail
  go_ret2
  exact ⟨x, rfl, y, F1, G1, HF.out⟩
end Go.Proofs.YtgnkmjeoaoongaaGreatDoor
namespace Go.Proofs.YtgnkmjeoaoongaaGreatDoor
open Go.RowKit Go.Mer
set_option maxHeartbeats 400000 in
theorem rNew_any (room : Nat) (w : World) (hhi : room ≤ 1073741824) :
  Calls Tryz.prog 50 #[.int .i64 (room : Int)] w fun e w' => ∃ r, e = .returned (.tuple #[.pointer (some ⟨r, 0, none⟩), .int .i64 0]) ∧ Kp No w w' ∧ ∃ G, RAt w' r ⟨room, none, []⟩ G ∧ ∀ k, G k → w.heap.size ≤ k := by
 go_enter Tryz.func50, Tryz.ntmps50
 go_wp2_with fail
 go_ret2
 refine ⟨_, rfl, (Kp.refl _ _).alloc _, fun k => k = w.heap.size, ⟨.slice none 0 0, [], ⟨heap_alloc_new w _, by simpa using Own.nil _ 170 3, by simp, List.Pairwise.nil, by simp [absR, totF], hhi, by simp, by simp [leftOf], by simp [leftOf]⟩, List.Perm.refl _, ?_, ?_⟩, ?_⟩
 ·rintro k (rfl | hk | ⟨f, hf, _⟩)
  ·rfl
  ·cases hk
  ·cases hf
 ·rintro k rfl
  simp
 ·rintro k rfl
  exact Nat.le_refl _
end Go.Proofs.YtgnkmjeoaoongaaGreatDoor
namespace Go.Proofs.YtgnkmjeoaoongaaGreatDoor
open Go.RowKit Go.Mer
def SAt (w : World) (s d : Nat) (P : ByteArray) (o : Nat) (st : SSt) (ds : DSt) (lg : LSt) (B : Nat) (H : Nat → Prop) : Prop :=
 ∃ l m cs ka kc K F G, StW w s d l P (logN P st.age) o st m cs ka kc K ds lg F G ∧ (∀ p ∈ cs, p.2.R.length ≤ B) ∧ K.length ≤ B ∧ (∀ k, StF s m cs ka kc K k ∨ F k ∨ G k → H k) ∧ ∀ k, H k → k < w.heap.size
def SXt (w : World) (x r : Nat) (P : ByteArray) (o : Nat) (st : SSt) (ds : DSt) (lg : LSt) (B : Nat) (H : Nat → Prop) : Prop :=
 ∃ y la lc cs ka kc K F G, StXW w x r y P (logN P st.age) o st la lc cs ka kc K ds lg F G ∧ (∀ p ∈ cs, p.2.R.length ≤ B) ∧ K.length ≤ B ∧ (∀ k, StXF x la lc cs ka kc K k ∨ F k ∨ G k → H k) ∧ ∀ k, H k → k < w.heap.size
theorem StW.keepS {w w' : World} {s d l o m : Nat} {P Q : ByteArray} {st : SSt} {cs : ChL} {ka : Option Addr} {kc : Nat} {K : List RecR} {ds : DSt} {lg : LSt} {F G S : Nat → Prop} (h : StW w s d l P Q o st m cs ka kc K ds lg F G) (hk : Kp S w w') (hS : ∀ k, StF s m cs ka kc K k ∨ F k ∨ G k → ¬ S k) : StW w' s d l P Q o st m cs ka kc K ds lg F G :=
 ⟨h.st.keep hk fun k hf => hS k (.inl hf), h.at_.keepS hk (fun k hf => hS k (.inr (.inl hf))) (fun k hf => hS k (.inr (.inr hf))), h.sF, h.sG⟩
theorem StXW.keepS {w w' : World} {x r y o : Nat} {P Q : ByteArray} {st : SSt} {la ka : Option Addr} {lc kc : Nat} {cs : ChL} {K : List RecR} {ds : DSt} {lg : LSt} {F G S : Nat → Prop} (h : StXW w x r y P Q o st la lc cs ka kc K ds lg F G) (hk : Kp S w w') (hS : ∀ k, StXF x la lc cs ka kc K k ∨ F k ∨ G k → ¬ S k) : StXW w' x r y P Q o st la lc cs ka kc K ds lg F G :=
 ⟨h.st.keep hk fun k hf => hS k (.inl hf), ⟨h.at_.disk.keep hk fun k hf => hS k (.inr (.inl hf)), h.at_.log.keep hk fun k hf => hS k (.inr (.inr hf)), h.at_.sep⟩, h.sF, h.sG⟩
theorem SAt.keep {w w' : World} {s d o B : Nat} {P : ByteArray} {st : SSt} {ds : DSt} {lg : LSt} {H S : Nat → Prop} (h : SAt w s d P o st ds lg B H) (hk : Kp S w w') (hS : ∀ k, H k → ¬ S k) : SAt w' s d P o st ds lg B H := by
 obtain ⟨l, m, cs, ka, kc, K, F, G, h1, h2, h3, h4, h5⟩ := h
 exact ⟨l, m, cs, ka, kc, K, F, G, h1.keepS hk (fun k hf => hS k (h4 k hf)), h2, h3, h4, fun k hf => hk.lt (h5 k hf)⟩
theorem SXt.keep {w w' : World} {x r o B : Nat} {P : ByteArray} {st : SSt} {ds : DSt} {lg : LSt} {H S : Nat → Prop} (h : SXt w x r P o st ds lg B H) (hk : Kp S w w') (hS : ∀ k, H k → ¬ S k) : SXt w' x r P o st ds lg B H := by
 obtain ⟨y, la, lc, cs, ka, kc, K, F, G, h1, h2, h3, h4, h5⟩ := h
 exact ⟨y, la, lc, cs, ka, kc, K, F, G, h1.keepS hk (fun k hf => hS k (h4 k hf)), h2, h3, h4, fun k hf => hk.lt (h5 k hf)⟩
theorem SAt.lt {w : World} {s d o B : Nat} {P : ByteArray} {st : SSt} {ds : DSt} {lg : LSt} {H : Nat → Prop} (h : SAt w s d P o st ds lg B H) : ∀ k, H k → k < w.heap.size := by
 obtain ⟨_, _, _, _, _, _, _, _, _, _, _, _, h⟩ := h
 exact h
theorem SXt.lt {w : World} {s d o B : Nat} {P : ByteArray} {st : SSt} {ds : DSt} {lg : LSt} {H : Nat → Prop} (h : SXt w s d P o st ds lg B H) : ∀ k, H k → k < w.heap.size := by
 obtain ⟨_, _, _, _, _, _, _, _, _, _, _, _, _, h⟩ := h
 exact h
structure PairAt (w0 w : World) (p d s r x : Nat) (P : ByteArray) (o : Nat) (st : SSt) (ds : DSt) (lg : LSt) (st' : SSt) (ds' : DSt) (lg' : LSt) (B : Nat) (H1 H2 : Nat → Prop) : Prop where
 cell : w.heap[p]? = some (.cells #[ptrN d, ptrN s, ptrN r, ptrN x] 39 (0, 0))
 prog : SAt w s d P o st ds lg B H1
 ref : SXt w x r P o st' ds' lg' B H2
 sep : ∀ k, H1 k → ¬ H2 k
 p1 : ¬ H1 p
 p2 : ¬ H2 p
 new : w0.heap.size ≤ p ∧ (∀ k, H1 k → w0.heap.size ≤ k) ∧ ∀ k, H2 k → w0.heap.size ≤ k
 kp : Kp No w0 w
theorem PairAt.no {w0 w w' : World} {p d s r x o B : Nat} {P : ByteArray} {st st' : SSt} {ds ds' : DSt} {lg lg' : LSt} {H1 H2 : Nat → Prop} (h : PairAt w0 w p d s r x P o st ds lg st' ds' lg' B H1 H2) (hk : Kp No w w') : PairAt w0 w' p d s r x P o st ds lg st' ds' lg' B H1 H2 :=
 ⟨hk.get h.cell fun x => x, h.prog.keep hk fun _ _ x => x, h.ref.keep hk fun _ _ x => x, h.sep, h.p1, h.p2, h.new, h.kp.trans_same hk⟩
theorem PairAt.at_ {w0 w w' : World} {p d s r x o B : Nat} {P : ByteArray} {st st' : SSt} {ds ds' : DSt} {lg lg' : LSt} {H1 H2 : Nat → Prop} (h : PairAt w0 w p d s r x P o st ds lg st' ds' lg' B H1 H2) (hk : Kp No w w') (i : Nat) : w'.cell? ⟨p, i, none⟩ = (#[ptrN d, ptrN s, ptrN r, ptrN x] : Array Value)[i]? := cell_at (hk.get h.cell fun x => x) i
set_option maxRecDepth 100000 in
set_option maxHeartbeats 4000000 in
theorem opens_empty (w0 w : World) (p d r : Nat) (ds : DSt) (F H : Nat → Prop) (hp : w.heap[p]? = some (.cells #[.pointer (some ⟨d, 0, none⟩), .pointer none, .pointer (some ⟨r, 0, none⟩), .pointer none] 39 (0, 0))) (hD : DiskAt w d ds F) (hR : RAt w r ds H) (hFH : ∀ k, F k → ¬ H k) (hFp : ¬ F p) (hHp : ¬ H p)
  (hds : ds.files = []) (hroom : ds.room ≤ 1048576) (hpow : Pow w) (hpF : ¬ F 0) (hk0 : Kp No w0 w) (hF0 : ∀ k, F k → w0.heap.size ≤ k) (hH0 : ∀ k, H k → w0.heap.size ≤ k) (hp0 : w0.heap.size ≤ p) :
  Calls Tryz.prog 43 #[.pointer (some ⟨p, 0, none⟩)] w fun e w' => e = .returned (.bool true) ∧ ∃ s x H1 H2, PairAt w0 w' p d s r x ⟨#[109]⟩ 0 empS ds st0 empS ds st0 0 H1 H2 := by
 have hop := sOpen_empty w d ⟨#[109]⟩ 0 ds F hD hds hpow hpF (by decide) (by decide) hroom (by decide)
 have c0 : w.cell? ⟨p, 0, none⟩ = some (.pointer (some ⟨d, 0, none⟩)) := cell_at hp 0
 have lp := get_lt hp
 have HOP := Lib.hid hop
 have HP := Lib.hid hp
 have HR := Lib.hid (And.intro hR (And.intro hds hroom))
 have HD := Lib.hid hD
 have HN := Lib.hid (And.intro hFH (And.intro hFp (And.intro hHp (And.intro hk0 (And.intro hF0 (And.intro hH0 hp0))))))
 clear hop hp hR hD hFH hFp hHp hk0 hF0 hH0 hp0 hds hroom hpow hpF
 go_enter Tryz.func43, Tryz.ntmps43
 go_wp2_with fail
 refine HOP.out.mono ?_
 rintro e w1 ⟨s, l, m, F1, G1, rfl, hS, hF1, hG1, hS1, k1⟩
 have b1 := k1.get HP.out HN.out.2.1
 have hR1 := HR.out.1.keep k1 fun k hk hf => HN.out.1 k hf hk
 have c2 : w1.cell? ⟨p, 2, none⟩ = some (.pointer (some ⟨r, 0, none⟩)) := cell_at b1 2
 have l1 := get_lt b1
 have hop := x16Open_empty w1 r ⟨#[109]⟩ 0 ds H hR1 HR.out.2.1 (by decide) (by decide) (by have := HR.out.2.2; omega) (by decide)
 have HOP2 := Lib.hid hop
 have H1 := Lib.hid (And.intro hS (And.intro hF1 (And.intro hG1 (And.intro hS1 k1))))
 have HB1 := Lib.hid b1
 have HR1 := Lib.hid hR1
 clear hS hF1 hG1 hS1 k1 b1 hR1 hop HOP c0 lp
 go_wp2_with fail
 refine HOP2.out.mono ?_
 rintro e w2 ⟨x, y, F2, G2, rfl, hX, hF2, hG2, hx2, k2⟩
 have b2 := k2.get HB1.out HN.out.2.2.1
 have f1 := free_at b2 1
 have f3 := free_at b2 3
 have d1 : w2.cell? ⟨p, 1, none⟩ = some (.pointer none) := cell_at b2 1
 have d3 : w2.cell? ⟨p, 3, none⟩ = some (.pointer none) := cell_at b2 3
 have l2 := get_lt b2
 have H2 := Lib.hid (And.intro hX (And.intro hF2 (And.intro hG2 (And.intro hx2 k2))))
 have HB2 := Lib.hid b2
 clear hX hF2 hG2 hx2 k2 b2 HOP2 c2 l1
 go_wp2_with fail
 obtain ⟨w3, hw3⟩ : ∃ W, W = (w2.setCell ⟨p, 1, none⟩ (.pointer (some ⟨s, 0, none⟩))).setCell ⟨p, 3, none⟩ (.pointer (some ⟨x, 0, none⟩)) := ⟨_, rfl⟩
 have k3 : Kp (Mer.One p) w2 w3 := by
  rw [hw3]
  exact ((Kp.refl (Mer.One p) w2).setCell (p := ⟨p, 1, none⟩) (.inl (show Mer.One p p from rfl)) _).setCell (p := ⟨p, 3, none⟩) (.inl (show Mer.One p p from rfl)) _
 have b3 : w3.heap[p]? = some (.cells #[ptrN d, ptrN s, ptrN r, ptrN x] 39 (0, 0)) := by
  rw [hw3, set_at (set_at HB2.out 1 _) 3 _]
  rfl
 rw [← hw3]
 clear hw3
 go_ret
 obtain ⟨hS, hF1, hG1, hS1, k1⟩ := H1.out
 obtain ⟨hX, hF2, hG2, hx2, k2⟩ := H2.out
 obtain ⟨hFH, hFp, hHp, hk0, hF0, hH0, hp0⟩ := HN.out
 have lp := get_lt HP.out
 have hFl := HD.out.lt
 have hHl := HR.out.1.lt
 have s1 := k1.size
 have s2 := k2.size
 have s0 := hk0.size
 have hHA : ∀ k, StF s m [] none 0 [] k ∨ F1 k ∨ G1 k → F k ∨ w.heap.size ≤ k := by
  rintro k (h | h | h)
  ·exact .inr (hS1 k h)
  ·exact hF1 k h
  ·exact .inr (hG1 k h)
 have hHB : ∀ k, StXF x none 0 [] none 0 [] k ∨ F2 k ∨ G2 k → H k ∨ w1.heap.size ≤ k := by
  rintro k (h | h | h)
  ·rw [opn_stxf h]
   exact .inr hx2
  ·exact hF2 k h
  ·exact .inr (hG2 k h)
 have hAl : ∀ k, StF s m [] none 0 [] k ∨ F1 k ∨ G1 k → k < w1.heap.size := by
  rintro k (h | h | h)
  ·exact hS.st.lt k h
  ·exact hS.at_.disk.lt k h
  ·exact hS.at_.log.lt k h
 have hBl : ∀ k, StXF x none 0 [] none 0 [] k ∨ F2 k ∨ G2 k → k < w2.heap.size := by
  rintro k (h | h | h)
  ·exact hX.st.lt k h
  ·exact hX.at_.disk.lt k h
  ·exact hX.at_.log.lt k h
 have hAH : ∀ k, StF s m [] none 0 [] k ∨ F1 k ∨ G1 k → ¬ H k := fun k hk hh => by
  rcases hHA k hk with h | h
  ·exact hFH k h hh
  ·have := hHl k hh
   omega
 have hAp : ¬ (StF s m [] none 0 [] p ∨ F1 p ∨ G1 p) := fun hh => by
  rcases hHA p hh with h | h
  ·exact hFp h
  ·omega
 have hBp : ¬ (StXF x none 0 [] none 0 [] p ∨ F2 p ∨ G2 p) := fun hh => by
  rcases hHB p hh with h | h
  ·exact hHp h
  ·omega
 refine ⟨rfl, s, x, _, _, ⟨b3, ⟨l, m, [], none, 0, [], F1, G1, (hS.keepS k2 hAH).keepS k3 (fun k hk e => hAp ((show k = p from e) ▸ hk)), fun _ h => absurd h List.not_mem_nil, Nat.le_refl _, fun _ h => h, fun k hk => k3.lt (k2.lt (hAl k hk))⟩,
  ⟨y, none, 0, [], none, 0, [], F2, G2, hX.keepS k3 (fun k hk e => hBp ((show k = p from e) ▸ hk)), fun _ h => absurd h List.not_mem_nil, Nat.le_refl _, fun _ h => h, fun k hk => k3.lt (hBl k hk)⟩, fun k hk hh => ?_, hAp, hBp, ⟨hp0, fun k hk => ?_, fun k hk => ?_⟩, ?_⟩⟩
 ·rcases hHB k hh with h | h
  ·exact hAH k hk h
  ·have := hAl k hk
   omega
 ·rcases hHA k hk with h | h
  ·exact hF0 k h
  ·omega
 ·rcases hHB k hk with h | h
  ·exact hH0 k h
  ·omega
 ·refine ((hk0.trans k1 fun i hi hf => ?_).trans k2 fun i hi hf => ?_).trans k3 fun i hi hf => ?_
  ·have := hF0 i hf
   omega
  ·have := hH0 i hf
   omega
  ·have hf : i = p := hf
   omega
set_option maxRecDepth 100000 in
set_option maxHeartbeats 4000000 in
theorem s16start_any (w : World) (room : Nat) (hpow : Pow w) (hroom : room ≤ 1048576) :
  Calls Tryz.prog 15 #[.int .i64 (room : Int)] w fun e w' => ∃ p d s r x H1 H2, e = .returned (.tuple #[.pointer (some ⟨p, 0, none⟩), .bool true]) ∧ PairAt w w' p d s r x ⟨#[109]⟩ 0 empS ⟨room, none, []⟩ st0 empS ⟨room, none, []⟩ st0 0 H1 H2 := by
 have HPW := Lib.hid hpow
 go_enter Tryz.func15, Tryz.ntmps15
 go_wp2_with fail
 refine (new_any room w (by omega)).mono ?_
 rintro e w1 ⟨rfl, hk1, F, hD1, hF1⟩
 have H1 := Lib.hid (And.intro hk1 (And.intro hD1 hF1))
 obtain ⟨d, hd⟩ : ∃ d, d = w.heap.size + 1 := ⟨_, rfl⟩
 rw [← hd] at H1 ⊢
 clear hk1 hD1 hF1 hd hpow
 go_wp2_with fail
 refine (rNew_any room w1 (by omega)).mono ?_
 rintro e w2 ⟨r, rfl, hk2, H, hR2, hH2⟩
 obtain ⟨W3, hW3⟩ : ∃ V, V = w2.alloc (.cells #[.pointer (some ⟨d, 0, none⟩), .pointer none, .pointer (some ⟨r, 0, none⟩), .pointer none] 39) := ⟨_, rfl⟩
 have k3 : Kp No w2 W3 := by rw [hW3]; exact (Kp.refl _ _).alloc _
 have hq3 : W3.heap[w2.heap.size]? = some (.cells #[.pointer (some ⟨d, 0, none⟩), .pointer none, .pointer (some ⟨r, 0, none⟩), .pointer none] 39 (0, 0)) := by rw [hW3]; exact heap_alloc_new w2 _
 have hFl := H1.out.2.1.lt
 have hHl := hR2.lt
 have s1 := H1.out.1.size
 have s2 := hk2.size
 have k03 := (H1.out.1.trans_same hk2).trans_same k3
 have hop := opens_empty w W3 w2.heap.size d r ⟨room, none, []⟩ F H hq3 ((H1.out.2.1.keep_no hk2).keep_no k3) (hR2.keep_no k3) (fun k hf hh => by have := hFl k hf; have := hH2 k hh; omega) (fun hf => by have := hFl _ hf; omega) (fun hf => by have := hHl _ hf; omega) rfl hroom (HPW.out.keep k03)
  (fun hf => by have := H1.out.2.2 _ hf; have := HPW.out.lt; omega) k03 H1.out.2.2 (fun k hk => by have := hH2 k hk; omega) (by omega)
 have HOP := Lib.hid hop
 obtain ⟨p, hp⟩ : ∃ p, p = w2.heap.size := ⟨_, rfl⟩
 rw [← hp] at HOP
 clear hk2 hR2 hH2 hq3 hop k3 k03 hFl hHl s1 s2
 go_upto_region 8 with fail
 rw [← hW3, ← hp]
 clear hW3 hp
 go_wp2_with fail
 refine HOP.out.mono ?_
 rintro e w4 ⟨rfl, s, x, H1', H2', hP⟩
 have HF := Lib.hid hP
 clear hP
 go_wp2_with fail
 go_ret2
 exact ⟨p, d, s, r, x, H1', H2', rfl, HF.out⟩
end Go.Proofs.YtgnkmjeoaoongaaGreatDoor

