/-
  Texts laid together: WSteps, WPlays.
-/
import Derived.Test.YtdibkdgafidjgaaGreatDoorWc5
import Derived.Test.YtdibkdgafidjgaaGreatDoorWa7
import Derived.Test.YtdibkdgafidjgaaGreatDoorWa1
import Derived.Test.YtdibkdgafidjgaaGreatDoorProg
import Derived.WalkKit
import Derived.WalkSpells
import Derived.WalkLawsBesides
import Derived.Deep.CutRange
import Derived.Outline
import Derived.Test.YtdibkdgafidjgaaGreatDoorWd2
import Derived.Test.YtdibkdgafidjgaaGreatDoorWStoodM
import Derived.Test.YtdibkdgafidjgaaGreatDoorWc4
namespace Go.Mer
open Go Go.RowKit
structure StpR where
 kind : Int
 n : Int
 ba : Option Addr
 bcap : Nat
 b : List UInt8
 tear : UInt8
def StpR.cells (x : StpR) : List Value := [.int .i64 x.kind, .int .i64 x.n, .slice x.ba x.b.length x.bcap, .int .u8 (x.tear.toNat : Int)]
theorem StpR.cells_len (x : StpR) : x.cells.length = 4 := rfl
def I64 (n : Int) : Prop := -9223372036854775808 ≤ n ∧ n ≤ 9223372036854775807
structure StpR.At (W : World) (x : StpR) : Prop where
 n : I64 x.n
 b : Rd W W.heap.size x.ba (u8s x.b)
 zb : x.b.length ≤ 140737488351232
theorem StpR.At.kp {W W' : World} {x : StpR} (h : x.At W) (hk : Kp No W W') : x.At W' := ⟨h.n, h.b.kp hk, h.zb⟩
def StpR.Li (x : StpR) : Prop := x.b.length ≤ 12000
structure StpsAt (W : World) (a : Option Addr) (L : List StpR) : Prop where
 top : Rd W W.heap.size a (L.flatMap StpR.cells)
 each : ∀ x ∈ L, x.At W
end Go.Mer
namespace Go.Proofs.YtdibkdgafidjgaaGreatDoor
open Go.RowKit Go.Mer
section
variable {W : World}
theorem c_int : Tryz.prog.cellsOf 3 = 1 := by kernel_rfl
theorem c_bytes : Tryz.prog.cellsOf 23 = 1 := by kernel_rfl
theorem c_byte : Tryz.prog.cellsOf 5 = 1 := by kernel_rfl
theorem b_byte : Tryz.prog.bytesOf 5 = 1 := by kernel_rfl
theorem c_stp : Tryz.prog.cellsOf 59 = 4 := by kernel_rfl
set_option maxRecDepth 100000 in
theorem good_stp {n : Nat} {cs : List Value} (h : Opn Tryz.prog W n 59 cs) : ∃ x : StpR, cs = x.cells ∧ x.At W := by
 obtain ⟨n, rfl, hl, hf⟩ := good_struct h Tryz.underlying59
 rw [c_stp] at hl
 match cs, hl with
 | [a0, a1, a4, a5], _ =>
  obtain ⟨x0, e0, h0⟩ := good_i64 (good_at hf 0 _ rfl c_int) Tryz.underlying3
  obtain ⟨x1, e1, h1⟩ := good_i64 (good_at hf 1 _ rfl c_int) Tryz.underlying3
  obtain ⟨a, cap, l, e4, h4, h4a, h4b⟩ := good_bytes (good_at hf 2 _ rfl c_bytes) Tryz.underlying23 Tryz.underlying5 c_byte b_byte
  obtain ⟨x5, e5, h5⟩ := good_int (good_at hf 3 _ rfl c_byte) Tryz.underlying5
  have f0 : [a0] = [.int .i64 x0] := e0
  have f1 : [a1] = [.int .i64 x1] := e1
  have f4 : [a4] = [.slice a l.length cap] := e4
  have f5 : [a5] = [.int .u8 x5] := e5
  injection f0 with f0
  injection f1 with f1
  injection f4 with f4
  injection f5 with f5
  subst f0; subst f1; subst f4; subst f5
  have h6 : u8 (toB x5) = .int .u8 x5 := u8_toB h5
  refine ⟨⟨x0, x1, a, cap, l, toB x5⟩, ?_, ⟨h1, h4, (by show l.length ≤ _; omega)⟩⟩
  show _ = [_, _, _, u8 (toB x5)]
  rw [h6]
set_option maxRecDepth 100000 in
theorem open_stps {n : Nat} {a : Option Addr} {len cap : Nat} (h : Opn Tryz.prog W n 56 [.slice a len cap]) :
  ∃ L : List StpR, L.length = len ∧ StpsAt W a L ∧ len ≤ cap ∧ cap ≤ 140737488351232 := by
 obtain ⟨n', _, _, _, rfl, _⟩ := good_slice h Tryz.underlying56
 obtain ⟨L, h1, h2, h3, h4, h5⟩ := open_list h Tryz.underlying56 c_stp (by decide) StpR.cells (fun x => x.At W) StpR.cells_len (fun cs hg => good_stp hg)
 have hb : Tryz.prog.bytesOf 59 = 48 := by kernel_rfl
 rw [hb] at h5
 exact ⟨L, h1, ⟨h2, h3⟩, h4, by omega⟩
end
def HvyP (w : World) (L : List StpR) (e : Ending) (w' : World) : Prop := ∃ b : Bool, e = .returned (.bool b) ∧ (b = false → ∀ x ∈ L.take 100, x.Li) ∧ Kp No w w'
set_option maxRecDepth 100000 in
set_option maxHeartbeats 2000000 in
theorem hvy_any (w : World) (a : Option Addr) (cap : Nat) (L : List StpR) (h : StpsAt w a L) (hl : L.length ≤ 140737488351232) :
  Calls Tryz.prog 25 #[.slice a L.length cap] w (HvyP w L) := by
 have HA := Lib.hid h
 clear h
 go_enter Tryz.func25, Tryz.ntmps25
 go_wp2_with fail
 rename World => w0
 go_loopw [3, 4] (fun s i wr => ∃ k N : Nat, k ≤ L.length ∧ k ≤ 100 ∧ N ≤ 12000 ∧ i = .int .i64 (k : Int) ∧ s = .int .i64 (N : Int) ∧ Hid (∀ x ∈ L.take k, x.Li) ∧ Hid (Kp No w0 wr)) (fun _ i _ => L.length - (intOf i).toNat)
 case atStart => exact ⟨0, 0, Nat.zero_le _, by omega, by omega, rfl, rfl, Lib.hid (by simp), Lib.hid (Kp.refl _ _)⟩
 case round =>
  obtain ⟨k, N, hk, hk120, hN, rfl, rfl, HLI, HKP⟩ := hrel
  by_cases hlt : k < L.length
  ·by_cases h120 : k < 100
   ·obtain ⟨g, off, rfl, l0⟩ := rd_chunk (f := StpR.cells) (c := 4) StpR.cells_len (by decide) HA.out.top hlt
    have HE := Lib.hid (List.take_succ_eq_append_getElem hlt)
    have hat := HA.out.each _ (List.getElem_mem hlt)
    obtain ⟨x, hx⟩ : ∃ x, x = L[k] := ⟨_, rfl⟩
    rw [← hx] at l0 hat HE
    obtain ⟨kind, n, ba, bcap, b, tear⟩ := x
    obtain ⟨_, _, z3⟩ := hat
    simp only at z3
    have t2 := l0 wr HKP.out 2 _ rfl
    have gl : g < wr.heap.size := World.block_lt_of_cell? wr _ t2
    obtain ⟨M, hM⟩ : ∃ M, M = N + 5 + b.length := ⟨_, rfl⟩
    have hM' : (N : Int) + 5 + (b.length : Int) = (M : Int) := by rw [hM]; push_cast; rfl
    have HM := Lib.hid hM
    have hMb : M ≤ 422212465061696 := by omega
    have HKP2 := HKP
    clear hx l0 hM
    rcases Nat.lt_or_ge 12000 M with hh | hh
    ·go_wp2_with fail
     go_ret
     exact ⟨true, rfl, (fun h => by cases h), HKP2.out⟩
    ·have HLI2 : Hid (∀ x ∈ L.take (k + 1), x.Li) := Lib.hid fun x hx => by
      rw [HE.out, List.mem_append, List.mem_singleton] at hx
      rcases hx with hx | rfl
      ·exact HLI.out x hx
      ·show b.length ≤ 12000
       have := HM.out
       omega
     go_wp2_with fail
     go_roundw
     case rel => exact ⟨k + 1, M, by omega, by omega, by omega, by go_num, by first | rfl | (go_num; omega), HLI2, HKP2⟩
     case measure => simp [intOf]; omega
   ·obtain rfl : k = 100 := by omega
    clear h120
    go_wp2_with fail
    go_ret
    exact ⟨false, rfl, (fun _ => HLI.out), HKP.out⟩
  ·obtain rfl : k = L.length := by omega
   clear hlt
   go_wp2_with fail
   go_ret
   exact ⟨false, rfl, (fun _ x hx => HLI.out x (by rw [List.take_length]; exact List.mem_of_mem_take hx)), HKP.out⟩
end Go.Proofs.YtdibkdgafidjgaaGreatDoor
namespace Go.Proofs.YtdibkdgafidjgaaGreatDoor
open Go.RowKit Go.Mer
def PairOk (w W : World) (p i : Nat) : Prop := ∃ d r l x s st Z, PL w W p d r l x kA s st s st Z ∧ Fit i kA s st ∧ (st.dead = false → Whole kA s st)
def NextP (w : World) (p i : Nat) (e : Ending) (w' : World) : Prop := e = .returned (.bool true) ∧ PairOk w w' p i
theorem DoesP.next {w W : World} {p d r l x i : Nat} {s : DSt} {st : LSt} {Z : Nat → Prop} {e : Ending} {w' : World} (h : DoesP w W p d r l x kA s st Z e w') (hf : Fit i kA s st) (hW : st.dead = false → Whole kA s st) : NextP w p i e w' := by
 obtain ⟨rfl, Z', h1, _⟩ := h
 exact ⟨rfl, d, r, l, x, s, st, Z', h1, hf, hW⟩
theorem Fit.same {k : Nat} {P : ByteArray} {s s' : DSt} {st : LSt} (h : Fit k P s st) (hf : s'.files = s.files) (hr : s'.room = s.room) : Fit k P s' st :=
 ⟨by rw [hr]; exact h.room, by rw [hf]; exact h.ok, h.hne, h.hsl, h.no, h.ents, h.segs, h.big⟩
theorem Whole.files {P : ByteArray} {s s' : DSt} {st : LSt} (h : Whole P s st) (hf : s'.files = s.files) : Whole P s' st := h.same (by rw [hf]; exact SameData.refl _) rfl rfl
theorem step_any (w W : World) (p d r l x i : Nat) (s : DSt) (st : LSt) (Z : Nat → Prop) (h : PL w W p d r l x kA s st s st Z) (hpow : Pow w) (hF : Fit i kA s st) (hi : i ≤ 100) (hW : st.dead = false → Whole kA s st)
  (q : StpR) (hq : q.At w) (hb : q.b.length ≤ 12000) (hd : st.dead = false ∨ q.kind = 3) :
  Calls Tryz.prog 26 #[.pointer (some ⟨p, 0, none⟩), .agg #[.int .i64 q.kind, .int .i64 q.n, .slice q.ba q.b.length q.bcap, .int .u8 (q.tear.toNat : Int)]] W (NextP w p (i + 1)) := by
 by_cases h3 : q.kind = 3
 ·rw [h3]
  refine (does3 w W p d r l x kA s st Z h hpow hF.ok hF.room q.n hq.n.1 hq.n.2 q.tear _).mono ?_
  rintro e w' ⟨rfl, l', x', s', st', Z', _, h2, h4, h5, _, _⟩
  exact ⟨rfl, d, r, l', x', s', st', Z', h5, (show Fit 0 kA s' st' from h4).mono (Nat.zero_le _), fun _ => h2.whole⟩
 have hd0 : st.dead = false := hd.resolve_right h3
 have hWh := hW hd0
 by_cases h1 : q.kind = 1
 ·rw [h1]
  refine (does1 w W p d r l x i kA s st Z h hpow (by decide) hF (by omega) hWh q.n _ q.ba q.bcap q.b (fun V hV => ?_) (by omega)).mono fun e w' hh => hh.next (fit_app hF (by omega) _) fun hdd => whole_app hWh hF (by omega) _ hd0 hdd
  exact hq.b.kp (h.kp.trans hV fun k hk hz => by have := (h.zn k hz).1; omega)
 by_cases h2 : q.kind = 2
 ·rw [h2]
  exact (does2 w W p d r l x i kA s st Z h (by decide) hF (by omega) q.n _ _).mono fun e w' hh => hh.next ((fit_snc hF).mono (Nat.le_succ _)) fun _ => whole_snc hWh
 by_cases h4 : q.kind = 4
 ·rw [h4]
  exact (does4 w W p d r l x kA s st Z h q.n hq.n.2 _ _).mono fun e w' hh => hh.next ((hF.same (s' := fuS s q.n) rfl rfl).mono (Nat.le_succ _)) fun _ => hWh.files (s' := fuS s q.n) rfl
 by_cases h6 : q.kind = 6
 ·rw [h6]
  refine (does6 w W p d r l x i kA s st Z h hpow hF (by omega) (by decide) q.n _ _).mono ?_
  rintro e w' ⟨rfl, ⟨s', Z', e1, e2, e3, _, _⟩ | ⟨l', x', s', st', Z', e1, _, e2, e3, _, _⟩⟩
  ·exact ⟨rfl, d, r, l, x, s', st, Z', e3, (hF.same e1 e2).mono (Nat.le_succ _), fun _ => hWh.files e1⟩
  ·exact ⟨rfl, d, r, l', x', s', st', Z', e3, (show Fit 0 kA s' st' from e1).mono (Nat.zero_le _), fun _ => e2⟩
 exact (does5 w W p d r l x kA s st Z h q.kind q.n _ _ (by simpa using h1) (by simpa using h2) (by simpa using h3) (by simpa using h4) (by simpa using h6)).mono fun e w' hh => hh.next (hF.mono (Nat.le_succ _)) fun _ => hWh
theorem xdead {w : World} {x r : Nat} {P : ByteArray} {st : LSt} {K : Nat → Prop} (h : RLogAt w x r P st K) : x < w.heap.size ∧ w.cell? ⟨x, 5, none⟩ = some (.bool st.dead) := by
 obtain ⟨sv, ev, E, hC, _, _, _⟩ := h
 refine ⟨get_lt hC.cell, ?_⟩
 rw [cell_at hC.cell]
 rfl
set_option maxRecDepth 100000 in
set_option maxHeartbeats 4000000 in
theorem wplays_any (w : World) (hpow : Pow w) (room : Int) (a : Option Addr) (cap : Nat) (L : List StpR) (h : StpsAt w a L) (hl : L.length ≤ 140737488351232) :
  Calls Tryz.prog 5 #[.int .i64 room, .slice a L.length cap] w fun e w' => e = .returned (.bool true) ∧ Kp No w w' := by
 have HA := Lib.hid h
 have HH := Lib.hid (hvy_any w a cap L h hl)
 have HPW := Lib.hid hpow
 clear h hpow
 go_enter Tryz.func5, Tryz.ntmps5
 go_wp2_with fail
 refine HH.out.mono ?_
 rintro e w1 ⟨hv, rfl, hlv, hk1⟩
 have HLV := Lib.hid hlv
 have HK1 := Lib.hid hk1
 have HKN := Lib.hid (wknown_any w1 (HPW.out.keepS hk1 fun x => x))
 clear hlv hk1 HH
 cases hv with
 | true =>
  go_wp2_with fail
  refine HKN.out.mono ?_
  rintro e w2 ⟨rfl, hk2⟩
  have HK2 := Lib.hid (HK1.out.trans_same hk2)
  clear hk2
  go_wp2_with fail
  go_ret
  exact ⟨rfl, HK2.out⟩
 | false =>
 have HLI := Lib.hid (HLV.out rfl)
 clear HLV
 rcases (show (decide (room < 0) = true) ∨ (decide (room < 0) = false ∧ decide ((1048576 : Int) < room) = true) ∨ (0 ≤ room ∧ room ≤ 1048576) by simp only [decide_eq_true_eq, decide_eq_false_iff_not]; omega) with hb | ⟨hb1, hb2⟩ | ⟨hb1, hb2⟩
 ·go_wp2_with fail
  refine HKN.out.mono ?_
  rintro e w2 ⟨rfl, hk2⟩
  have HK2 := Lib.hid (HK1.out.trans_same hk2)
  clear hk2
  go_wp2_with fail
  go_ret
  exact ⟨rfl, HK2.out⟩
 ·go_wp2_with fail
  refine HKN.out.mono ?_
  rintro e w2 ⟨rfl, hk2⟩
  have HK2 := Lib.hid (HK1.out.trans_same hk2)
  clear hk2
  go_wp2_with fail
  go_ret
  exact ⟨rfl, HK2.out⟩
 ·obtain ⟨R, rfl⟩ : ∃ R : Nat, room = (R : Int) := ⟨room.toNat, by omega⟩
  have hR : R ≤ 1048576 := by omega
  have HST := Lib.hid (start_any w1 R (HPW.out.keepS HK1.out fun x => x) hR)
  clear hb1 HKN
  go_wp2_with fail
  refine HST.out.mono ?_
  rintro e w2 ⟨p, d0, r0, l0, x0, Z0, rfl, hPL, hFit, hWh⟩
  have HP0 := Lib.hid (show PairOk w1 w2 p 0 from ⟨d0, r0, l0, x0, _, st0, Z0, hPL, hFit, fun _ => hWh⟩)
  clear hPL hFit hWh HST hb2 hR
  go_wp2_with fail
  go_loopw [7] (fun s7 wr => ∃ i : Nat, i ≤ L.length ∧ i ≤ 100 ∧ s7 = .int .i64 (i : Int) ∧ Hid (PairOk w1 wr p i)) (fun s7 _ => L.length - (intOf s7).toNat)
  case atStart => exact ⟨0, Nat.zero_le _, by omega, rfl, HP0⟩
  case round =>
   obtain ⟨i, hi, hi100, rfl, HP⟩ := hrel
   obtain ⟨d, r, l, x, s, st, Z, hPL, hFit, hWh⟩ := HP.out
   have HPL := Lib.hid hPL
   have HFW := Lib.hid (And.intro hFit hWh)
   have HKr := Lib.hid (HK1.out.trans_same hPL.kp)
   clear hPL hFit hWh
   by_cases hlt : i < L.length
   ·by_cases h100 : i < 100
    ·obtain ⟨g, off, rfl, l0⟩ := rd_chunk (f := StpR.cells) (c := 4) StpR.cells_len (by decide) HA.out.top hlt
     have hat := (HA.out.each _ (List.getElem_mem hlt))
     have hli := HLI.out _ (by
      have h1 : (L.take 100)[i]'(by rw [List.length_take]; omega) = L[i] := List.getElem_take
      rw [← h1]
      exact List.getElem_mem _ : L[i] ∈ L.take 100)
     obtain ⟨q, hq⟩ : ∃ q, q = L[i] := ⟨_, rfl⟩
     rw [← hq] at l0 hat hli
     have t0 := l0 _ HKr.out 0 _ rfl
     have t1 := l0 _ HKr.out 1 _ rfl
     have t2 := l0 _ HKr.out 2 _ rfl
     have t3 := l0 _ HKr.out 3 _ rfl
     rw [Nat.add_zero] at t0
     have gl : g < wr.heap.size := World.block_lt_of_cell? wr _ t0
     have HAT := Lib.hid (hat.kp HK1.out)
     have HLx := Lib.hid (show q.b.length ≤ 12000 from hli)
     obtain ⟨H, K, hXA, _, _, _⟩ := HPL.out.ref
     obtain ⟨hxl, hxd⟩ := xdead hXA.log
     obtain ⟨hpl, pc⟩ := HPL.out.cells No (fun x => x)
     have p3 := (pc wr (Kp.refl _ _)).2.2.2
     unfold ptrV at p3
     obtain ⟨dd, hdd⟩ : ∃ dd, dd = st.dead := ⟨_, rfl⟩
     rw [← hdd] at hxd
     have HDD := Lib.hid hdd
     clear l0 hat hli hq hXA pc hdd
     rcases (show (dd = true ∧ q.kind ≠ 3) ∨ (dd = false ∨ q.kind = 3) by cases dd <;> simp <;> omega) with ⟨hd1, hd2⟩ | hd1
     ·subst hd1
      have hb : (q.kind == 3) = false := by simpa using hd2
      have HP2 := Lib.hid (show PairOk w1 wr p (i + 1) from ⟨d, r, l, x, s, st, Z, HPL.out, HFW.out.1.mono (Nat.le_succ _), HFW.out.2⟩)
      clear hd2
      go_wp2_with fail
      go_roundw
      case rel => exact ⟨i + 1, by omega, by omega, by go_num, HP2⟩
      case measure => simp [intOf]; omega
     ·have HDO := Lib.hid (step_any w1 wr p d r l x i s st Z HPL.out (HPW.out.keepS HK1.out fun x => x) HFW.out.1 hi100 HFW.out.2 q HAT.out HLx.out (by rw [← HDD.out]; exact hd1))
      have hfin : ∀ (W : World), PairOk w1 W p (i + 1) → Calls Tryz.prog _ #[.pointer (some ⟨p, 0, none⟩)] W fun e w' => e = .returned (.bool true) ∧ PairOk w1 w' p (i + 1) := fun W hW => by
       obtain ⟨d, r, l, x, s, st, Z, h1, h2, h3⟩ := hW
       refine (stood_any w1 W p d r l x (i + 1) kA s st Z h1 h2 (by omega) (by decide)).mono ?_
       rintro e w' ⟨rfl, hk⟩
       exact ⟨rfl, d, r, l, x, s, st, Z, h1.no hk, h2, h3⟩
      have HST := Lib.hid hfin
      clear hfin
      rcases (show (dd = false) ∨ (dd = true ∧ q.kind = 3) by cases dd <;> simp_all) with hd2 | ⟨hd2, hd3⟩
      ·subst hd2
       clear hd1
       go_wp2_with fail
       refine HDO.out.mono ?_
       rintro e w4 ⟨rfl, hP4⟩
       have HC := Lib.hid (HST.out w4 hP4)
       clear hP4 HDO HST t0 t1 t2 t3 gl hxl hxd hpl p3
       go_wp2_with fail
       refine HC.out.mono ?_
       rintro e w5 ⟨rfl, hP5⟩
       have HP5 := Lib.hid hP5
       clear hP5 HC
       go_wp2_with fail
       go_roundw
       case rel => exact ⟨i + 1, by omega, by omega, by go_num, HP5⟩
       case measure => simp [intOf]; omega
      ·subst hd2
       clear hd1
       rw [hd3] at t0 HDO
       clear hd3
       go_wp2_with fail
       refine HDO.out.mono ?_
       rintro e w4 ⟨rfl, hP4⟩
       have HC := Lib.hid (HST.out w4 hP4)
       clear hP4 HDO HST t0 t1 t2 t3 gl hxl hxd hpl p3
       go_wp2_with fail
       refine HC.out.mono ?_
       rintro e w5 ⟨rfl, hP5⟩
       have HP5 := Lib.hid hP5
       clear hP5 HC
       go_wp2_with fail
       go_roundw
       case rel => exact ⟨i + 1, by omega, by omega, by go_num, HP5⟩
       case measure => simp [intOf]; omega
    ·obtain rfl : i = 100 := by omega
     have HKN := Lib.hid (wknown_any wr (HPW.out.keepS HKr.out fun x => x))
     clear h100
     go_wp2_with fail
     refine HKN.out.mono ?_
     rintro e w4 ⟨rfl, hk4⟩
     have HK4 := Lib.hid (HKr.out.trans_same hk4)
     clear hk4
     go_wp2_with fail
     go_ret
     exact ⟨rfl, HK4.out⟩
   ·obtain rfl : i = L.length := by omega
    have HKN := Lib.hid (wknown_any wr (HPW.out.keepS HKr.out fun x => x))
    clear hlt
    go_wp2_with fail
    refine HKN.out.mono ?_
    rintro e w4 ⟨rfl, hk4⟩
    have HK4 := Lib.hid (HKr.out.trans_same hk4)
    clear hk4
    go_wp2_with fail
    go_ret
    exact ⟨rfl, HK4.out⟩
end Go.Proofs.YtdibkdgafidjgaaGreatDoor

