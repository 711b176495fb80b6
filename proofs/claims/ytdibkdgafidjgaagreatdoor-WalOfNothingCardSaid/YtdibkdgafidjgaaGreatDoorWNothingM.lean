/-
  wal: a nil Log; the law WalOfNothing, walked: it answers true.
-/
import Derived.Test.YtdibkdgafidjgaaGreatDoorWc4
import Derived.Test.YtdibkdgafidjgaaGreatDoorWa6
import Derived.Deep.OwnRows
namespace Go.Proofs.YtdibkdgafidjgaaGreatDoor
open Go.RowKit Go.Mer
def zeroS (n : Nat) : ByteArray := ⟨(List.replicate n (0 : UInt8)).toArray⟩
theorem zeroS_size (n : Nat) : (zeroS n).size = n := by
 show (List.replicate n (0 : UInt8)).toArray.size = n
 simp
theorem make_zero (n : Nat) (hn : n ≤ 100) (w : World) : (Instr.makeSlice 23 (.int .i64 (n : Int)) (.int .i64 (n : Int))).run Tryz.prog w = .ok (.slice (some ⟨w.heap.size, 0, none⟩) n n) (w.alloc (.cells (madeCells #[.int .u8 0] n) 5)) :=
 run_make_row' 23 5 (.int .u8 0) 1 Tryz.underlying23 (by kernel_rfl) rfl .i64 .i64 n (by omega) (by omega) w
theorem made_get (n i : Nat) (h : i < n) : (madeCells #[.int .u8 0] n)[i]? = some (.int .u8 0) := by
 unfold madeCells
 rw [Array.getElem?_map, Array.getElem?_range, if_pos h]
 simp [Nat.mod_one]
theorem str_zero (n : Nat) (w : World) : (convert 23 9 (.slice (some ⟨w.heap.size, 0, none⟩) n n)).run Tryz.prog (w.alloc (.cells (madeCells #[.int .u8 0] n) 5)) = .ok (.string (zeroS n)) (w.alloc (.cells (madeCells #[.int .u8 0] n) 5)) := by
 have h := run_convert_bytes_back (P := Tryz.prog) (w.alloc (.cells (madeCells #[.int .u8 0] n) 5)) 23 9 5 ⟨w.heap.size, 0, none⟩ n (List.replicate n 0) Tryz.underlying23 Tryz.underlying5 Tryz.underlying9 (fun j hj => by
  rw [add_lit', cell_at (heap_alloc_new w _), Nat.zero_add, made_get n j (by simpa using hj)]
  simp)
 rw [List.length_replicate] at h
 exact h
set_option maxRecDepth 100000 in
set_option maxHeartbeats 4000000 in
theorem wnothing_any (w : World) (hpow : Pow w) (a : Option Addr) (bl c : Nat) (N L : Int) :
  Calls Tryz.prog 8 #[.slice a bl c, .int .i64 N, .int .i64 L] w fun e w' => e = .returned (.bool true) ∧ Kp No w w' := by
 by_cases hg : 1000 < bl ∨ L < 0 ∨ 100 < L
 ·have hcase : (decide ((1000 : Int) < (bl : Int)) = true) ∨ (decide ((1000 : Int) < (bl : Int)) = false ∧ decide (L < 0) = true) ∨ (decide ((1000 : Int) < (bl : Int)) = false ∧ decide (L < 0) = false ∧ decide ((100 : Int) < L) = true) := by
   simp only [decide_eq_true_eq, decide_eq_false_iff_not]
   omega
  clear hg
  rcases hcase with g1 | ⟨g1, g2⟩ | ⟨g1, g2, g3⟩
  ·go_enter Tryz.func8, Tryz.ntmps8
   go_wp2_with fail
   go_ret
   exact ⟨rfl, Kp.refl _ _⟩
  ·go_enter Tryz.func8, Tryz.ntmps8
   go_wp2_with fail
   go_ret
   exact ⟨rfl, Kp.refl _ _⟩
  ·go_enter Tryz.func8, Tryz.ntmps8
   go_wp2_with fail
   go_ret
   exact ⟨rfl, Kp.refl _ _⟩
 ·obtain ⟨n, rfl⟩ : ∃ n : Nat, L = (n : Int) := ⟨L.toNat, by omega⟩
  have hn : n ≤ 100 := by omega
  have g1 : decide ((1000 : Int) < (bl : Int)) = false := decide_eq_false (by omega)
  have g2 : decide ((n : Int) < 0) = false := decide_eq_false (by omega)
  have g3 : decide ((100 : Int) < (n : Int)) = false := decide_eq_false (by omega)
  have HPW := Lib.hid hpow
  have hmk := make_zero n hn
  have hst := str_zero n
  clear hg
  go_enter Tryz.func8, Tryz.ntmps8
  go_wp2_with fail
  refine (nilAppend _ _ _ _).mono ?_
  rintro e w1 ⟨rfl, k1⟩
  have HK1 := Lib.hid k1
  clear k1
  go_wp2_with fail
  refine (nilEntry _ _).mono ?_
  rintro e w2 ⟨rfl, rfl⟩
  go_wp2_with fail
  refine (nilNext _).mono ?_
  rintro e w2 ⟨rfl, rfl⟩
  go_wp2_with fail
  refine (nilOpen _ _).mono ?_
  rintro e w3 ⟨rfl, k3⟩
  have HK3 := Lib.hid (HK1.out.trans_same k3)
  clear k3
  go_wp2_with fail
  refine (new_any 100 w3 (by decide)).mono ?_
  rintro e w4 ⟨rfl, k4, F, hD, hF⟩
  have HK4 := Lib.hid (HK3.out.trans_same k4)
  obtain ⟨W5, hW5⟩ : ∃ V, V = w4.alloc (.cells (madeCells #[.int .u8 0] n) 5) := ⟨_, rfl⟩
  have k5 : Kp No w4 W5 := by rw [hW5]; exact (Kp.refl _ _).alloc _
  have HK5 := Lib.hid (HK4.out.trans_same k5)
  have HD := Lib.hid (And.intro (hD.keep_no k5) hF)
  have hw3 := HK3.out.size
  obtain ⟨d, hd⟩ : ∃ d, d = w3.heap.size + 1 := ⟨_, rfl⟩
  rw [← hd] at HD ⊢
  have HW3 := Lib.hid hw3
  clear k4 hD hF k5 hd hw3
  rcases Nat.lt_or_ge n 1 with h1 | h1
  ·have b1 : decide ((n : Int) < 1) = true := decide_eq_true (by omega)
   have hb := badOpen ⟨d, 0, none⟩ (zeroS n) W5 (.inl (by rw [zeroS_size]; exact h1)) (by rw [zeroS_size]; omega)
   have HB := Lib.hid hb
   clear hb h1 hn
   go_wp2_with fail
   rw [← hW5]
   clear hW5 hmk hst
   refine HB.out.mono ?_
   rintro e w6 ⟨rfl, k6⟩
   have HK6 := Lib.hid (HK5.out.trans_same k6)
   clear k6 HB
   go_wp2_with fail
   refine (nilSync _).mono ?_
   rintro e w7 ⟨rfl, k7⟩
   have HK7 := Lib.hid (HK6.out.trans_same k7)
   clear k7
   go_wp2_with fail
   refine (nilNames _).mono ?_
   rintro e w8 ⟨rfl, rfl⟩
   go_wp2_with fail
   have hkn := wknown_any w7 (HPW.out.keepS HK7.out fun x => x)
   have HKN := Lib.hid hkn
   clear hkn
   refine HKN.out.mono ?_
   rintro e w9 ⟨rfl, k9⟩
   have HK9 := Lib.hid (HK7.out.trans_same k9)
   clear k9 HKN
   go_wp2_with fail
   go_ret
   exact ⟨rfl, HK9.out⟩
  ·have b1 : decide ((n : Int) < 1) = false := decide_eq_false (by omega)
   rcases Nat.lt_or_ge 50 n with h2 | h2
   ·have b2 : decide ((50 : Int) < (n : Int)) = true := decide_eq_true (by omega)
    have hb := badOpen ⟨d, 0, none⟩ (zeroS n) W5 (.inr (by rw [zeroS_size]; exact h2)) (by rw [zeroS_size]; omega)
    have HB := Lib.hid hb
    clear hb h1 h2 hn
    go_wp2_with fail
    rw [← hW5]
    clear hW5 hmk hst
    refine HB.out.mono ?_
    rintro e w6 ⟨rfl, k6⟩
    have HK6 := Lib.hid (HK5.out.trans_same k6)
    clear k6 HB
    go_wp2_with fail
    refine (nilSync _).mono ?_
    rintro e w7 ⟨rfl, k7⟩
    have HK7 := Lib.hid (HK6.out.trans_same k7)
    clear k7
    go_wp2_with fail
    refine (nilNames _).mono ?_
    rintro e w8 ⟨rfl, rfl⟩
    go_wp2_with fail
    have hkn := wknown_any w7 (HPW.out.keepS HK7.out fun x => x)
    have HKN := Lib.hid hkn
    clear hkn
    refine HKN.out.mono ?_
    rintro e w9 ⟨rfl, k9⟩
    have HK9 := Lib.hid (HK7.out.trans_same k9)
    clear k9 HKN
    go_wp2_with fail
    go_ret
    exact ⟨rfl, HK9.out⟩
   ·have b2 : decide ((50 : Int) < (n : Int)) = false := decide_eq_false (by omega)
    have hb := open_any W5 d (zeroS n) ⟨100, none, []⟩ F HD.out.1 (free_empty 100).ok (HPW.out.keepS HK5.out fun x => x) (fun hf => by have := HD.out.2 _ hf; have := HW3.out; have := HPW.out.lt; omega) (by rw [zeroS_size]; exact h1) (by rw [zeroS_size]; exact h2) (by decide)
    have HB := Lib.hid hb
    clear hb h1 h2 hn
    go_wp2_with fail
    rw [← hW5]
    clear hW5 hmk hst
    refine HB.out.mono ?_
    intro e w6 hq
    unfold OpnP at hq
    rw [open_empty] at hq
    rcases hq with ⟨_, l, F', G', rfl, _, _, _, k6⟩ | ⟨hq, _⟩
    ·have HK6 := Lib.hid (HK5.out.trans k6 fun i hi hf => by have := HD.out.2 _ hf; have := HW3.out; omega)
     clear k6 HB
     go_wp2_with fail
     refine (nilSync _).mono ?_
     rintro e w7 ⟨rfl, k7⟩
     have HK7 := Lib.hid (HK6.out.trans_same k7)
     clear k7
     go_wp2_with fail
     refine (nilNames _).mono ?_
     rintro e w8 ⟨rfl, rfl⟩
     go_wp2_with fail
     have hkn := wknown_any w7 (HPW.out.keepS HK7.out fun x => x)
     have HKN := Lib.hid hkn
     clear hkn
     refine HKN.out.mono ?_
     rintro e w9 ⟨rfl, k9⟩
     have HK9 := Lib.hid (HK7.out.trans_same k9)
     clear k9 HKN
     go_wp2_with fail
     go_ret
     exact ⟨rfl, HK9.out⟩
    ·exact absurd rfl hq
end Go.Proofs.YtdibkdgafidjgaaGreatDoor

