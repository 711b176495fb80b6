/-
  May a leap stand behind a table: leap's follows.
-/
import Derived.Test.YtapikolgpmefbaaGreatDoorLTab
namespace Go.Proofs.YtapikolgpmefbaaGreatDoor
open Go.RowKit Go.Mer

set_option maxRecDepth 4000 in
theorem follows_early (L : List (Int × Int)) (x1 x2 : Int) (w : World) (a : Option Addr) (cap : Nat) (h : inF x1 = false ∨ x2 < 0 ∨ 1000 < x2 ∨ 100 ≤ L.length) (hl : L.length ≤ 1000000) : Calls Tryz.prog 28 #[.slice a L.length cap, .agg #[.int .i64 x1, .int .i64 x2]] w fun e w' => e = .returned (.bool false) ∧ Kp No w w' := by
  obtain ⟨K, hK⟩ : ∃ K, K = L.length := ⟨_, rfl⟩
  rw [← hK] at h hl ⊢
  clear hK
  have HD := Lib.hid (Date_any x1)
  obtain ⟨W1, hW1⟩ : ∃ W1, W1 = w.alloc (.cells #[.int .i64 x1, .int .i64 x2] 38 (0, 0)) := ⟨_, rfl⟩
  by_cases hi : inF x1 = true
  · have hdv : dateV x1 = .tuple #[dtv (ymdF (x1 + 719162).toNat).1 (ymdF (x1 + 719162).toNat).2.1 (ymdF (x1 + 719162).toNat).2.2, .int .i64 0] := if_pos hi
    rw [hdv] at HD
    clear hdv
    obtain ⟨y1, hy1⟩ : ∃ x, x = (ymdF (x1 + 719162).toNat).1 := ⟨_, rfl⟩
    obtain ⟨y2, hy2⟩ : ∃ x, x = (ymdF (x1 + 719162).toNat).2.1 := ⟨_, rfl⟩
    obtain ⟨y3, hy3⟩ : ∃ x, x = (ymdF (x1 + 719162).toNat).2.2 := ⟨_, rfl⟩
    rw [← hy1, ← hy2, ← hy3] at HD
    clear hy1 hy2 hy3
    have h' : x2 < 0 ∨ (0 ≤ x2 ∧ 1000 < x2) ∨ (0 ≤ x2 ∧ x2 ≤ 1000 ∧ 100 ≤ K) := by
      rw [hi] at h
      rcases h with h | h
      · exact absurd h (by decide)
      · omega
    clear h
    rcases h' with h | ⟨h0, h⟩ | ⟨h0, h1, h⟩
    · have b0 : decide (x2 < 0) = true := by rw [decide_eq_true_iff]; omega
      clear h hl
      go_enter Tryz.func28, Tryz.ntmps28
      go_wp2_with fail
      refine (HD.out _).mono ?_
      rintro e w' ⟨rfl, hk⟩
      rw [← hW1] at hk
      have hb : W1.heap[w.heap.size]? = some (.cells #[.int .i64 x1, .int .i64 x2] 38 (0, 0)) := by rw [hW1]; exact heap_alloc_new w _
      have hb' := hk.get hb fun x => x
      have hkw : Kp No w w' := ((hW1 ▸ (Kp.refl No w).alloc _ : Kp No w W1)).trans_same hk
      have d1 := cell_at (alloc_far hb' (.cells #[.int .i64 (0 : Int), .int .i64 (0 : Int), .int .i64 (0 : Int)] 66 (0, 0))) 1
      have d2 := fun (p q r : Int) => cell_at (alloc_far hb' (.cells #[.int .i64 p, .int .i64 q, .int .i64 r] 66 (0, 0))) 1
      simp at d1 d2
      have HKW := Lib.hid hkw
      clear hk hkw hb hb' hW1
      go_wp2_with fail
      go_ret
      exact ⟨rfl, HKW.out.alloc _⟩
    · have b0 : decide (x2 < 0) = false := by rw [decide_eq_false_iff_not]; omega
      have b1 : decide (1000 < x2) = true := by rw [decide_eq_true_iff]; omega
      clear h hl h0
      go_enter Tryz.func28, Tryz.ntmps28
      go_wp2_with fail
      refine (HD.out _).mono ?_
      rintro e w' ⟨rfl, hk⟩
      rw [← hW1] at hk
      have hb : W1.heap[w.heap.size]? = some (.cells #[.int .i64 x1, .int .i64 x2] 38 (0, 0)) := by rw [hW1]; exact heap_alloc_new w _
      have hb' := hk.get hb fun x => x
      have hkw : Kp No w w' := ((hW1 ▸ (Kp.refl No w).alloc _ : Kp No w W1)).trans_same hk
      have d1 := cell_at (alloc_far hb' (.cells #[.int .i64 (0 : Int), .int .i64 (0 : Int), .int .i64 (0 : Int)] 66 (0, 0))) 1
      have d2 := fun (p q r : Int) => cell_at (alloc_far hb' (.cells #[.int .i64 p, .int .i64 q, .int .i64 r] 66 (0, 0))) 1
      simp at d1 d2
      have HKW := Lib.hid hkw
      clear hk hkw hb hb' hW1
      go_wp2_with fail
      go_ret
      exact ⟨rfl, HKW.out.alloc _⟩
    · have b0 : decide (x2 < 0) = false := by rw [decide_eq_false_iff_not]; omega
      have b1 : decide (1000 < x2) = false := by rw [decide_eq_false_iff_not]; omega
      have b2 : decide (100 ≤ K) = true := by rw [decide_eq_true_iff]; omega
      clear h hl h0 h1
      have b3 : decide ((100 : Int) ≤ (K : Int)) = true := by rw [decide_eq_true_iff]; rw [decide_eq_true_iff] at b2; omega
      go_enter Tryz.func28, Tryz.ntmps28
      go_wp2_with fail
      refine (HD.out _).mono ?_
      rintro e w' ⟨rfl, hk⟩
      rw [← hW1] at hk
      have hb : W1.heap[w.heap.size]? = some (.cells #[.int .i64 x1, .int .i64 x2] 38 (0, 0)) := by rw [hW1]; exact heap_alloc_new w _
      have hb' := hk.get hb fun x => x
      have hkw : Kp No w w' := ((hW1 ▸ (Kp.refl No w).alloc _ : Kp No w W1)).trans_same hk
      have d1 := cell_at (alloc_far hb' (.cells #[.int .i64 (0 : Int), .int .i64 (0 : Int), .int .i64 (0 : Int)] 66 (0, 0))) 1
      have d2 := fun (p q r : Int) => cell_at (alloc_far hb' (.cells #[.int .i64 p, .int .i64 q, .int .i64 r] 66 (0, 0))) 1
      simp at d1 d2
      have HKW := Lib.hid hkw
      clear hk hkw hb hb' hW1
      go_wp2_with fail
      go_ret
      exact ⟨rfl, HKW.out.alloc _⟩
  · have hdv : dateV x1 = .tuple #[dtv 0 0 0, .int .i64 11] := if_neg hi
    rw [hdv] at HD
    clear hdv hi h hl
    go_enter Tryz.func28, Tryz.ntmps28
    go_wp2_with fail
    refine (HD.out _).mono ?_
    rintro e w' ⟨rfl, hk⟩
    rw [← hW1] at hk
    have hb : W1.heap[w.heap.size]? = some (.cells #[.int .i64 x1, .int .i64 x2] 38 (0, 0)) := by rw [hW1]; exact heap_alloc_new w _
    have hb' := hk.get hb fun x => x
    have hkw : Kp No w w' := ((hW1 ▸ (Kp.refl No w).alloc _ : Kp No w W1)).trans_same hk
    have d1 := cell_at (alloc_far hb' (.cells #[.int .i64 (0 : Int), .int .i64 (0 : Int), .int .i64 (0 : Int)] 66 (0, 0))) 1
    have d2 := fun (p q r : Int) => cell_at (alloc_far hb' (.cells #[.int .i64 p, .int .i64 q, .int .i64 r] 66 (0, 0))) 1
    simp at d1 d2
    have HKW := Lib.hid hkw
    clear hk hkw hb hb' hW1
    go_wp2_with fail
    go_ret
    exact ⟨rfl, HKW.out.alloc _⟩
set_option maxRecDepth 4000 in
theorem follows_nil (x1 x2 : Int) (w : World) (a : Option Addr) (cap : Nat) (hi : inF x1 = true) (h0 : 0 ≤ x2) (h1 : x2 ≤ 1000) : Calls Tryz.prog 28 #[.slice a 0 cap, .agg #[.int .i64 x1, .int .i64 x2]] w fun e w' => e = .returned (.bool true) ∧ Kp No w w' := by
  have HD := Lib.hid (Date_any x1)
  obtain ⟨W1, hW1⟩ : ∃ W1, W1 = w.alloc (.cells #[.int .i64 x1, .int .i64 x2] 38 (0, 0)) := ⟨_, rfl⟩
  have hdv : dateV x1 = .tuple #[dtv (ymdF (x1 + 719162).toNat).1 (ymdF (x1 + 719162).toNat).2.1 (ymdF (x1 + 719162).toNat).2.2, .int .i64 0] := if_pos hi
  rw [hdv] at HD
  clear hdv hi
  obtain ⟨y1, hy1⟩ : ∃ x, x = (ymdF (x1 + 719162).toNat).1 := ⟨_, rfl⟩
  obtain ⟨y2, hy2⟩ : ∃ x, x = (ymdF (x1 + 719162).toNat).2.1 := ⟨_, rfl⟩
  obtain ⟨y3, hy3⟩ : ∃ x, x = (ymdF (x1 + 719162).toNat).2.2 := ⟨_, rfl⟩
  rw [← hy1, ← hy2, ← hy3] at HD
  clear hy1 hy2 hy3
  have b0 : decide (x2 < 0) = false := by rw [decide_eq_false_iff_not]; omega
  have b1 : decide (1000 < x2) = false := by rw [decide_eq_false_iff_not]; omega
  clear h0 h1
  go_enter Tryz.func28, Tryz.ntmps28
  go_wp2_with fail
  refine (HD.out _).mono ?_
  rintro e w' ⟨rfl, hk⟩
  rw [← hW1] at hk
  have hb : W1.heap[w.heap.size]? = some (.cells #[.int .i64 x1, .int .i64 x2] 38 (0, 0)) := by rw [hW1]; exact heap_alloc_new w _
  have hb' := hk.get hb fun x => x
  have hkw : Kp No w w' := ((hW1 ▸ (Kp.refl No w).alloc _ : Kp No w W1)).trans_same hk
  have d1 := cell_at (alloc_far hb' (.cells #[.int .i64 (0 : Int), .int .i64 (0 : Int), .int .i64 (0 : Int)] 66 (0, 0))) 1
  have d2 := fun (p q r : Int) => cell_at (alloc_far hb' (.cells #[.int .i64 p, .int .i64 q, .int .i64 r] 66 (0, 0))) 1
  simp at d1 d2
  have HKW := Lib.hid hkw
  clear hk hkw hb hb' hW1
  go_wp2_with fail
  go_ret
  exact ⟨rfl, HKW.out.alloc _⟩
end Go.Proofs.YtapikolgpmefbaaGreatDoor
