/-
  cal's Date: the same date, found in another way.
-/
import Derived.Test.YtapikolgpmefbaaGreatDoorLRDate
namespace Go.Proofs.YtapikolgpmefbaaGreatDoor
open Go.RowKit Go.Mer

theorem Date_no (n : Int) (w : World) (h : inF n = false) : Calls Tryz.prog 33 #[.int .i64 n] w fun e w' => e = .returned (.tuple #[dtv 0 0 0, .int .i64 11]) ∧ Kp No w w' := by
  have h' : n < -719162 ∨ 2932896 < n := by
    unfold inF at h
    rw [Bool.and_eq_false_iff, decide_eq_false_iff_not, decide_eq_false_iff_not] at h
    omega
  clear h
  rcases h' with h | h
  · have hd : decide (n < -719162) = true := by rw [decide_eq_true_iff]; exact h
    go_enter Tryz.func33, Tryz.ntmps33
    go_wp2_with fail
    exact bodyPost_ret (v := .tuple #[dtv 0 0 0, .int .i64 11]) (by simp [results, Tryz.results33, go_sem]) rfl ⟨rfl, (Kp.refl _ _).alloc _⟩
  · have hd : decide (n < -719162) = false := by rw [decide_eq_false_iff_not]; omega
    have hd2 : decide (2932896 < n) = true := by rw [decide_eq_true_iff]; exact h
    go_enter Tryz.func33, Tryz.ntmps33
    go_wp2_with fail
    exact bodyPost_ret (v := .tuple #[dtv 0 0 0, .int .i64 11]) (by simp [results, Tryz.results33, go_sem]) rfl ⟨rfl, (Kp.refl _ _).alloc _⟩
theorem calZ_rest (N : Nat) : yearZ (calZ N) + ((N % 146097 - min 3 (N % 146097 / 36524) * 36524) % 1461 - min 3 ((N % 146097 - min 3 (N % 146097 / 36524) * 36524) % 1461 / 365) * 365) = N := by
  unfold calZ
  simp only
  obtain ⟨q, hq⟩ : ∃ q, q = N / 146097 := ⟨_, rfl⟩
  obtain ⟨r, hr⟩ : ∃ r, r = N % 146097 := ⟨_, rfl⟩
  rw [← hq, ← hr]
  obtain ⟨h, hh⟩ : ∃ h, h = min 3 (r / 36524) := ⟨_, rfl⟩
  rw [← hh]
  obtain ⟨r2, hr2⟩ : ∃ r2, r2 = r - h * 36524 := ⟨_, rfl⟩
  rw [← hr2]
  obtain ⟨f, hf⟩ : ∃ f, f = r2 / 1461 := ⟨_, rfl⟩
  obtain ⟨r3, hr3⟩ : ∃ r3, r3 = r2 % 1461 := ⟨_, rfl⟩
  rw [← hf, ← hr3]
  obtain ⟨o, ho⟩ : ∃ o, o = min 3 (r3 / 365) := ⟨_, rfl⟩
  rw [← ho]
  have hN : N = 146097 * q + r := by omega
  have hr_ : r < 146097 := by omega
  have hh3 : h ≤ 3 := by omega
  have hr2b : r2 ≤ 36524 := by omega
  have hrr : r = h * 36524 + r2 := by omega
  have hf24 : f ≤ 24 := by omega
  have hr2f : r2 = 1461 * f + r3 := by omega
  have ho3 : o ≤ 3 := by omega
  have ho1 : o * 365 ≤ r3 := by omega
  obtain ⟨z, hz⟩ : ∃ z, z = 400 * q + 100 * h + 4 * f + o := ⟨_, rfl⟩
  rw [← hz]
  have e4 : z / 4 = 100 * q + 25 * h + f := by omega
  have e100 : z / 100 = 4 * q + h := by omega
  have e400 : z / 400 = q := by omega
  clear hq hr hh hr2 hf hr3 ho
  unfold yearZ
  rw [e4, e100, e400]
  omega
/-- The numbers that the code comes by. -/
theorem dateG (N : Nat) (h : N < 3652059) : ∃ q r q4 y0 a a1 y1 a2 r2 f f4 y2 r3 o Y o2 R : Nat, ((wrap64 (N : Int) = (N : Int)) ∧ ((N : Int).tdiv 146097 = (q : Int)) ∧ ((N : Int).tmod 146097 = (r : Int)) ∧ (wrap64 (q : Int) = (q : Int)) ∧ (wrap64 ((q : Int) * 400) = (q4 : Int)) ∧ (wrap64 (1 + (q4 : Int)) = (y0 : Int)) ∧ ((r : Int).tdiv 36524 = (a : Int)) ∧ (wrap64 (a : Int) = (a : Int)) ∧ (a < 3 → wrap64 ((a : Int) * 100) = (a1 : Int)) ∧ (3 ≤ a → wrap64 300 = (a1 : Int)) ∧ (wrap64 ((y0 : Int) + (a1 : Int)) = (y1 : Int)) ∧ (a < 3 → wrap64 ((a : Int) * 36524) = (a2 : Int)) ∧ (3 ≤ a → wrap64 109572 = (a2 : Int)) ∧ (wrap64 ((r : Int) - (a2 : Int)) = (r2 : Int)) ∧ ((r2 : Int).tdiv 1461 = (f : Int)) ∧ (wrap64 (f : Int) = (f : Int)) ∧ (wrap64 ((f : Int) * 4) = (f4 : Int)) ∧ (wrap64 ((y1 : Int) + (f4 : Int)) = (y2 : Int)) ∧ ((r2 : Int).tmod 1461 = (r3 : Int)) ∧ ((r3 : Int).tdiv 365 = (o : Int)) ∧ (wrap64 (o : Int) = (o : Int)) ∧ (o < 3 → wrap64 ((y2 : Int) + (o : Int)) = (Y : Int)) ∧ (3 ≤ o → wrap64 ((y2 : Int) + 3) = (Y : Int)) ∧ (o < 3 → wrap64 ((o : Int) * 365) = (o2 : Int)) ∧ (3 ≤ o → wrap64 1095 = (o2 : Int)) ∧ (wrap64 ((r3 : Int) - (o2 : Int)) = (R : Int))) ∧ a ≤ 4 ∧ o ≤ 4 ∧ Y = calZ N + 1 ∧ R = N - yearZ (calZ N) := by
  obtain ⟨q, h_q⟩ : ∃ q, q = N / 146097 := ⟨_, rfl⟩
  obtain ⟨r, h_r⟩ : ∃ r, r = N % 146097 := ⟨_, rfl⟩
  obtain ⟨q4, h_q4⟩ : ∃ q4, q4 = q * 400 := ⟨_, rfl⟩
  obtain ⟨y0, h_y0⟩ : ∃ y0, y0 = 1 + q4 := ⟨_, rfl⟩
  obtain ⟨a, h_a⟩ : ∃ a, a = r / 36524 := ⟨_, rfl⟩
  obtain ⟨a1, h_a1⟩ : ∃ a1, a1 = min 3 a * 100 := ⟨_, rfl⟩
  obtain ⟨y1, h_y1⟩ : ∃ y1, y1 = y0 + a1 := ⟨_, rfl⟩
  obtain ⟨a2, h_a2⟩ : ∃ a2, a2 = min 3 a * 36524 := ⟨_, rfl⟩
  obtain ⟨r2, h_r2⟩ : ∃ r2, r2 = r - a2 := ⟨_, rfl⟩
  obtain ⟨f, h_f⟩ : ∃ f, f = r2 / 1461 := ⟨_, rfl⟩
  obtain ⟨f4, h_f4⟩ : ∃ f4, f4 = f * 4 := ⟨_, rfl⟩
  obtain ⟨y2, h_y2⟩ : ∃ y2, y2 = y1 + f4 := ⟨_, rfl⟩
  obtain ⟨r3, h_r3⟩ : ∃ r3, r3 = r2 % 1461 := ⟨_, rfl⟩
  obtain ⟨o, h_o⟩ : ∃ o, o = r3 / 365 := ⟨_, rfl⟩
  obtain ⟨Y, h_Y⟩ : ∃ Y, Y = y2 + min 3 o := ⟨_, rfl⟩
  obtain ⟨o2, h_o2⟩ : ∃ o2, o2 = min 3 o * 365 := ⟨_, rfl⟩
  obtain ⟨R, h_R⟩ : ∃ R, R = r3 - o2 := ⟨_, rfl⟩
  have hR : R = N - yearZ (calZ N) := by
    have := calZ_rest N
    rw [← h_r, ← h_a, ← h_a2, ← h_r2, ← h_r3, ← h_o, ← h_o2, ← h_R] at this
    omega
  have hY : Y = calZ N + 1 := by
    unfold calZ
    simp only
    rw [← h_q, ← h_r, ← h_a, ← h_a2, ← h_r2, ← h_f, ← h_r3, ← h_o]
    omega
  have b1 : q ≤ 24 := by omega
  have b2 : r < 146097 := by omega
  have b3 : a ≤ 4 := by omega
  have b4 : a2 ≤ r := by omega
  have b5 : r2 ≤ r := by omega
  have b6 : f ≤ 100 := by omega
  have b7 : r3 < 1461 := by omega
  have b8 : o ≤ 4 := by omega
  have b9 : o2 ≤ r3 := by omega
  refine ⟨q, r, q4, y0, a, a1, y1, a2, r2, f, f4, y2, r3, o, Y, o2, R, ⟨?_, ?_, ?_, ?_, ?_, ?_, ?_, ?_, ?_, ?_, ?_, ?_, ?_, ?_, ?_, ?_, ?_, ?_, ?_, ?_, ?_, ?_, ?_, ?_, ?_, ?_⟩, b3, b8, hY, hR⟩
  · rw [IntWalk.wrap64_in _ (by omega)]
  · rw [h_q]; rfl
  · rw [h_r]; rfl
  · rw [IntWalk.wrap64_in _ (by omega)]
  · rw [IntWalk.wrap64_in _ (by omega)]; omega
  · rw [IntWalk.wrap64_in _ (by omega)]; omega
  · rw [h_a]; rfl
  · rw [IntWalk.wrap64_in _ (by omega)]
  · intro hc; rw [IntWalk.wrap64_in _ (by omega)]; omega
  · intro hc; rw [IntWalk.wrap64_in _ (by omega)]; omega
  · rw [IntWalk.wrap64_in _ (by omega)]; omega
  · intro hc; rw [IntWalk.wrap64_in _ (by omega)]; omega
  · intro hc; rw [IntWalk.wrap64_in _ (by omega)]; omega
  · rw [IntWalk.wrap64_in _ (by omega)]; omega
  · rw [h_f]; rfl
  · rw [IntWalk.wrap64_in _ (by omega)]
  · rw [IntWalk.wrap64_in _ (by omega)]; omega
  · rw [IntWalk.wrap64_in _ (by omega)]; omega
  · rw [h_r3]; rfl
  · rw [h_o]; rfl
  · rw [IntWalk.wrap64_in _ (by omega)]
  · intro hc; rw [IntWalk.wrap64_in _ (by omega)]; omega
  · intro hc; rw [IntWalk.wrap64_in _ (by omega)]; omega
  · intro hc; rw [IntWalk.wrap64_in _ (by omega)]; omega
  · intro hc; rw [IntWalk.wrap64_in _ (by omega)]; omega
  · rw [IntWalk.wrap64_in _ (by omega)]; omega
theorem Date_yes (N : Nat) (w : World) (h : N < 3652059) : Calls Tryz.prog 33 #[.int .i64 ((N : Int) - 719162)] w fun e w' => e = .returned (.tuple #[dtv (ymdF N).1 (ymdF N).2.1 (ymdF N).2.2, .int .i64 0]) ∧ Kp No w w' := by
  have HM := Lib.hid month_any
  have hin : decide ((N : Int) - 719162 < -719162) = false ∧ decide (2932896 < (N : Int) - 719162) = false := by
    rw [decide_eq_false_iff_not, decide_eq_false_iff_not]
    omega
  obtain ⟨hi1, hi2⟩ := hin
  have HW := Lib.hid (IntWalk.wrap64_in (N : Int) (by omega))
  obtain ⟨q, r, q4, y0, a, a1, y1, a2, r2, f, f4, y2, r3, o, Y, o2, R, ⟨G0, G1, G2, G3, G4, G5, G6, G7, G8, H8, G9, G10, H10, G11, G12, G13, G14, G15, G16, G17, G18, G19, H19, G20, H20, G21⟩, ha4, ho4, hY, hR⟩ := dateG N h
  have KG0 := Lib.hid G0
  have KG1 := Lib.hid G1
  have KG2 := Lib.hid G2
  have KG3 := Lib.hid G3
  have KG4 := Lib.hid G4
  have KG5 := Lib.hid G5
  have KG6 := Lib.hid G6
  have KG7 := Lib.hid G7
  have KG8 := Lib.hid G8
  have KH8 := Lib.hid H8
  have KG9 := Lib.hid G9
  have KG10 := Lib.hid G10
  have KH10 := Lib.hid H10
  have KG11 := Lib.hid G11
  have KG12 := Lib.hid G12
  have KG13 := Lib.hid G13
  have KG14 := Lib.hid G14
  have KG15 := Lib.hid G15
  have KG16 := Lib.hid G16
  have KG17 := Lib.hid G17
  have KG18 := Lib.hid G18
  have KG19 := Lib.hid G19
  have KH19 := Lib.hid H19
  have KG20 := Lib.hid G20
  have KH20 := Lib.hid H20
  have KG21 := Lib.hid G21
  have HY := Lib.hid hY
  have HR := Lib.hid hR
  have HL := Lib.hid h
  clear h hY hR ha4 ho4 G0 G1 G2 G3 G4 G5 G6 G7 G8 H8 G9 G10 H10 G11 G12 G13 G14 G15 G16 G17 G18 G19 H19 G20 H20 G21
  go_enter Tryz.func33, Tryz.ntmps33
  go_wp2_with fail
  · rename_i hx
    simp only [KG0.out, KG2.out, KG6.out, KG7.out] at hx
    have G8 := KG8.out (by omega)
    have G10 := KG10.out (by omega)
    simp only [KG0.out, KG2.out, KG6.out, KG7.out, KG11.out, KG16.out, KG17.out, KG18.out, G10] at h
    have G19 := KG19.out (by omega)
    have G20 := KG20.out (by omega)
    simp only [KG0.out, KG1.out, KG2.out, KG3.out, KG6.out, KG7.out, KG4.out, KG5.out, KG9.out, KG11.out, KG12.out, KG13.out, KG14.out, KG15.out, KG16.out, KG17.out, KG18.out, G8, G10, G19, G20, KG21.out]
    clear hx h G8 G10 G19 G20
    obtain ⟨W0, hW0⟩ : ∃ W0, W0 = (w.alloc (.cells #[.int .i64 0, .int .i64 0, .int .i64 0] 66 (0, 0))).alloc (.cells #[.int .i64 (Y : Int), .int .i64 1, .int .i64 0] 66 (0, 0)) := ⟨_, rfl⟩
    rw [← hW0]
    have hk0 : Kp No w W0 := by rw [hW0]; exact ((Kp.refl _ _).alloc _).alloc _
    obtain ⟨B1, hB1⟩ : ∃ B1, B1 = w.heap.size + 1 := ⟨_, rfl⟩
    have h0 : W0.heap[w.heap.size]? = some (.cells #[.int .i64 0, .int .i64 0, .int .i64 0] 66 (0, 0)) := by
      rw [hW0]
      exact alloc_far (heap_alloc_new w _) _
    have h1 : W0.heap[B1]? = some (.cells #[.int .i64 (Y : Int), .int .i64 1, .int .i64 0] 66 (0, 0)) := by
      rw [hW0, hB1]
      have := heap_alloc_new (w.alloc (.cells #[.int .i64 0, .int .i64 0, .int .i64 0] 66 (0, 0))) (.cells #[.int .i64 (Y : Int), .int .i64 1, .int .i64 0] 66 (0, 0))
      rw [show (w.alloc (.cells #[.int .i64 0, .int .i64 0, .int .i64 0] 66 (0, 0))).heap.size = w.heap.size + 1 by simp] at this
      exact this
    rw [← hB1]
    clear hW0
    have HK0 := Lib.hid hk0
    have H00 := Lib.hid h0
    have H01 := Lib.hid h1
    have HB := Lib.hid hB1
    clear hk0 h0 h1 hB1
    obtain ⟨M, hM⟩ : ∃ M, M = moF Y 12 1 R := ⟨_, rfl⟩
    have HMM := Lib.hid hM
    have HS := Lib.hid (show DS Y R M 1 R by rw [hM]; exact DS.start Y R)
    clear hM
    go_loopw [4] (fun x wr => ∃ d m : Nat, x = .int .i64 (d : Int) ∧ Hid (DS Y R M m d) ∧ Hid (Kp No w wr) ∧ Hid (wr.heap[w.heap.size]? = some (.cells #[.int .i64 0, .int .i64 0, .int .i64 0] 66 (0, 0))) ∧ Hid (wr.heap[B1]? = some (.cells #[.int .i64 (Y : Int), .int .i64 (m : Int), .int .i64 0] 66 (0, 0)))) (fun x _ => (intOf x).toNat)
    case atStart => exact ⟨R, 1, rfl, HS, HK0, H00, H01⟩
    case round =>
      obtain ⟨d, m, rfl, HD, HKw, Hb0, Hb1⟩ := hrel
      obtain ⟨V2, hV2⟩ : ∃ V2, V2 = monF Y m := ⟨_, rfl⟩
      have hcall := HM.out Y m (by have := HY.out; have := calZ_lt HL.out; omega) ⟨HD.out.1, HD.out.2.1⟩
      rw [← hV2] at hcall
      have HK2 := Lib.hid hcall
      clear hcall
      have c10 := cell_at Hb1.out 0
      have c11 := cell_at Hb1.out 1
      have c12 := cell_at Hb1.out 2
      have c00 := cell_at Hb0.out 0
      have c01 := cell_at Hb0.out 1
      have c02 := cell_at Hb0.out 2
      have f10 := free_at Hb1.out 0
      have f11 := free_at Hb1.out 1
      have f12 := free_at Hb1.out 2
      have f00 := free_at Hb0.out 0
      have f01 := free_at Hb0.out 1
      have f02 := free_at Hb0.out 2
      have hne : (w.heap.size = B1) = False := by have := HB.out; simp; omega
      have hne' : (B1 = w.heap.size) = False := by have := HB.out; simp; omega
      simp at c10 c11 c12 c00 c01 c02
      rcases Nat.lt_or_ge d V2 with hc | hc
      · have hd2 : decide (V2 ≤ d) = false := by rw [decide_eq_false_iff_not]; omega
        have HX := Lib.hid hc
        have HV2 := Lib.hid hV2
        clear hc hV2
        go_wp2_with fail
        refine (HK2.out _).mono ?_
        rintro e w' ⟨rfl, rfl⟩
        go_wp2_with fail
        have hdb : wrap64 ((d : Int) + 1) = ((d + 1 : Nat) : Int) := by
          have h1 := HD.out.2.2.1
          have h2 := HL.out
          have h3 := HR.out
          rw [IntWalk.wrap64_in _ (by omega)]
          rfl
        rw [hdb]
        have hm2 : M = (m, d) := HD.out.stop (by have := HV2.out; have := HX.out; omega)
        have hB := HB.out
        obtain ⟨WF, hWF⟩ : ∃ WF, WF = (((wr.setCell ⟨B1, 2, none⟩ (.int .i64 ((d + 1 : Nat) : Int))).setCell ⟨w.heap.size, 0, none⟩ (.int .i64 (Y : Int))).setCell ⟨w.heap.size, 1, none⟩ (.int .i64 (m : Int))).setCell ⟨w.heap.size, 2, none⟩ (.int .i64 ((d + 1 : Nat) : Int)) := ⟨_, rfl⟩
        have g1 := set_far Hb0.out (p := ⟨B1, 2, none⟩) (by show w.heap.size ≠ B1; omega) (.int .i64 ((d + 1 : Nat) : Int))
        have g4 := set_at (set_at (set_at g1 0 (.int .i64 (Y : Int))) 1 (.int .i64 (m : Int))) 2 (.int .i64 ((d + 1 : Nat) : Int))
        have hkF : Kp No w WF := by
          rw [hWF]
          exact (((HKw.out.setCell (.inr (by show w.heap.size ≤ B1; omega)) _).setCell (.inr (Nat.le_refl _)) _).setCell (.inr (Nat.le_refl _)) _).setCell (.inr (Nat.le_refl _)) _
        rw [← hWF] at g4 ⊢
        have q0 := cell_at g4 0
        have q1 := cell_at g4 1
        have q2 := cell_at g4 2
        obtain ⟨dd, hdd⟩ : ∃ dd, dd = d + 1 := ⟨_, rfl⟩
        rw [← hdd] at q0 q1 q2 ⊢
        simp at q0 q1 q2
        clear c10 c11 c12 c00 c01 c02 f10 f11 f12 f00 f01 f02 g1 g4 hWF hdb
        refine bodyPost_ret (v := .tuple #[dtv Y m dd, .int .i64 0]) (by simp [results, Tryz.results33, go_sem, q0, q1, q2]) rfl ⟨?_, hkF⟩
        have hF : ymdF N = (Y, M.1, M.2 + 1) := by
          rw [HMM.out, HY.out, HR.out]
          exact ymdF.eq_1 N
        rw [hF, hm2, hdd]
      · have hd2 : decide (V2 ≤ d) = true := by rw [decide_eq_true_iff]; exact hc
        have HX := Lib.hid hc
        have HV2 := Lib.hid hV2
        clear hc hV2
        go_wp2_with fail
        refine (HK2.out _).mono ?_
        rintro e w' ⟨rfl, rfl⟩
        go_wp2_with fail
        refine (HK2.out _).mono ?_
        rintro e w' ⟨rfl, rfl⟩
        go_wp2_with fail
        have e1 : wrap64 ((d : Int) - (V2 : Int)) = ((d - V2 : Nat) : Int) := by
          have h1 := HD.out.2.2.1
          have h2 := HL.out
          have h3 := HR.out
          have h4 := HX.out
          rw [IntWalk.wrap64_in _ (by omega)]
          omega
        have e2 : wrap64 ((m : Int) + 1) = ((m + 1 : Nat) : Int) := by
          have h5 := HD.out.2.1
          rw [IntWalk.wrap64_in _ (by omega)]
          rfl
        rw [e1, e2]
        clear e1 e2
        have hlt : R < aheadF Y 13 := by
          rw [HR.out, HY.out]
          exact rest_lt N
        have hst := HD.out.step hlt (by have := HV2.out; have := HX.out; omega)
        rw [← HV2.out] at hst
        have hB := HB.out
        have hset := set_at Hb1.out 1 (.int .i64 ((m + 1 : Nat) : Int))
        go_round
        case rel => exact ⟨d - V2, m + 1, rfl, Lib.hid hst, Lib.hid (HKw.out.setCell (.inr (by show w.heap.size ≤ B1; omega)) _), Lib.hid (set_far Hb0.out (by show w.heap.size ≠ B1; omega) _), Lib.hid (by rw [hset]; rfl)⟩
        case measure =>
          have h4 := HX.out
          have h6 := (monF_pos Y m).1
          have h7 := HV2.out
          show (((d - V2 : Nat) : Int)).toNat < ((d : Int)).toNat
          omega
  · rename_i hx
    simp only [KG0.out, KG2.out, KG6.out, KG7.out] at hx
    have G8 := KG8.out (by omega)
    have G10 := KG10.out (by omega)
    simp only [KG0.out, KG2.out, KG6.out, KG7.out, KG11.out, KG16.out, KG17.out, KG18.out, G10] at h
    have G19 := KH19.out (by omega)
    have G20 := KH20.out (by omega)
    simp only [KG0.out, KG1.out, KG2.out, KG3.out, KG6.out, KG7.out, KG4.out, KG5.out, KG9.out, KG11.out, KG12.out, KG13.out, KG14.out, KG15.out, KG16.out, KG17.out, KG18.out, G8, G10, G19, G20, KG21.out]
    clear hx h G8 G10 G19 G20
    obtain ⟨W0, hW0⟩ : ∃ W0, W0 = (w.alloc (.cells #[.int .i64 0, .int .i64 0, .int .i64 0] 66 (0, 0))).alloc (.cells #[.int .i64 (Y : Int), .int .i64 1, .int .i64 0] 66 (0, 0)) := ⟨_, rfl⟩
    rw [← hW0]
    have hk0 : Kp No w W0 := by rw [hW0]; exact ((Kp.refl _ _).alloc _).alloc _
    obtain ⟨B1, hB1⟩ : ∃ B1, B1 = w.heap.size + 1 := ⟨_, rfl⟩
    have h0 : W0.heap[w.heap.size]? = some (.cells #[.int .i64 0, .int .i64 0, .int .i64 0] 66 (0, 0)) := by
      rw [hW0]
      exact alloc_far (heap_alloc_new w _) _
    have h1 : W0.heap[B1]? = some (.cells #[.int .i64 (Y : Int), .int .i64 1, .int .i64 0] 66 (0, 0)) := by
      rw [hW0, hB1]
      have := heap_alloc_new (w.alloc (.cells #[.int .i64 0, .int .i64 0, .int .i64 0] 66 (0, 0))) (.cells #[.int .i64 (Y : Int), .int .i64 1, .int .i64 0] 66 (0, 0))
      rw [show (w.alloc (.cells #[.int .i64 0, .int .i64 0, .int .i64 0] 66 (0, 0))).heap.size = w.heap.size + 1 by simp] at this
      exact this
    rw [← hB1]
    clear hW0
    have HK0 := Lib.hid hk0
    have H00 := Lib.hid h0
    have H01 := Lib.hid h1
    have HB := Lib.hid hB1
    clear hk0 h0 h1 hB1
    obtain ⟨M, hM⟩ : ∃ M, M = moF Y 12 1 R := ⟨_, rfl⟩
    have HMM := Lib.hid hM
    have HS := Lib.hid (show DS Y R M 1 R by rw [hM]; exact DS.start Y R)
    clear hM
    go_loopw [4] (fun x wr => ∃ d m : Nat, x = .int .i64 (d : Int) ∧ Hid (DS Y R M m d) ∧ Hid (Kp No w wr) ∧ Hid (wr.heap[w.heap.size]? = some (.cells #[.int .i64 0, .int .i64 0, .int .i64 0] 66 (0, 0))) ∧ Hid (wr.heap[B1]? = some (.cells #[.int .i64 (Y : Int), .int .i64 (m : Int), .int .i64 0] 66 (0, 0)))) (fun x _ => (intOf x).toNat)
    case atStart => exact ⟨R, 1, rfl, HS, HK0, H00, H01⟩
    case round =>
      obtain ⟨d, m, rfl, HD, HKw, Hb0, Hb1⟩ := hrel
      obtain ⟨V2, hV2⟩ : ∃ V2, V2 = monF Y m := ⟨_, rfl⟩
      have hcall := HM.out Y m (by have := HY.out; have := calZ_lt HL.out; omega) ⟨HD.out.1, HD.out.2.1⟩
      rw [← hV2] at hcall
      have HK2 := Lib.hid hcall
      clear hcall
      have c10 := cell_at Hb1.out 0
      have c11 := cell_at Hb1.out 1
      have c12 := cell_at Hb1.out 2
      have c00 := cell_at Hb0.out 0
      have c01 := cell_at Hb0.out 1
      have c02 := cell_at Hb0.out 2
      have f10 := free_at Hb1.out 0
      have f11 := free_at Hb1.out 1
      have f12 := free_at Hb1.out 2
      have f00 := free_at Hb0.out 0
      have f01 := free_at Hb0.out 1
      have f02 := free_at Hb0.out 2
      have hne : (w.heap.size = B1) = False := by have := HB.out; simp; omega
      have hne' : (B1 = w.heap.size) = False := by have := HB.out; simp; omega
      simp at c10 c11 c12 c00 c01 c02
      rcases Nat.lt_or_ge d V2 with hc | hc
      · have hd2 : decide (V2 ≤ d) = false := by rw [decide_eq_false_iff_not]; omega
        have HX := Lib.hid hc
        have HV2 := Lib.hid hV2
        clear hc hV2
        go_wp2_with fail
        refine (HK2.out _).mono ?_
        rintro e w' ⟨rfl, rfl⟩
        go_wp2_with fail
        have hdb : wrap64 ((d : Int) + 1) = ((d + 1 : Nat) : Int) := by
          have h1 := HD.out.2.2.1
          have h2 := HL.out
          have h3 := HR.out
          rw [IntWalk.wrap64_in _ (by omega)]
          rfl
        rw [hdb]
        have hm2 : M = (m, d) := HD.out.stop (by have := HV2.out; have := HX.out; omega)
        have hB := HB.out
        obtain ⟨WF, hWF⟩ : ∃ WF, WF = (((wr.setCell ⟨B1, 2, none⟩ (.int .i64 ((d + 1 : Nat) : Int))).setCell ⟨w.heap.size, 0, none⟩ (.int .i64 (Y : Int))).setCell ⟨w.heap.size, 1, none⟩ (.int .i64 (m : Int))).setCell ⟨w.heap.size, 2, none⟩ (.int .i64 ((d + 1 : Nat) : Int)) := ⟨_, rfl⟩
        have g1 := set_far Hb0.out (p := ⟨B1, 2, none⟩) (by show w.heap.size ≠ B1; omega) (.int .i64 ((d + 1 : Nat) : Int))
        have g4 := set_at (set_at (set_at g1 0 (.int .i64 (Y : Int))) 1 (.int .i64 (m : Int))) 2 (.int .i64 ((d + 1 : Nat) : Int))
        have hkF : Kp No w WF := by
          rw [hWF]
          exact (((HKw.out.setCell (.inr (by show w.heap.size ≤ B1; omega)) _).setCell (.inr (Nat.le_refl _)) _).setCell (.inr (Nat.le_refl _)) _).setCell (.inr (Nat.le_refl _)) _
        rw [← hWF] at g4 ⊢
        have q0 := cell_at g4 0
        have q1 := cell_at g4 1
        have q2 := cell_at g4 2
        obtain ⟨dd, hdd⟩ : ∃ dd, dd = d + 1 := ⟨_, rfl⟩
        rw [← hdd] at q0 q1 q2 ⊢
        simp at q0 q1 q2
        clear c10 c11 c12 c00 c01 c02 f10 f11 f12 f00 f01 f02 g1 g4 hWF hdb
        refine bodyPost_ret (v := .tuple #[dtv Y m dd, .int .i64 0]) (by simp [results, Tryz.results33, go_sem, q0, q1, q2]) rfl ⟨?_, hkF⟩
        have hF : ymdF N = (Y, M.1, M.2 + 1) := by
          rw [HMM.out, HY.out, HR.out]
          exact ymdF.eq_1 N
        rw [hF, hm2, hdd]
      · have hd2 : decide (V2 ≤ d) = true := by rw [decide_eq_true_iff]; exact hc
        have HX := Lib.hid hc
        have HV2 := Lib.hid hV2
        clear hc hV2
        go_wp2_with fail
        refine (HK2.out _).mono ?_
        rintro e w' ⟨rfl, rfl⟩
        go_wp2_with fail
        refine (HK2.out _).mono ?_
        rintro e w' ⟨rfl, rfl⟩
        go_wp2_with fail
        have e1 : wrap64 ((d : Int) - (V2 : Int)) = ((d - V2 : Nat) : Int) := by
          have h1 := HD.out.2.2.1
          have h2 := HL.out
          have h3 := HR.out
          have h4 := HX.out
          rw [IntWalk.wrap64_in _ (by omega)]
          omega
        have e2 : wrap64 ((m : Int) + 1) = ((m + 1 : Nat) : Int) := by
          have h5 := HD.out.2.1
          rw [IntWalk.wrap64_in _ (by omega)]
          rfl
        rw [e1, e2]
        clear e1 e2
        have hlt : R < aheadF Y 13 := by
          rw [HR.out, HY.out]
          exact rest_lt N
        have hst := HD.out.step hlt (by have := HV2.out; have := HX.out; omega)
        rw [← HV2.out] at hst
        have hB := HB.out
        have hset := set_at Hb1.out 1 (.int .i64 ((m + 1 : Nat) : Int))
        go_round
        case rel => exact ⟨d - V2, m + 1, rfl, Lib.hid hst, Lib.hid (HKw.out.setCell (.inr (by show w.heap.size ≤ B1; omega)) _), Lib.hid (set_far Hb0.out (by show w.heap.size ≠ B1; omega) _), Lib.hid (by rw [hset]; rfl)⟩
        case measure =>
          have h4 := HX.out
          have h6 := (monF_pos Y m).1
          have h7 := HV2.out
          show (((d - V2 : Nat) : Int)).toNat < ((d : Int)).toNat
          omega
  · rename_i hx
    simp only [KG0.out, KG2.out, KG6.out, KG7.out] at hx
    have G8 := KH8.out (by omega)
    have G10 := KH10.out (by omega)
    simp only [KG0.out, KG2.out, KG11.out, KG16.out, KG17.out, KG18.out, G10] at h
    have G19 := KG19.out (by omega)
    have G20 := KG20.out (by omega)
    simp only [KG0.out, KG1.out, KG2.out, KG3.out, KG6.out, KG7.out, KG4.out, KG5.out, KG9.out, KG11.out, KG12.out, KG13.out, KG14.out, KG15.out, KG16.out, KG17.out, KG18.out, G8, G10, G19, G20, KG21.out]
    clear hx h G8 G10 G19 G20
    obtain ⟨W0, hW0⟩ : ∃ W0, W0 = (w.alloc (.cells #[.int .i64 0, .int .i64 0, .int .i64 0] 66 (0, 0))).alloc (.cells #[.int .i64 (Y : Int), .int .i64 1, .int .i64 0] 66 (0, 0)) := ⟨_, rfl⟩
    rw [← hW0]
    have hk0 : Kp No w W0 := by rw [hW0]; exact ((Kp.refl _ _).alloc _).alloc _
    obtain ⟨B1, hB1⟩ : ∃ B1, B1 = w.heap.size + 1 := ⟨_, rfl⟩
    have h0 : W0.heap[w.heap.size]? = some (.cells #[.int .i64 0, .int .i64 0, .int .i64 0] 66 (0, 0)) := by
      rw [hW0]
      exact alloc_far (heap_alloc_new w _) _
    have h1 : W0.heap[B1]? = some (.cells #[.int .i64 (Y : Int), .int .i64 1, .int .i64 0] 66 (0, 0)) := by
      rw [hW0, hB1]
      have := heap_alloc_new (w.alloc (.cells #[.int .i64 0, .int .i64 0, .int .i64 0] 66 (0, 0))) (.cells #[.int .i64 (Y : Int), .int .i64 1, .int .i64 0] 66 (0, 0))
      rw [show (w.alloc (.cells #[.int .i64 0, .int .i64 0, .int .i64 0] 66 (0, 0))).heap.size = w.heap.size + 1 by simp] at this
      exact this
    rw [← hB1]
    clear hW0
    have HK0 := Lib.hid hk0
    have H00 := Lib.hid h0
    have H01 := Lib.hid h1
    have HB := Lib.hid hB1
    clear hk0 h0 h1 hB1
    obtain ⟨M, hM⟩ : ∃ M, M = moF Y 12 1 R := ⟨_, rfl⟩
    have HMM := Lib.hid hM
    have HS := Lib.hid (show DS Y R M 1 R by rw [hM]; exact DS.start Y R)
    clear hM
    go_loopw [4] (fun x wr => ∃ d m : Nat, x = .int .i64 (d : Int) ∧ Hid (DS Y R M m d) ∧ Hid (Kp No w wr) ∧ Hid (wr.heap[w.heap.size]? = some (.cells #[.int .i64 0, .int .i64 0, .int .i64 0] 66 (0, 0))) ∧ Hid (wr.heap[B1]? = some (.cells #[.int .i64 (Y : Int), .int .i64 (m : Int), .int .i64 0] 66 (0, 0)))) (fun x _ => (intOf x).toNat)
    case atStart => exact ⟨R, 1, rfl, HS, HK0, H00, H01⟩
    case round =>
      obtain ⟨d, m, rfl, HD, HKw, Hb0, Hb1⟩ := hrel
      obtain ⟨V2, hV2⟩ : ∃ V2, V2 = monF Y m := ⟨_, rfl⟩
      have hcall := HM.out Y m (by have := HY.out; have := calZ_lt HL.out; omega) ⟨HD.out.1, HD.out.2.1⟩
      rw [← hV2] at hcall
      have HK2 := Lib.hid hcall
      clear hcall
      have c10 := cell_at Hb1.out 0
      have c11 := cell_at Hb1.out 1
      have c12 := cell_at Hb1.out 2
      have c00 := cell_at Hb0.out 0
      have c01 := cell_at Hb0.out 1
      have c02 := cell_at Hb0.out 2
      have f10 := free_at Hb1.out 0
      have f11 := free_at Hb1.out 1
      have f12 := free_at Hb1.out 2
      have f00 := free_at Hb0.out 0
      have f01 := free_at Hb0.out 1
      have f02 := free_at Hb0.out 2
      have hne : (w.heap.size = B1) = False := by have := HB.out; simp; omega
      have hne' : (B1 = w.heap.size) = False := by have := HB.out; simp; omega
      simp at c10 c11 c12 c00 c01 c02
      rcases Nat.lt_or_ge d V2 with hc | hc
      · have hd2 : decide (V2 ≤ d) = false := by rw [decide_eq_false_iff_not]; omega
        have HX := Lib.hid hc
        have HV2 := Lib.hid hV2
        clear hc hV2
        go_wp2_with fail
        refine (HK2.out _).mono ?_
        rintro e w' ⟨rfl, rfl⟩
        go_wp2_with fail
        have hdb : wrap64 ((d : Int) + 1) = ((d + 1 : Nat) : Int) := by
          have h1 := HD.out.2.2.1
          have h2 := HL.out
          have h3 := HR.out
          rw [IntWalk.wrap64_in _ (by omega)]
          rfl
        rw [hdb]
        have hm2 : M = (m, d) := HD.out.stop (by have := HV2.out; have := HX.out; omega)
        have hB := HB.out
        obtain ⟨WF, hWF⟩ : ∃ WF, WF = (((wr.setCell ⟨B1, 2, none⟩ (.int .i64 ((d + 1 : Nat) : Int))).setCell ⟨w.heap.size, 0, none⟩ (.int .i64 (Y : Int))).setCell ⟨w.heap.size, 1, none⟩ (.int .i64 (m : Int))).setCell ⟨w.heap.size, 2, none⟩ (.int .i64 ((d + 1 : Nat) : Int)) := ⟨_, rfl⟩
        have g1 := set_far Hb0.out (p := ⟨B1, 2, none⟩) (by show w.heap.size ≠ B1; omega) (.int .i64 ((d + 1 : Nat) : Int))
        have g4 := set_at (set_at (set_at g1 0 (.int .i64 (Y : Int))) 1 (.int .i64 (m : Int))) 2 (.int .i64 ((d + 1 : Nat) : Int))
        have hkF : Kp No w WF := by
          rw [hWF]
          exact (((HKw.out.setCell (.inr (by show w.heap.size ≤ B1; omega)) _).setCell (.inr (Nat.le_refl _)) _).setCell (.inr (Nat.le_refl _)) _).setCell (.inr (Nat.le_refl _)) _
        rw [← hWF] at g4 ⊢
        have q0 := cell_at g4 0
        have q1 := cell_at g4 1
        have q2 := cell_at g4 2
        obtain ⟨dd, hdd⟩ : ∃ dd, dd = d + 1 := ⟨_, rfl⟩
        rw [← hdd] at q0 q1 q2 ⊢
        simp at q0 q1 q2
        clear c10 c11 c12 c00 c01 c02 f10 f11 f12 f00 f01 f02 g1 g4 hWF hdb
        refine bodyPost_ret (v := .tuple #[dtv Y m dd, .int .i64 0]) (by simp [results, Tryz.results33, go_sem, q0, q1, q2]) rfl ⟨?_, hkF⟩
        have hF : ymdF N = (Y, M.1, M.2 + 1) := by
          rw [HMM.out, HY.out, HR.out]
          exact ymdF.eq_1 N
        rw [hF, hm2, hdd]
      · have hd2 : decide (V2 ≤ d) = true := by rw [decide_eq_true_iff]; exact hc
        have HX := Lib.hid hc
        have HV2 := Lib.hid hV2
        clear hc hV2
        go_wp2_with fail
        refine (HK2.out _).mono ?_
        rintro e w' ⟨rfl, rfl⟩
        go_wp2_with fail
        refine (HK2.out _).mono ?_
        rintro e w' ⟨rfl, rfl⟩
        go_wp2_with fail
        have e1 : wrap64 ((d : Int) - (V2 : Int)) = ((d - V2 : Nat) : Int) := by
          have h1 := HD.out.2.2.1
          have h2 := HL.out
          have h3 := HR.out
          have h4 := HX.out
          rw [IntWalk.wrap64_in _ (by omega)]
          omega
        have e2 : wrap64 ((m : Int) + 1) = ((m + 1 : Nat) : Int) := by
          have h5 := HD.out.2.1
          rw [IntWalk.wrap64_in _ (by omega)]
          rfl
        rw [e1, e2]
        clear e1 e2
        have hlt : R < aheadF Y 13 := by
          rw [HR.out, HY.out]
          exact rest_lt N
        have hst := HD.out.step hlt (by have := HV2.out; have := HX.out; omega)
        rw [← HV2.out] at hst
        have hB := HB.out
        have hset := set_at Hb1.out 1 (.int .i64 ((m + 1 : Nat) : Int))
        go_round
        case rel => exact ⟨d - V2, m + 1, rfl, Lib.hid hst, Lib.hid (HKw.out.setCell (.inr (by show w.heap.size ≤ B1; omega)) _), Lib.hid (set_far Hb0.out (by show w.heap.size ≠ B1; omega) _), Lib.hid (by rw [hset]; rfl)⟩
        case measure =>
          have h4 := HX.out
          have h6 := (monF_pos Y m).1
          have h7 := HV2.out
          show (((d - V2 : Nat) : Int)).toNat < ((d : Int)).toNat
          omega
  · rename_i hx
    simp only [KG0.out, KG2.out, KG6.out, KG7.out] at hx
    have G8 := KH8.out (by omega)
    have G10 := KH10.out (by omega)
    simp only [KG0.out, KG2.out, KG11.out, KG16.out, KG17.out, KG18.out, G10] at h
    have G19 := KH19.out (by omega)
    have G20 := KH20.out (by omega)
    simp only [KG0.out, KG1.out, KG2.out, KG3.out, KG6.out, KG7.out, KG4.out, KG5.out, KG9.out, KG11.out, KG12.out, KG13.out, KG14.out, KG15.out, KG16.out, KG17.out, KG18.out, G8, G10, G19, G20, KG21.out]
    clear hx h G8 G10 G19 G20
    obtain ⟨W0, hW0⟩ : ∃ W0, W0 = (w.alloc (.cells #[.int .i64 0, .int .i64 0, .int .i64 0] 66 (0, 0))).alloc (.cells #[.int .i64 (Y : Int), .int .i64 1, .int .i64 0] 66 (0, 0)) := ⟨_, rfl⟩
    rw [← hW0]
    have hk0 : Kp No w W0 := by rw [hW0]; exact ((Kp.refl _ _).alloc _).alloc _
    obtain ⟨B1, hB1⟩ : ∃ B1, B1 = w.heap.size + 1 := ⟨_, rfl⟩
    have h0 : W0.heap[w.heap.size]? = some (.cells #[.int .i64 0, .int .i64 0, .int .i64 0] 66 (0, 0)) := by
      rw [hW0]
      exact alloc_far (heap_alloc_new w _) _
    have h1 : W0.heap[B1]? = some (.cells #[.int .i64 (Y : Int), .int .i64 1, .int .i64 0] 66 (0, 0)) := by
      rw [hW0, hB1]
      have := heap_alloc_new (w.alloc (.cells #[.int .i64 0, .int .i64 0, .int .i64 0] 66 (0, 0))) (.cells #[.int .i64 (Y : Int), .int .i64 1, .int .i64 0] 66 (0, 0))
      rw [show (w.alloc (.cells #[.int .i64 0, .int .i64 0, .int .i64 0] 66 (0, 0))).heap.size = w.heap.size + 1 by simp] at this
      exact this
    rw [← hB1]
    clear hW0
    have HK0 := Lib.hid hk0
    have H00 := Lib.hid h0
    have H01 := Lib.hid h1
    have HB := Lib.hid hB1
    clear hk0 h0 h1 hB1
    obtain ⟨M, hM⟩ : ∃ M, M = moF Y 12 1 R := ⟨_, rfl⟩
    have HMM := Lib.hid hM
    have HS := Lib.hid (show DS Y R M 1 R by rw [hM]; exact DS.start Y R)
    clear hM
    go_loopw [4] (fun x wr => ∃ d m : Nat, x = .int .i64 (d : Int) ∧ Hid (DS Y R M m d) ∧ Hid (Kp No w wr) ∧ Hid (wr.heap[w.heap.size]? = some (.cells #[.int .i64 0, .int .i64 0, .int .i64 0] 66 (0, 0))) ∧ Hid (wr.heap[B1]? = some (.cells #[.int .i64 (Y : Int), .int .i64 (m : Int), .int .i64 0] 66 (0, 0)))) (fun x _ => (intOf x).toNat)
    case atStart => exact ⟨R, 1, rfl, HS, HK0, H00, H01⟩
    case round =>
      obtain ⟨d, m, rfl, HD, HKw, Hb0, Hb1⟩ := hrel
      obtain ⟨V2, hV2⟩ : ∃ V2, V2 = monF Y m := ⟨_, rfl⟩
      have hcall := HM.out Y m (by have := HY.out; have := calZ_lt HL.out; omega) ⟨HD.out.1, HD.out.2.1⟩
      rw [← hV2] at hcall
      have HK2 := Lib.hid hcall
      clear hcall
      have c10 := cell_at Hb1.out 0
      have c11 := cell_at Hb1.out 1
      have c12 := cell_at Hb1.out 2
      have c00 := cell_at Hb0.out 0
      have c01 := cell_at Hb0.out 1
      have c02 := cell_at Hb0.out 2
      have f10 := free_at Hb1.out 0
      have f11 := free_at Hb1.out 1
      have f12 := free_at Hb1.out 2
      have f00 := free_at Hb0.out 0
      have f01 := free_at Hb0.out 1
      have f02 := free_at Hb0.out 2
      have hne : (w.heap.size = B1) = False := by have := HB.out; simp; omega
      have hne' : (B1 = w.heap.size) = False := by have := HB.out; simp; omega
      simp at c10 c11 c12 c00 c01 c02
      rcases Nat.lt_or_ge d V2 with hc | hc
      · have hd2 : decide (V2 ≤ d) = false := by rw [decide_eq_false_iff_not]; omega
        have HX := Lib.hid hc
        have HV2 := Lib.hid hV2
        clear hc hV2
        go_wp2_with fail
        refine (HK2.out _).mono ?_
        rintro e w' ⟨rfl, rfl⟩
        go_wp2_with fail
        have hdb : wrap64 ((d : Int) + 1) = ((d + 1 : Nat) : Int) := by
          have h1 := HD.out.2.2.1
          have h2 := HL.out
          have h3 := HR.out
          rw [IntWalk.wrap64_in _ (by omega)]
          rfl
        rw [hdb]
        have hm2 : M = (m, d) := HD.out.stop (by have := HV2.out; have := HX.out; omega)
        have hB := HB.out
        obtain ⟨WF, hWF⟩ : ∃ WF, WF = (((wr.setCell ⟨B1, 2, none⟩ (.int .i64 ((d + 1 : Nat) : Int))).setCell ⟨w.heap.size, 0, none⟩ (.int .i64 (Y : Int))).setCell ⟨w.heap.size, 1, none⟩ (.int .i64 (m : Int))).setCell ⟨w.heap.size, 2, none⟩ (.int .i64 ((d + 1 : Nat) : Int)) := ⟨_, rfl⟩
        have g1 := set_far Hb0.out (p := ⟨B1, 2, none⟩) (by show w.heap.size ≠ B1; omega) (.int .i64 ((d + 1 : Nat) : Int))
        have g4 := set_at (set_at (set_at g1 0 (.int .i64 (Y : Int))) 1 (.int .i64 (m : Int))) 2 (.int .i64 ((d + 1 : Nat) : Int))
        have hkF : Kp No w WF := by
          rw [hWF]
          exact (((HKw.out.setCell (.inr (by show w.heap.size ≤ B1; omega)) _).setCell (.inr (Nat.le_refl _)) _).setCell (.inr (Nat.le_refl _)) _).setCell (.inr (Nat.le_refl _)) _
        rw [← hWF] at g4 ⊢
        have q0 := cell_at g4 0
        have q1 := cell_at g4 1
        have q2 := cell_at g4 2
        obtain ⟨dd, hdd⟩ : ∃ dd, dd = d + 1 := ⟨_, rfl⟩
        rw [← hdd] at q0 q1 q2 ⊢
        simp at q0 q1 q2
        clear c10 c11 c12 c00 c01 c02 f10 f11 f12 f00 f01 f02 g1 g4 hWF hdb
        refine bodyPost_ret (v := .tuple #[dtv Y m dd, .int .i64 0]) (by simp [results, Tryz.results33, go_sem, q0, q1, q2]) rfl ⟨?_, hkF⟩
        have hF : ymdF N = (Y, M.1, M.2 + 1) := by
          rw [HMM.out, HY.out, HR.out]
          exact ymdF.eq_1 N
        rw [hF, hm2, hdd]
      · have hd2 : decide (V2 ≤ d) = true := by rw [decide_eq_true_iff]; exact hc
        have HX := Lib.hid hc
        have HV2 := Lib.hid hV2
        clear hc hV2
        go_wp2_with fail
        refine (HK2.out _).mono ?_
        rintro e w' ⟨rfl, rfl⟩
        go_wp2_with fail
        refine (HK2.out _).mono ?_
        rintro e w' ⟨rfl, rfl⟩
        go_wp2_with fail
        have e1 : wrap64 ((d : Int) - (V2 : Int)) = ((d - V2 : Nat) : Int) := by
          have h1 := HD.out.2.2.1
          have h2 := HL.out
          have h3 := HR.out
          have h4 := HX.out
          rw [IntWalk.wrap64_in _ (by omega)]
          omega
        have e2 : wrap64 ((m : Int) + 1) = ((m + 1 : Nat) : Int) := by
          have h5 := HD.out.2.1
          rw [IntWalk.wrap64_in _ (by omega)]
          rfl
        rw [e1, e2]
        clear e1 e2
        have hlt : R < aheadF Y 13 := by
          rw [HR.out, HY.out]
          exact rest_lt N
        have hst := HD.out.step hlt (by have := HV2.out; have := HX.out; omega)
        rw [← HV2.out] at hst
        have hB := HB.out
        have hset := set_at Hb1.out 1 (.int .i64 ((m + 1 : Nat) : Int))
        go_round
        case rel => exact ⟨d - V2, m + 1, rfl, Lib.hid hst, Lib.hid (HKw.out.setCell (.inr (by show w.heap.size ≤ B1; omega)) _), Lib.hid (set_far Hb0.out (by show w.heap.size ≠ B1; omega) _), Lib.hid (by rw [hset]; rfl)⟩
        case measure =>
          have h4 := HX.out
          have h6 := (monF_pos Y m).1
          have h7 := HV2.out
          show (((d - V2 : Nat) : Int)).toNat < ((d : Int)).toNat
          omega
end Go.Proofs.YtapikolgpmefbaaGreatDoor
