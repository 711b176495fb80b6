/-
  The reference's Date: a count of days told as year, month, day.
-/
import Derived.Test.YtapikolgpmefbaaGreatDoorLMon
namespace Go.Proofs.YtapikolgpmefbaaGreatDoor
open Go.RowKit Go.Mer

/-- The months gone by, so far. -/
def DS (y R : Nat) (p : Nat × Nat) (m d : Nat) : Prop := 1 ≤ m ∧ m ≤ 12 ∧ aheadF y m + d = R ∧ moF y (13 - m) m d = p
theorem DS.step {y R : Nat} {p : Nat × Nat} {m d : Nat} (h : DS y R p m d) (hR : R < aheadF y 13) (hd : monF y m ≤ d) : DS y R p (m + 1) (d - monF y m) := by
  obtain ⟨h1, h2, h3, h4⟩ := h
  obtain ⟨k, rfl⟩ : ∃ k, m = k + 1 := ⟨m - 1, by omega⟩
  have ha : aheadF y (k + 1 + 1) = aheadF y (k + 1) + monF y (k + 1) := rfl
  have hm : k + 1 ≠ 12 := by
    intro hk
    obtain rfl : k = 11 := by omega
    have : aheadF y 13 = aheadF y (11 + 1) + monF y (11 + 1) := rfl
    omega
  refine ⟨by omega, by omega, by rw [ha]; omega, ?_⟩
  rw [← h4]
  have e : 13 - (k + 1) = (13 - (k + 1 + 1)) + 1 := by omega
  rw [e, moF, if_pos hd]
theorem DS.stop {y R : Nat} {p : Nat × Nat} {m d : Nat} (h : DS y R p m d) (hd : d < monF y m) : p = (m, d) := by
  obtain ⟨h1, h2, h3, h4⟩ := h
  have e : 13 - m = (12 - m) + 1 := by omega
  rw [← h4, e, moF, if_neg (by omega)]
theorem DS.start (y R : Nat) : DS y R (moF y 12 1 R) 1 R := ⟨Nat.le_refl _, by decide, by simp [aheadF], rfl⟩
theorem calZ_ge (N : Nat) : N / 366 ≤ calZ N := by
  have h := (calZ_is N).2
  rcases Nat.lt_or_ge (calZ N) (N / 366) with hc | hc
  · have h1 := yearZ_mono (show calZ N + 1 ≤ N / 366 from hc)
    have h2 : yearZ (N / 366) ≤ 366 * (N / 366) := by unfold yearZ; omega
    omega
  · exact hc
theorem calZ_lt {N : Nat} (h : N < 3652059) : calZ N ≤ 9998 := by
  have h1 := (calZ_is N).1
  rcases Nat.lt_or_ge (calZ N) 9999 with hc | hc
  · omega
  · have := yearZ_mono hc
    have e : yearZ 9999 = 3652059 := rfl
    omega
theorem rest_lt (N : Nat) : N - yearZ (calZ N) < aheadF (calZ N + 1) 13 := by
  rw [ahead_year]
  have := calZ_is N
  omega
/-- A date's value. -/
abbrev dtv (y m d : Nat) : Value := .agg #[.int .i64 (y : Int), .int .i64 (m : Int), .int .i64 (d : Int)]
def inF (n : Int) : Bool := decide (-719162 ≤ n) && decide (n < 2932897)
theorem year_1970 (w : World) : Calls Tryz.prog 48 #[.int .i64 1970] w fun e w' => e = .returned (.int .i64 719162) ∧ w = w' := year_any 1970 (by decide) w
theorem year_10000 (w : World) : Calls Tryz.prog 48 #[.int .i64 10000] w fun e w' => e = .returned (.int .i64 3652059) ∧ w = w' := year_any 10000 (by decide) w
theorem three (a b c : Int) (_hab : a ≤ b) : c < a ∨ (a ≤ c ∧ c ≤ b) ∨ b < c := by omega
theorem rIn_any (n : Int) (w : World) : Calls Tryz.prog 30 #[.int .i64 n] w fun e w' => e = .returned (.bool (inF n)) ∧ w = w' := by
  unfold inF
  have H1 := Lib.hid year_1970
  have H2 := Lib.hid year_10000
  rcases three (-719162) 2932896 n (by decide) with h | ⟨h, h1⟩ | h
  · have b0 : decide (-719162 ≤ n) = false := by simpa using h
    go_enter Tryz.func30, Tryz.ntmps30
    go_wp2_with fail
    refine (H1.out _).mono ?_
    rintro e w' ⟨rfl, rfl⟩
    go_wp2_with fail
    go_ret
    exact ⟨by simp [*], rfl⟩
  · have b0 : decide (-719162 ≤ n) = true := by simpa using h
    have b1 : decide (n < 2932897) = true := by rw [decide_eq_true_iff]; omega
    go_enter Tryz.func30, Tryz.ntmps30
    go_wp2_with fail
    refine (H1.out _).mono ?_
    rintro e w' ⟨rfl, rfl⟩
    go_wp2_with fail
    refine (H2.out _).mono ?_
    rintro e w' ⟨rfl, rfl⟩
    go_wp2_with fail
    refine (H1.out _).mono ?_
    rintro e w' ⟨rfl, rfl⟩
    go_wp2_with fail
    go_ret
    exact ⟨by simp [*], rfl⟩
  · have b0 : decide (-719162 ≤ n) = true := by rw [decide_eq_true_iff]; omega
    have b1 : decide (n < 2932897) = false := by rw [decide_eq_false_iff_not]; omega
    clear h
    go_enter Tryz.func30, Tryz.ntmps30
    go_wp2_with fail
    refine (H1.out _).mono ?_
    rintro e w' ⟨rfl, rfl⟩
    go_wp2_with fail
    refine (H2.out _).mono ?_
    rintro e w' ⟨rfl, rfl⟩
    go_wp2_with fail
    refine (H1.out _).mono ?_
    rintro e w' ⟨rfl, rfl⟩
    go_wp2_with fail
    go_ret
    exact ⟨by simp [*], rfl⟩
/-- What a date's count tells. -/
def dateV (n : Int) : Value := if inF n then .tuple #[dtv (ymdF (n + 719162).toNat).1 (ymdF (n + 719162).toNat).2.1 (ymdF (n + 719162).toNat).2.2, .int .i64 0] else .tuple #[dtv 0 0 0, .int .i64 11]
theorem rDate_no (n : Int) (w : World) (h : inF n = false) : Calls Tryz.prog 36 #[.int .i64 n] w fun e w' => e = .returned (.tuple #[dtv 0 0 0, .int .i64 11]) ∧ Kp No w w' := by
  have HI := Lib.hid rIn_any
  have HH := Lib.hid h
  clear h
  go_enter Tryz.func36, Tryz.ntmps36
  go_wp2_with fail
  refine (HI.out _ _).mono ?_
  rintro e w' ⟨rfl, rfl⟩
  rw [HH.out]
  go_wp2_with fail
  exact bodyPost_ret (v := .tuple #[dtv 0 0 0, .int .i64 11]) (by simp [results, Tryz.results36, go_sem]) rfl ⟨rfl, (Kp.refl _ _).alloc _⟩
theorem yearC (k : Nat) (hk : k ≤ 9999) (W : World) : Calls Tryz.prog 48 #[.int .i64 (wrap64 ((k : Int) + 1))] W fun e w' => e = .returned (.int .i64 (yearZ k : Int)) ∧ W = w' := by
  rw [IntWalk.wrap64_in ((k : Int) + 1) (by omega)]
  exact year_any (k + 1) (by omega) W
theorem rDate_yes (N : Nat) (w : World) (h : N < 3652059) : Calls Tryz.prog 36 #[.int .i64 ((N : Int) - 719162)] w fun e w' => e = .returned (.tuple #[dtv (ymdF N).1 (ymdF N).2.1 (ymdF N).2.2, .int .i64 0]) ∧ Kp No w w' := by
  have HI := Lib.hid (rIn_any ((N : Int) - 719162))
  have H1 := Lib.hid year_1970
  have HY := Lib.hid year_any
  have HM := Lib.hid Length_any
  have hin : inF ((N : Int) - 719162) = true := by
    unfold inF
    rw [Bool.and_eq_true, decide_eq_true_iff, decide_eq_true_iff]
    omega
  have HN := Lib.hid hin
  have HW := Lib.hid (IntWalk.wrap64_in (N : Int) (by omega))
  obtain ⟨Y, hY⟩ : ∃ Y, Y = calZ N + 1 := ⟨_, rfl⟩
  obtain ⟨Q, hQ⟩ : ∃ Q, Q = N / 366 := ⟨_, rfl⟩
  obtain ⟨Q1, hQ1⟩ : ∃ Q1, Q1 = Q + 1 := ⟨_, rfl⟩
  have HQ0 := Lib.hid (show wrap64 ((N : Int).tdiv 366) = (Q : Int) by
    rw [show (N : Int).tdiv 366 = ((N / 366 : Nat) : Int) from rfl, IntWalk.wrap64_in _ (by omega), hQ])
  have HQ := Lib.hid (show wrap64 ((Q : Int) + 1) = (Q1 : Int) by
    rw [IntWalk.wrap64_in _ (by omega), hQ1]
    rfl)
  have HG := Lib.hid (show 1 ≤ Q1 ∧ Q1 ≤ Y by have := calZ_ge N; omega)
  have HL := Lib.hid h
  have HZ9 := Lib.hid (show 1 ≤ Y ∧ Y ≤ 9999 by have := calZ_lt h; omega)
  have HZ9' := Lib.hid (show 1 ≤ Y ∧ Y ≤ 20000 by have := calZ_lt h; omega)
  have HZI := Lib.hid (show yearZ (Y - 1) ≤ N ∧ N < yearZ Y by rw [hY, Nat.add_sub_cancel]; exact calZ_is N)
  have HR := Lib.hid (show N - yearZ (Y - 1) < aheadF Y 13 by rw [hY, Nat.add_sub_cancel]; exact rest_lt N)
  have HF := Lib.hid (show ymdF N = (Y, (moF Y 12 1 (N - yearZ (Y - 1))).1, (moF Y 12 1 (N - yearZ (Y - 1))).2 + 1) by rw [hY, Nat.add_sub_cancel]; exact ymdF.eq_1 N)
  have HC := Lib.hid (fun (k : Nat) (hk : k ≤ 9999) (W : World) => yearC k hk W)
  clear hin h hY hQ hQ1
  go_enter Tryz.func36, Tryz.ntmps36
  go_wp2_with fail
  refine (HI.out _).mono ?_
  rintro e w' ⟨rfl, rfl⟩
  rw [HN.out]
  go_wp2_with fail
  refine (H1.out _).mono ?_
  rintro e w' ⟨rfl, rfl⟩
  go_wp2_with fail
  rw [HW.out, HQ0.out, HQ.out]
  go_loop [5] (fun y => ∃ k : Nat, 1 ≤ k ∧ k ≤ Y ∧ y = .int .i64 (k : Int)) (fun y => Y - (intOf y).toNat)
  case atStart => exact ⟨Q1, HG.out.1, HG.out.2, rfl⟩
  case round =>
    obtain ⟨k, hk1, hkZ, rfl⟩ := hrel
    obtain ⟨V, hV⟩ : ∃ V, V = yearZ k := ⟨_, rfl⟩
    have hcall := HC.out k (by have := HZ9.out; omega)
    rw [← hV] at hcall
    have HK := Lib.hid hcall
    clear hcall
    rcases Nat.lt_or_ge k Y with hc | hc
    · have hle : V ≤ N := by
        rw [hV]
        exact Nat.le_trans (yearZ_mono (by omega)) HZI.out.1
      have hd : decide (V ≤ N) = true := by rw [decide_eq_true_iff]; exact hle
      have HX := Lib.hid (And.intro hk1 (And.intro hkZ hc))
      have HB := Lib.hid (show wrap64 ((k : Int) + 1) = ((k + 1 : Nat) : Int) by have := HZ9.out; rw [IntWalk.wrap64_in _ (by omega)]; rfl)
      clear hle hV hk1 hkZ hc
      go_wp2_with fail
      refine (HK.out _).mono ?_
      rintro e w' ⟨rfl, rfl⟩
      go_wp2_with fail
      rw [HB.out]
      go_round
      case rel => exact ⟨k + 1, by omega, by have := HX.out; omega, rfl⟩
      case measure =>
        have := HX.out
        show Y - (((k + 1 : Nat) : Int)).toNat < Y - (k : Int).toNat
        omega
    · obtain rfl : k = Y := by omega
      have hle : N < V := by
        rw [hV]
        exact HZI.out.2
      have hd : decide (V ≤ N) = false := by rw [decide_eq_false_iff_not]; omega
      clear hle hV hk1 hkZ hc
      go_wp2_with fail
      refine (HK.out _).mono ?_
      rintro e w' ⟨rfl, rfl⟩
      go_wp2_with fail
      have hyy := HY.out k HZ9'.out
      obtain ⟨P, hP⟩ : ∃ P, P = yearZ (k - 1) := ⟨_, rfl⟩
      rw [← hP] at hyy HZI HR HF
      refine (hyy _).mono ?_
      rintro e w' ⟨rfl, rfl⟩
      clear hyy
      have HP := Lib.hid hP
      clear hP
      go_wp2_with fail
      obtain ⟨R, hR⟩ : ∃ R, R = N - P := ⟨_, rfl⟩
      rw [← hR] at HR HF
      have hnp : wrap64 ((N : Int) - (P : Int)) = (R : Int) := by
        have h1 := HZI.out
        have h2 := HL.out
        rw [IntWalk.wrap64_in _ (by omega)]
        omega
      rw [hnp]
      clear hnp
      have HRR := Lib.hid hR
      clear hR
      obtain ⟨M, hM⟩ : ∃ M, M = moF k 12 1 R := ⟨_, rfl⟩
      rw [← hM] at HF
      have HS := Lib.hid (show DS k R M 1 R by rw [hM]; exact DS.start k R)
      clear hM
      go_loop [4, 6] (fun x y => ∃ d m : Nat, x = .int .i64 (d : Int) ∧ y = .int .i64 (m : Int) ∧ Hid (DS k R M m d)) (fun _ y => 13 - (intOf y).toNat)
      case atStart => exact ⟨R, 1, rfl, rfl, HS⟩
      case round =>
        obtain ⟨d, m, rfl, rfl, HD⟩ := hrel
        obtain ⟨V2, hV2⟩ : ∃ V2, V2 = monF k m := ⟨_, rfl⟩
        have hcall := HM.out k m ⟨HD.out.1, HD.out.2.1⟩
        rw [← hV2] at hcall
        have HK2 := Lib.hid hcall
        clear hcall
        rcases Nat.lt_or_ge d V2 with hc | hc
        · have hd2 : decide (V2 ≤ d) = false := by rw [decide_eq_false_iff_not]; omega
          have HX := Lib.hid hc
          have HV2 := Lib.hid hV2
          clear hc hV2
          go_wp2_with fail
          refine (HK2.out _).mono ?_
          rintro e w' ⟨rfl, rfl⟩
          go_wp2_with fail
          have hdb : wrap64 ((d : Int) + 1) = ((d + 1 : Nat) : Int) := by
            have h1 := HD.out.2.2.1
            have h2 := HL.out
            have h3 := HRR.out
            rw [IntWalk.wrap64_in _ (by omega)]
            rfl
          rw [hdb]
          have hm2 : M = (m, d) := HD.out.stop (by have := HV2.out; have := HX.out; omega)
          refine bodyPost_ret (v := .tuple #[dtv k m (d + 1), .int .i64 0]) (by simp [results, Tryz.results36, go_sem]) rfl ⟨?_, (Kp.refl _ _).alloc _⟩
          rw [HF.out, hm2]
        · have hd2 : decide (V2 ≤ d) = true := by rw [decide_eq_true_iff]; exact hc
          have HX := Lib.hid hc
          have HV2 := Lib.hid hV2
          clear hc hV2
          go_wp2_with fail
          refine (HK2.out _).mono ?_
          rintro e w' ⟨rfl, rfl⟩
          go_wp2_with fail
          refine (HK2.out _).mono ?_
          rintro e w' ⟨rfl, rfl⟩
          go_wp2_with fail
          have h1 := HD.out.2.2.1
          have h2 := HL.out
          have h3 := HRR.out
          have h4 := HX.out
          have h5 := HD.out.2.1
          have e1 : wrap64 ((d : Int) - (V2 : Int)) = ((d - V2 : Nat) : Int) := by
            rw [IntWalk.wrap64_in _ (by omega)]
            omega
          have e2 : wrap64 ((m : Int) + 1) = ((m + 1 : Nat) : Int) := by
            rw [IntWalk.wrap64_in _ (by omega)]
            rfl
          clear h1 h2 h3 h4 h5
          rw [e1, e2]
          clear e1 e2
          go_round
          case rel => exact ⟨d - V2, m + 1, rfl, rfl, Lib.hid (by have := HD.out.step HR.out (by have := HV2.out; have := HX.out; omega); rw [← HV2.out] at this; exact this)⟩
          case measure =>
            have h5 := HD.out.2.1
            show 13 - (((m + 1 : Nat) : Int)).toNat < 13 - (m : Int).toNat
            omega
end Go.Proofs.YtapikolgpmefbaaGreatDoor
