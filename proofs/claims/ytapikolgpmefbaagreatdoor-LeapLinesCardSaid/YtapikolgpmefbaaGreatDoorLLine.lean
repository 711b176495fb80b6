/-
  What a line of a table's text says: leap's line.
-/
import Derived.Test.YtapikolgpmefbaaGreatDoorLIsNum
import Derived.Test.YtapikolgpmefbaaGreatDoorLParseD
import Derived.Test.YtapikolgpmefbaaGreatDoorLDays
import Derived.Lib.AtoiErrMem
namespace Go.Proofs.YtapikolgpmefbaaGreatDoor
open Go.RowKit Go.Mer

def expB : List UInt8 := [101, 120, 112, 105, 114, 101, 115, 32]
def finF : Option (Int × Int × Int) → Int → Int × Int × Bool
  | none, _ => (0, 0, false)
  | some x, o => (daysF x.1 x.2.1 x.2.2, o, true)
/-- What a line says: the day, the offset (-1: it is the end), whether it says anything. -/
def lineF (l : List UInt8) : Int × Int × Bool :=
  if Lib.hasPrefix l expB then finF (parseD (l.drop 8)) (-1)
  else if (cutF 32 l).2.2 && isNumF (cutF 32 l).2.1 then finF (parseD (cutF 32 l).1) (if decF 0 (cutF 32 l).2.1 < 1001 then decF 0 (cutF 32 l).2.1 else 1001)
  else (0, 0, false)
def lineV (x : Int × Int × Bool) : Value := .tuple #[.int .i64 x.1, .int .i64 x.2.1, .bool x.2.2]
/-- The digits of a line are not too many. -/
def LnOk (l : List UInt8) : Prop := Lib.hasPrefix l expB = false → (cutF 32 l).2.2 = true → isNumF (cutF 32 l).2.1 = true → (cutF 32 l).2.1.length ≤ 18
theorem decF_cons (a : Nat) (c : UInt8) (r : List UInt8) : decF a (c :: r) = decF (10 * a + (c.toNat - 48)) r := by
  conv => lhs; whnf
theorem decFrom_cons (a : Nat) (c : UInt8) (r : List UInt8) (d : Nat) (h : Lib.digitVal c = some d) : Lib.decFrom a (c :: r) = Lib.decFrom (a * 10 + d) r := by
  show (match Lib.digitVal c with
    | some d => Lib.decFrom (a * 10 + d) r
    | none => none) = _
  rw [h]
theorem decFrom_F (l : List UInt8) (h : l.all isDig = true) : ∀ a, Lib.decFrom a l = some (decF a l) := by
  induction l with
  | nil => intro a; rfl
  | cons c r ih =>
    intro a
    rw [List.all_cons, Bool.and_eq_true] at h
    have hd : Lib.digitVal c = some (c.toNat - 48) := by
      have := h.1
      unfold isDig at this
      rw [Bool.and_eq_true, decide_eq_true_iff, decide_eq_true_iff] at this
      unfold Lib.digitVal
      simp [this.1, this.2]
    rw [decF_cons, decFrom_cons a c r _ hd, ih h.2, Nat.mul_comm]
theorem atoi_num (l : List UInt8) (h : isNumF l = true) : Lib.atoi l = some (decF 0 l : Int) := by
  unfold isNumF at h
  simp only [Bool.and_eq_true] at h
  obtain ⟨⟨h1, h2⟩, _⟩ := h
  cases l with
  | nil => cases h1
  | cons c r =>
    have hc : isDig c = true := by rw [List.all_cons, Bool.and_eq_true] at h2; exact h2.1
    unfold isDig at hc
    rw [Bool.and_eq_true, decide_eq_true_iff, decide_eq_true_iff] at hc
    have e1 : (c == 45) = false := by rw [beq_eq_false_iff_ne]; rintro rfl; exact absurd hc.1 (by decide)
    have e2 : (c == 43) = false := by rw [beq_eq_false_iff_ne]; rintro rfl; exact absurd hc.1 (by decide)
    rw [Lib.atoi, e1, e2]
    simp only [Bool.false_eq_true, if_false]
    rw [Lib.decNat]
    simp only [List.isEmpty_cons, Bool.false_eq_true, if_false]
    rw [decFrom_F _ h2]
    rfl
theorem parseD_is {l : List UInt8} {x : Int × Int × Int} (h : parseD l = some x) : isD x.1 x.2.1 x.2.2 = true := by
  unfold parseD at h
  split at h
  · next hh => 
    obtain rfl : numsD l = x := by simpa using h
    exact hh.2.2.2
  · cases h
theorem cutF_len (c : UInt8) (l : List UInt8) : (cutF c l).1.length + (cutF c l).2.1.length ≤ l.length := by
  induction l with
  | nil => exact Nat.le_refl _
  | cons x r ih =>
    rw [cutF]
    split
    · simp
    · simp only [List.length_cons]; omega
set_option maxRecDepth 10000 in
set_option maxHeartbeats 2000000 in
theorem line_any (B : ByteArray) (w : World) (hB : B.size ≤ 1000000) (hok : LnOk B.data.toList) : Calls Tryz.prog 26 #[.string B] w fun e w' => e = .returned (lineV (lineF B.data.toList)) ∧ Kp No w w' := by
  obtain ⟨r, hr⟩ : ∃ r, r = lineF B.data.toList := ⟨_, rfl⟩
  rw [← hr]
  unfold lineF at hr
  have hcp := Tryz.strings_CutPrefix B ⟨expB.toArray⟩ w
  rw [show (ByteArray.mk expB.toArray).data.toList = expB from rfl] at hcp
  unfold Lib.trimPrefix at hcp
  cases hp : Lib.hasPrefix B.data.toList expB with
  | true =>
    rw [hp, if_pos rfl] at hr
    rw [hp, if_pos rfl] at hcp
    rw [show expB.length = 8 from rfl] at hcp
    obtain ⟨X, hX⟩ : ∃ X : ByteArray, X = ⟨(B.data.toList.drop 8).toArray⟩ := ⟨_, rfl⟩
    rw [← hX] at hcp
    have hXl : X.data.toList = B.data.toList.drop 8 := by rw [hX]
    have hpd := fun W => cParse_any X W
    rw [hXl] at hpd
    have HC := Lib.hid hcp
    have HP := Lib.hid hpd
    obtain ⟨P, hP⟩ : ∃ P, P = parseD (B.data.toList.drop 8) := ⟨_, rfl⟩
    rw [← hP] at HP hr
    have hPd : ∀ x, P = some x → isD x.1 x.2.1 x.2.2 = true := fun x hx => by rw [hx] at hP; exact parseD_is hP.symm
    clear hcp hpd hX hXl hp hP hok
    cases P with
    | none =>
      have HR := Lib.hid (show r = (0, 0, false) from hr)
      clear hr hPd
      go_enter Tryz.func26, Tryz.ntmps26
      go_wp2_with fail
      refine HC.out.mono ?_
      rintro e w1 ⟨rfl, rfl⟩
      go_wp2_with fail
      have HKQ := Lib.hid (Kp.refl No w1)
      refine (HP.out _).mono ?_
      rintro e w4 ⟨rfl, hk4⟩
      have HK4 := Lib.hid (HKQ.out.trans_same hk4)
      clear hk4
      unfold parseV dvI
      go_wp2_with fail
      refine bodyPost_ret (v := .tuple #[.int .i64 0, .int .i64 0, .bool false]) (by simp [results, Tryz.results26, go_sem]) rfl ⟨?_, HK4.out.alloc _⟩
      rw [HR.out]
      rfl
    | some x =>
      obtain ⟨y', m', d'⟩ := x
      have hpd := hPd _ rfl
      simp only at hpd
      obtain ⟨h1, h2, h3, h4, h5, h6⟩ := isD_spec hpd
      obtain ⟨y, rfl⟩ : ∃ y : Nat, y' = (y : Int) := ⟨y'.toNat, by omega⟩
      obtain ⟨m, rfl⟩ : ∃ y : Nat, m' = (y : Int) := ⟨m'.toNat, by omega⟩
      obtain ⟨d, rfl⟩ : ∃ y : Nat, d' = (y : Int) := ⟨d'.toNat, by omega⟩
      have HDY := Lib.hid (fun W => cDays_yes y m d hpd W)
      clear hPd hpd h1 h2 h3 h4 h5 h6
      have HR := Lib.hid (show r = (daysF y m d, -1, true) from hr)
      clear hr
      go_enter Tryz.func26, Tryz.ntmps26
      go_wp2_with fail
      refine HC.out.mono ?_
      rintro e w1 ⟨rfl, rfl⟩
      go_wp2_with fail
      have HKQ := Lib.hid (Kp.refl No w1)
      refine (HP.out _).mono ?_
      rintro e w4 ⟨rfl, hk4⟩
      have HK4 := Lib.hid (HKQ.out.trans_same hk4)
      clear hk4
      unfold parseV dvI
      go_wp2_with fail
      refine (HDY.out _).mono ?_
      rintro e w5 ⟨rfl, hk5⟩
      have HK5 := Lib.hid ((HK4.out.alloc _).trans_same hk5)
      clear hk5
      go_wp2_with fail
      refine bodyPost_ret (v := .tuple #[.int .i64 (daysF y m d), .int .i64 (-1), .bool true]) (by simp [results, Tryz.results26, go_sem]; try omega) rfl ⟨?_, HK5.out⟩
      rw [HR.out]
      rfl
  | false =>
    rw [hp, if_neg (by decide)] at hr
    rw [hp, if_neg (by decide), ← ba_eq B _ rfl] at hcp
    have HC := Lib.hid hcp
    have hcut := Cut_any B w hB
    obtain ⟨c, hc⟩ : ∃ c, c = cutF 32 B.data.toList := ⟨_, rfl⟩
    have hok' := hok hp
    rw [← hc] at hcut hr hok'
    obtain ⟨c1, c2, c3⟩ := c
    simp only at hcut hr hok'
    obtain ⟨X, hX⟩ : ∃ X : ByteArray, X = ⟨c1.toArray⟩ := ⟨_, rfl⟩
    obtain ⟨Y, hY⟩ : ∃ X : ByteArray, X = ⟨c2.toArray⟩ := ⟨_, rfl⟩
    have hXl : X.data.toList = c1 := by rw [hX]
    have hYl : Y.data.toList = c2 := by rw [hY]
    rw [show strV c1 = .string X by rw [hX]; rfl, show strV c2 = .string Y by rw [hY]; rfl] at hcut
    have HCU := Lib.hid hcut
    have hlen : c1.length + c2.length ≤ B.size := by
      have := cutF_len 32 B.data.toList
      rw [← hc] at this
      exact this
    clear hcp hcut hX hY hp hc hok
    cases c3 with
    | false =>
      have HR := Lib.hid (show r = (0, 0, false) by rw [hr]; rfl)
      clear hr hok' hlen hXl hYl
      go_enter Tryz.func26, Tryz.ntmps26
      go_wp2_with fail
      refine HC.out.mono ?_
      rintro e w1 ⟨rfl, rfl⟩
      go_wp2_with fail
      refine HCU.out.mono ?_
      rintro e w1 ⟨rfl, hk1⟩
      have HK1 := Lib.hid hk1
      clear hk1
      go_wp2_with fail
      refine bodyPost_ret (v := .tuple #[.int .i64 0, .int .i64 0, .bool false]) (by simp [results, Tryz.results26, go_sem]) rfl ⟨?_, HK1.out⟩
      rw [HR.out]
      rfl
    | true =>
      have hin := fun W => isNumber_any Y W (by
        have : Y.data.toList.length ≤ B.size := by rw [hYl]; omega
        exact Nat.le_trans this hB)
      rw [hYl] at hin
      cases hn : isNumF c2 with
      | false =>
        rw [hn] at hin
        have HIN := Lib.hid hin
        have HR := Lib.hid (show r = (0, 0, false) by rw [hr, hn]; rfl)
        clear hr hok' hlen hXl hYl hin hn
        go_enter Tryz.func26, Tryz.ntmps26
        go_wp2_with fail
        refine HC.out.mono ?_
        rintro e w1 ⟨rfl, rfl⟩
        go_wp2_with fail
        refine HCU.out.mono ?_
        rintro e w1 ⟨rfl, hk1⟩
        have HK1 := Lib.hid hk1
        clear hk1
        go_wp2_with fail
        refine (HIN.out _).mono ?_
        rintro e w2 ⟨rfl, hk2⟩
        have HK2 := Lib.hid (HK1.out.trans_same hk2)
        clear hk2
        go_wp2_with fail
        refine bodyPost_ret (v := .tuple #[.int .i64 0, .int .i64 0, .bool false]) (by simp [results, Tryz.results26, go_sem]) rfl ⟨?_, HK2.out⟩
        rw [HR.out]
        rfl
      | true =>
        have hat := fun W => Tryz.strconv_Atoi Y (decF 0 c2) (by show Y.data.toList.length ≤ 18; rw [hYl]; exact hok' rfl hn) (by rw [hYl]; exact atoi_num _ hn) W
        rw [hn] at hin
        rw [hn] at hr
        simp only [Bool.and_self, if_true] at hr
        have HIN := Lib.hid hin
        have HAT := Lib.hid hat
        obtain ⟨N, hN⟩ : ∃ N, N = decF 0 c2 := ⟨_, rfl⟩
        rw [← hN] at hr HAT
        have hpd := fun W => cParse_any X W
        rw [hXl] at hpd
        have HP := Lib.hid hpd
        obtain ⟨P, hP⟩ : ∃ P, P = parseD c1 := ⟨_, rfl⟩
        rw [← hP] at HP hr
        have hPd : ∀ x, P = some x → isD x.1 x.2.1 x.2.2 = true := fun x hx => by rw [hx] at hP; exact parseD_is hP.symm
        clear hok' hlen hXl hYl hin hn hat hpd hP hN
        cases P with
        | none =>
          have HR := Lib.hid (show r = (0, 0, false) from hr)
          clear hr hPd
          go_enter Tryz.func26, Tryz.ntmps26
          go_wp2_with fail
          refine HC.out.mono ?_
          rintro e w1 ⟨rfl, rfl⟩
          go_wp2_with fail
          refine HCU.out.mono ?_
          rintro e w1 ⟨rfl, hk1⟩
          have HK1 := Lib.hid hk1
          clear hk1
          go_wp2_with fail
          refine (HIN.out _).mono ?_
          rintro e w2 ⟨rfl, hk2⟩
          have HK2 := Lib.hid (HK1.out.trans_same hk2)
          clear hk2
          go_wp2_with fail
          refine (HAT.out _).mono ?_
          rintro e w3 ⟨rfl, t, rfl⟩
          have HKQ := Lib.hid (HK2.out.trans_same (Kp.of_below (S := No) (Lib.bytesWorld_below w2 5 t) (fun k h1 h2 => absurd h1 (by omega))))
          obtain ⟨wq, hwq⟩ : ∃ W, W = Lib.bytesWorld w2 5 t := ⟨_, rfl⟩
          rw [← hwq] at HKQ
          rw [← hwq]
          clear hwq
          go_wp2_with fail
          refine (HP.out _).mono ?_
          rintro e w4 ⟨rfl, hk4⟩
          have HK4 := Lib.hid (HKQ.out.trans_same hk4)
          clear hk4
          unfold parseV dvI
          go_wp2_with fail
          refine bodyPost_ret (v := .tuple #[.int .i64 0, .int .i64 0, .bool false]) (by simp [results, Tryz.results26, go_sem]) rfl ⟨?_, HK4.out.alloc _⟩
          rw [HR.out]
          rfl
        | some x =>
          obtain ⟨y', m', d'⟩ := x
          have hpd := hPd _ rfl
          simp only at hpd
          obtain ⟨h1, h2, h3, h4, h5, h6⟩ := isD_spec hpd
          obtain ⟨y, rfl⟩ : ∃ y : Nat, y' = (y : Int) := ⟨y'.toNat, by omega⟩
          obtain ⟨m, rfl⟩ : ∃ y : Nat, m' = (y : Int) := ⟨m'.toNat, by omega⟩
          obtain ⟨d, rfl⟩ : ∃ y : Nat, d' = (y : Int) := ⟨d'.toNat, by omega⟩
          have HDY := Lib.hid (fun W => cDays_yes y m d hpd W)
          clear hPd hpd h1 h2 h3 h4 h5 h6
          rcases Nat.lt_or_ge N 1001 with hN | hN
          · have HR := Lib.hid (show r = (daysF y m d, (N : Int), true) by rw [hr, if_pos hN]; rfl)
            clear hr
            go_enter Tryz.func26, Tryz.ntmps26
            go_wp2_with fail
            refine HC.out.mono ?_
            rintro e w1 ⟨rfl, rfl⟩
            go_wp2_with fail
            refine HCU.out.mono ?_
            rintro e w1 ⟨rfl, hk1⟩
            have HK1 := Lib.hid hk1
            clear hk1
            go_wp2_with fail
            refine (HIN.out _).mono ?_
            rintro e w2 ⟨rfl, hk2⟩
            have HK2 := Lib.hid (HK1.out.trans_same hk2)
            clear hk2
            go_wp2_with fail
            refine (HAT.out _).mono ?_
            rintro e w3 ⟨rfl, t, rfl⟩
            have HKQ := Lib.hid (HK2.out.trans_same (Kp.of_below (S := No) (Lib.bytesWorld_below w2 5 t) (fun k h1 h2 => absurd h1 (by omega))))
            obtain ⟨wq, hwq⟩ : ∃ W, W = Lib.bytesWorld w2 5 t := ⟨_, rfl⟩
            rw [← hwq] at HKQ
            rw [← hwq]
            clear hwq
            go_wp2_with fail
            refine (HP.out _).mono ?_
            rintro e w4 ⟨rfl, hk4⟩
            have HK4 := Lib.hid (HKQ.out.trans_same hk4)
            clear hk4
            unfold parseV dvI
            go_wp2_with fail
            refine (HDY.out _).mono ?_
            rintro e w5 ⟨rfl, hk5⟩
            have HK5 := Lib.hid ((HK4.out.alloc _).trans_same hk5)
            clear hk5
            go_wp2_with fail
            refine bodyPost_ret (v := .tuple #[.int .i64 (daysF y m d), .int .i64 (N : Int), .bool true]) (by simp [results, Tryz.results26, go_sem]; try omega) rfl ⟨?_, HK5.out⟩
            rw [HR.out]
            rfl
          · have HR := Lib.hid (show r = (daysF y m d, 1001, true) by rw [hr, if_neg (by omega)]; rfl)
            clear hr
            go_enter Tryz.func26, Tryz.ntmps26
            go_wp2_with fail
            refine HC.out.mono ?_
            rintro e w1 ⟨rfl, rfl⟩
            go_wp2_with fail
            refine HCU.out.mono ?_
            rintro e w1 ⟨rfl, hk1⟩
            have HK1 := Lib.hid hk1
            clear hk1
            go_wp2_with fail
            refine (HIN.out _).mono ?_
            rintro e w2 ⟨rfl, hk2⟩
            have HK2 := Lib.hid (HK1.out.trans_same hk2)
            clear hk2
            go_wp2_with fail
            refine (HAT.out _).mono ?_
            rintro e w3 ⟨rfl, t, rfl⟩
            have HKQ := Lib.hid (HK2.out.trans_same (Kp.of_below (S := No) (Lib.bytesWorld_below w2 5 t) (fun k h1 h2 => absurd h1 (by omega))))
            obtain ⟨wq, hwq⟩ : ∃ W, W = Lib.bytesWorld w2 5 t := ⟨_, rfl⟩
            rw [← hwq] at HKQ
            rw [← hwq]
            clear hwq
            go_wp2_with fail
            refine (HP.out _).mono ?_
            rintro e w4 ⟨rfl, hk4⟩
            have HK4 := Lib.hid (HKQ.out.trans_same hk4)
            clear hk4
            unfold parseV dvI
            go_wp2_with fail
            refine (HDY.out _).mono ?_
            rintro e w5 ⟨rfl, hk5⟩
            have HK5 := Lib.hid ((HK4.out.alloc _).trans_same hk5)
            clear hk5
            go_wp2_with fail
            refine bodyPost_ret (v := .tuple #[.int .i64 (daysF y m d), .int .i64 1001, .bool true]) (by simp [results, Tryz.results26, go_sem]; try omega) rfl ⟨?_, HK5.out⟩
            rw [HR.out]
            rfl
end Go.Proofs.YtapikolgpmefbaaGreatDoor
