/-
  Stamps: is, Pack, Unpack, and the reference's.
-/
import Derived.Test.YtoblbjlabadcoaaDoorProg
import Derived.Test.YtoblbjlabadcoaaDoorMem
import Derived.Test.YtoblbjlabadcoaaDoorTok
import Derived.WalkSpells
import Derived.WalkLawsBesides
import Derived.BigQuiet
namespace Go.Proofs.YtoblbjlabadcoaaDoor
open Go.RowKit Go.Mer

/-- A stamp as a value. -/
abbrev stv (m c : Int) : Value := .agg #[.int .i64 m, .int .i64 c]
def okM (n : Int) : Bool := decide (0 ≤ n) && decide (n ≤ 281474976710655)

theorem isMilli_any (n : Int) (w : World) : Calls Tryd.prog 32 #[.int .i64 n] w fun e w' => e = .returned (.bool (okM n)) ∧ w = w' := by
  unfold okM
  by_cases h0 : 0 ≤ n
  · by_cases h1 : n ≤ 281474976710655
    · have b0 : decide (0 ≤ n) = true := by simpa using h0
      have b1 : decide (n ≤ 281474976710655) = true := by simpa using h1
      go_enter Tryd.func32, Tryd.ntmps32
      go_wp2_with fail
      go_ret
      exact ⟨by simp [*], rfl⟩
    · have b0 : decide (0 ≤ n) = true := by simpa using h0
      have b1 : decide (n ≤ 281474976710655) = false := by simpa using h1
      go_enter Tryd.func32, Tryd.ntmps32
      go_wp2_with fail
      go_ret
      exact ⟨by simp [*], rfl⟩
  · have b0 : decide (0 ≤ n) = false := by simpa using h0
    go_enter Tryd.func32, Tryd.ntmps32
    go_wp2_with fail
    go_ret
    exact ⟨by simp [*], rfl⟩
theorem three (a b c : Int) (_hab : a ≤ b) : c < a ∨ (a ≤ c ∧ c ≤ b) ∨ b < c := by omega
theorem is_any (m c : Int) (w : World) : Calls Tryd.prog 26 #[stv m c] w fun e w' => e = .returned (.bool (isSt m c)) ∧ Kp No w w' := by
  have e0 : isSt m c = (okM m && decide (0 ≤ c) && decide (c ≤ 65535)) := rfl
  rw [e0]
  clear e0
  cases hM : okM m
  all_goals
    have HM := Lib.hid hM
    clear hM
    rcases three 0 65535 c (by decide) with h0 | ⟨h0, h1⟩ | h0
    all_goals
      go_enter Tryd.func26, Tryd.ntmps26
      go_wp2_with fail
      refine (isMilli_any _ _).mono ?_
      rintro e w' ⟨rfl, rfl⟩
      rw [HM.out]
      go_wp2_with fail
      go_ret
      refine ⟨?_, (Kp.refl _ _).alloc _⟩
      try simp [h0]
      try omega
theorem rIs_any (m c : Int) (w : World) : Calls Tryd.prog 9 #[stv m c] w fun e w' => e = .returned (.bool (isSt m c)) ∧ Kp No w w' := by
  unfold isSt
  rcases three 0 281474976710655 m (by decide) with g0 | ⟨g0, g1⟩ | g0
  all_goals
    rcases three 0 65535 c (by decide) with h0 | ⟨h0, h1⟩ | h0
    all_goals
      go_enter Tryd.func9, Tryd.ntmps9
      go_wp2_with fail
      go_ret
      refine ⟨?_, (Kp.refl _ _).alloc _⟩
      simp [*]
      try omega
theorem pk_cast {m c : Int} (h : isSt m c = true) : ((pk m c : Nat) : Int) = m * 65536 + c := by
  obtain ⟨_, _, _, _⟩ := isSt_iff.1 h
  unfold pk
  omega
theorem pk_or {m c : Int} (h : isSt m c = true) : bits .or .u64 (m * 65536) c = ((pk m c : Nat) : Int) := by
  obtain ⟨h1, h2, h3, h4⟩ := isSt_iff.1 h
  obtain ⟨a, rfl⟩ := Int.eq_ofNat_of_zero_le h1
  obtain ⟨b, rfl⟩ := Int.eq_ofNat_of_zero_le h3
  have e : ((a : Int) * 65536) = ((2 ^ 16 * a : Nat) : Int) := by omega
  rw [e, bits_or rfl (by show 2 ^ 16 * a < 2 ^ 64; omega) (by show b < 2 ^ 64; omega), ← Nat.two_pow_add_eq_or_of_lt (by omega : b < 2 ^ 16)]
  unfold pk
  omega
theorem low16 {n : Nat} (h : n < 18446744073709551616) : bits .and .u64 (n : Int) 65535 = ((n % 65536 : Nat) : Int) := by
  have := bits_and (k := .u64) rfl (a := n) (b := 65535) h (by decide)
  rw [Nat.and_two_pow_sub_one_eq_mod n 16] at this
  exact this
theorem pk_hi {m c : Int} (h : isSt m c = true) : ((pk m c / 65536 : Nat) : Int) = m ∧ ((pk m c % 65536 : Nat) : Int) = c := by
  obtain ⟨h1, h2, h3, h4⟩ := isSt_iff.1 h
  unfold pk
  omega

theorem Pack_any (m c : Int) (w : World) (h : isSt m c = true) : Calls Tryd.prog 16 #[stv m c] w fun e w' => e = .returned (.tuple #[.int .u64 (pk m c : Int), .int .i64 0]) ∧ Kp No w w' := by
  have HP := Lib.hid (pk_or h)
  obtain ⟨h1, h2, h3, h4⟩ := isSt_iff.1 h
  have HH := Lib.hid h
  clear h
  go_enter Tryd.func16, Tryd.ntmps16
  go_wp2_with fail
  refine (is_any _ _ _).mono ?_
  rintro e w' ⟨rfl, hk⟩
  rw [HH.out]
  have hk' : Kp No w w' := ((Kp.refl _ _).alloc _).trans_same hk
  have hc := hk.get (heap_alloc_new w _) fun x => x
  have c0 := cell_at hc 0
  have c1 := cell_at hc 1
  simp at c0 c1
  clear hc hk
  go_wp2_with fail
  go_ret2
  exact ⟨by rw [HP.out]; rfl, hk'⟩
theorem Pack_no (m c : Int) (w : World) (h : isSt m c = false) : Calls Tryd.prog 16 #[stv m c] w fun e w' => e = .returned (.tuple #[.int .u64 0, .int .i64 1]) ∧ Kp No w w' := by
  have HH := Lib.hid h
  clear h
  go_enter Tryd.func16, Tryd.ntmps16
  go_wp2_with fail
  refine (is_any _ _ _).mono ?_
  rintro e w' ⟨rfl, hk⟩
  rw [HH.out]
  have hk' : Kp No w w' := ((Kp.refl _ _).alloc _).trans_same hk
  clear hk
  go_wp2_with fail
  go_ret2
  exact ⟨rfl, hk'⟩
theorem rPack_any (m c : Int) (w : World) (h : isSt m c = true) : Calls Tryd.prog 20 #[stv m c] w fun e w' => e = .returned (.tuple #[.int .u64 (pk m c : Int), .int .i64 0]) ∧ Kp No w w' := by
  have HP := Lib.hid (pk_or h)
  obtain ⟨h1, h2, h3, h4⟩ := isSt_iff.1 h
  have HH := Lib.hid h
  clear h
  go_enter Tryd.func20, Tryd.ntmps20
  go_wp2_with fail
  refine (rIs_any _ _ _).mono ?_
  rintro e w' ⟨rfl, hk⟩
  rw [HH.out]
  have hk' : Kp No w w' := ((Kp.refl _ _).alloc _).trans_same hk
  have hc := hk.get (heap_alloc_new w _) fun x => x
  have c0 := cell_at hc 0
  have c1 := cell_at hc 1
  simp at c0 c1
  clear hc hk
  go_wp2_with fail
  go_ret2
  exact ⟨by rw [HP.out]; rfl, hk'⟩
theorem rPack_no (m c : Int) (w : World) (h : isSt m c = false) : Calls Tryd.prog 20 #[stv m c] w fun e w' => e = .returned (.tuple #[.int .u64 0, .int .i64 1]) ∧ Kp No w w' := by
  have HH := Lib.hid h
  clear h
  go_enter Tryd.func20, Tryd.ntmps20
  go_wp2_with fail
  refine (rIs_any _ _ _).mono ?_
  rintro e w' ⟨rfl, hk⟩
  rw [HH.out]
  have hk' : Kp No w w' := ((Kp.refl _ _).alloc _).trans_same hk
  clear hk
  go_wp2_with fail
  go_ret2
  exact ⟨rfl, hk'⟩

theorem Unpack_any (n : Nat) (w : World) (h : n < 18446744073709551616) : Calls Tryd.prog 24 #[.int .u64 (n : Int)] w fun e w' => e = .returned (stv ((n / 65536 : Nat) : Int) ((n % 65536 : Nat) : Int)) ∧ Kp No w w' := by
  have H16 := Lib.hid (low16 h)
  go_enter Tryd.func24, Tryd.ntmps24
  go_wp2_with fail
  rw [H16.out]
  go_wp2_with fail
  exact bodyPost_ret (v := stv ((n / 65536 : Nat) : Int) ((n % 65536 : Nat) : Int)) (by simp [results, Tryd.results24, go_sem]; exact IntWalk.wrap64_in _ ⟨by omega, by omega⟩) rfl ⟨rfl, (Kp.refl _ _).alloc _⟩
theorem rUnpack_any (n : Nat) (w : World) (h : n < 18446744073709551616) : Calls Tryd.prog 25 #[.int .u64 (n : Int)] w fun e w' => e = .returned (stv ((n / 65536 : Nat) : Int) ((n % 65536 : Nat) : Int)) ∧ Kp No w w' := by
  have H16 := Lib.hid (low16 h)
  go_enter Tryd.func25, Tryd.ntmps25
  go_wp2_with fail
  rw [H16.out]
  go_wp2_with fail
  exact bodyPost_ret (v := stv ((n / 65536 : Nat) : Int) ((n % 65536 : Nat) : Int)) (by simp [results, Tryd.results25, go_sem]; exact IntWalk.wrap64_in _ ⟨by omega, by omega⟩) rfl ⟨rfl, (Kp.refl _ _).alloc _⟩
end Go.Proofs.YtoblbjlabadcoaaDoor
