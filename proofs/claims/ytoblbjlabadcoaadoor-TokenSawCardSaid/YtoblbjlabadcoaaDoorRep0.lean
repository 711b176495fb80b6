/-
  strings.Repeat("0", n) for few n; token's hex.
-/
import Derived.Test.YtoblbjlabadcoaaDoorHexs
import Derived.ShutString
namespace Go.Proofs.YtoblbjlabadcoaaDoor
open Go.RowKit Go.Mer

theorem Mul64_1 (k : Nat) (hk : k ≤ 64) (w : World) : Calls Tryd.prog 53 #[.int .u64 1, .int .u64 (k : Int)] w fun e w' => e = .returned (.tuple #[.int .u64 0, .int .u64 (k : Int)]) ∧ w = w' := by
  have h1 : bits .and .u64 1 4294967295 = 1 := by decide +kernel
  have h0 : bits .and .u64 0 4294967295 = 0 := by decide +kernel
  have h2 : bits .and .u64 (k : Int) 4294967295 = (k : Int) := by
    have := bits_and (k := .u64) rfl (a := k) (b := 4294967295) (by show _ < 2 ^ 64; omega) (by decide)
    rw [Nat.and_two_pow_sub_one_eq_mod k 32, Nat.mod_eq_of_lt (by omega)] at this
    exact this
  have h3 : (k : Int) / 4294967296 = 0 := by omega
  go_enter Tryd.func53, Tryd.ntmps53
  go_wp2_with fail
  go_ret2
  exact ⟨rfl, rfl⟩
theorem Mul_1 (k : Nat) (hk : k ≤ 64) (w : World) : Calls Tryd.prog 34 #[.int .u64 1, .int .u64 (k : Int)] w fun e w' => e = .returned (.tuple #[.int .u64 0, .int .u64 (k : Int)]) ∧ w = w' := by
  go_enter Tryd.func34, Tryd.ntmps34
  go_wp2_with fail
  refine (Mul64_1 k hk _).mono ?_
  rintro e w' ⟨rfl, rfl⟩
  go_wp2_with fail
  go_ret2
  exact ⟨rfl, rfl⟩
/-- Whether the first byte is that. -/
def firstIs (t : ByteArray) (c : UInt8) : Bool := (t.extract 0 1).toList == [c]
theorem HP0_1 (t : ByteArray) (c : UInt8) (h1 : 1 ≤ t.size) (h2 : t.size ≤ 1000) (w : World) : Calls Tryd.prog 54 #[.string t, .string ⟨#[c]⟩] w fun e w' => e = .returned (.bool (firstIs t c)) ∧ w = w' := by
  go_enter Tryd.func54, Tryd.ntmps54
  go_wp2_with fail
  go_ret
  exact ⟨rfl, rfl⟩
theorem HP_1 (t : ByteArray) (c : UInt8) (b : Bool) (h1 : 1 ≤ t.size) (h2 : t.size ≤ 1000) (hb : firstIs t c = b) (w : World) : Calls Tryd.prog 35 #[.string t, .string ⟨#[c]⟩] w fun e w' => e = .returned (.bool b) ∧ w = w' := by
  subst hb
  go_enter Tryd.func35, Tryd.ntmps35
  go_wp2_with fail
  refine (HP0_1 _ _ h1 h2 _).mono ?_
  rintro e w' ⟨rfl, rfl⟩
  go_wp2_with fail
  go_ret
  exact ⟨rfl, rfl⟩
/-- So many noughts. -/
def zeros (k : Nat) : ByteArray := ⟨(List.replicate k 48).toArray⟩
theorem zeros_cut : ∀ q : Fin 17, ByteArray.extract ⟨#[48, 48, 48, 48, 48, 48, 48, 48, 48, 48, 48, 48, 48, 48, 48, 48, 48, 48, 48, 48, 48, 48, 48, 48, 48, 48, 48, 48, 48, 48, 48, 48, 48, 48, 48, 48, 48, 48, 48, 48, 48, 48, 48, 48, 48, 48, 48, 48, 48, 48, 48, 48, 48, 48, 48, 48, 48, 48, 48, 48, 48, 48, 48, 48]⟩ 0 q.val = zeros q.val := by decide +kernel
set_option maxRecDepth 100000 in
theorem Rep_few (k : Nat) (hk : k ≤ 16) (w : World) : Calls Tryd.prog 28 #[.string ⟨#[48]⟩, .int .i64 (k : Int)] w fun e w' => e = .returned (.string (zeros k)) ∧ w = w' := by
  by_cases h0 : k = 0
  · subst h0
    go_enter Tryd.func28, Tryd.ntmps28
    go_wp2_with fail
    go_ret
    exact ⟨rfl, rfl⟩
  by_cases h1 : k = 1
  · subst h1
    go_enter Tryd.func28, Tryd.ntmps28
    go_wp2_with fail
    go_ret
    exact ⟨rfl, rfl⟩
  have hk2 : 2 ≤ k := by omega
  have b0 : ((k : Int) == 0) = false := by simpa using h0
  have b1 : ((k : Int) == 1) = false := by simp; omega
  clear h0 h1
  go_enter Tryd.func28, Tryd.ntmps28
  go_wp2_with fail
  refine (Mul_1 k (by omega) _).mono ?_
  rintro e w' ⟨rfl, rfl⟩
  clear b0 b1
  go_wp2_with fail
  refine (HP_1 _ _ false (by decide +kernel) (by decide +kernel) (by decide +kernel) _).mono ?_
  rintro e w' ⟨rfl, rfl⟩
  go_wp2_with fail
  refine (HP_1 _ _ false (by decide +kernel) (by decide +kernel) (by decide +kernel) _).mono ?_
  rintro e w' ⟨rfl, rfl⟩
  go_wp2_with fail
  refine (HP_1 _ _ true (by decide +kernel) (by decide +kernel) (by decide +kernel) _).mono ?_
  rintro e w' ⟨rfl, rfl⟩
  go_wp2_with fail
  go_ret
  exact ⟨congrArg (fun s => Ending.returned (.string s)) (zeros_cut ⟨k, by omega⟩), rfl⟩
theorem cat_zeros (k j : Nat) {n : Nat} (h : n < 16 ^ j) : zeros k ++ ⟨(hexL j n).toArray⟩ = (⟨(hexL (k + j) n).toArray⟩ : ByteArray) := by
  rw [hexL_pad k j h]
  apply ByteArray.ext
  simp [zeros]
/-- many digits of n. -/
theorem hex_any (n many : Nat) (h1 : 1 ≤ many) (h16 : many ≤ 16) (hn : n < 16 ^ many) (w : World) (ht : Tab16 w) :
    Calls Tryd.prog 17 #[.int .u64 (n : Int), .int .i64 (many : Int)] w fun e w' => e = .returned (.string ⟨(hexL many n).toArray⟩) ∧ Kp No w w' := by
  have hn64 : n < 18446744073709551616 := Nat.lt_of_lt_of_le hn (Nat.pow_le_pow_right (n := 16) (by decide) h16)
  have HT := Lib.hid (And.intro ht hn)
  clear ht hn
  go_enter Tryd.func17, Tryd.ntmps17
  go_wp2_with fail
  refine (FU_16 n hn64 _ HT.out.1).mono ?_
  rintro e w' ⟨k, hk1, hk2, hk3, hk4, rfl, hk⟩
  have hkm : k ≤ many := by
    rcases hk4 with h | h
    · omega
    · have := HT.out.2
      have h2 : k - 1 < many := Nat.lt_of_not_le fun hle => by
        have := Nat.pow_le_pow_right (n := 16) (by decide) hle
        omega
      omega
  obtain ⟨S, hS⟩ : ∃ S : ByteArray, S = ⟨(hexL k n).toArray⟩ := ⟨_, rfl⟩
  have hSs : S.size = k := by rw [hS]; simp [ByteArray.size, hexL_len]
  obtain ⟨d, rfl⟩ : ∃ d, many = d + k := ⟨many - k, by omega⟩
  rw [← hS]
  have HS := Lib.hid (And.intro hS hk1)
  clear hS hk1 hk4
  by_cases hd : d = 0
  · subst hd
    go_wp2_with fail
    refine (Rep_few 0 (by omega) _).mono ?_
    rintro e w'' ⟨rfl, rfl⟩
    have hzs : ∀ q, (zeros q).size = q := fun q => by simp [zeros, ByteArray.size]
    have hz0 := Lib.hid (cat_zeros 0 _ HS.out.2)
    go_wp2_with fail
    go_ret
    refine ⟨?_, hk⟩
    rw [← hz0.out, ← HS.out.1]
    rfl
  · have hd0 : 0 < d := by omega
    go_wp2_with fail
    refine (Rep_few d (by omega) _).mono ?_
    rintro e w'' ⟨rfl, rfl⟩
    have hzs : ∀ q, (zeros q).size = q := fun q => by simp [zeros, ByteArray.size]
    have hz0 := Lib.hid (cat_zeros d _ HS.out.2)
    go_wp2_with fail
    go_ret
    refine ⟨?_, hk⟩
    rw [← hz0.out, ← HS.out.1]
    rfl
/-- Sixteen, eight digits. -/
theorem hex16 (n : Nat) (hn : n < 18446744073709551616) (w : World) (ht : Tab16 w) : Calls Tryd.prog 17 #[.int .u64 (n : Int), .int .i64 16] w fun e w' => ∃ S : ByteArray, Hid (S = ⟨(hexL 16 n).toArray⟩) ∧ S.size = 16 ∧ e = .returned (.string S) ∧ Kp No w w' :=
  (hex_any n 16 (by decide) (by decide) hn w ht).mono fun _ _ ⟨he, hk⟩ => ⟨_, rfl, by simp [ByteArray.size, hexL_len], he, hk⟩
theorem hex8 (n : Nat) (hn : n < 4294967296) (w : World) (ht : Tab16 w) : Calls Tryd.prog 17 #[.int .u64 (n : Int), .int .i64 8] w fun e w' => ∃ S : ByteArray, Hid (S = ⟨(hexL 8 n).toArray⟩) ∧ S.size = 8 ∧ e = .returned (.string S) ∧ Kp No w w' :=
  (hex_any n 8 (by decide) (by decide) hn w ht).mono fun _ _ ⟨he, hk⟩ => ⟨_, rfl, by simp [ByteArray.size, hexL_len], he, hk⟩
end Go.Proofs.YtoblbjlabadcoaaDoor
