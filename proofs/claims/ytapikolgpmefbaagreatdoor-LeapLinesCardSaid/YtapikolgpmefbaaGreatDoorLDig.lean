/-
  The references' numbers as text.
-/
import Derived.Test.YtapikolgpmefbaaGreatDoorLText
import Derived.Test.YtapikolgpmefbaaGreatDoorMem
import Derived.Test.YtapikolgpmefbaaGreatDoorRegion
namespace Go.Proofs.YtapikolgpmefbaaGreatDoor
open Go.RowKit Go.Mer

theorem digL_cons (k : Nat) : ∀ n, digL n (k + 1) = UInt8.ofNat (48 + n / 10 ^ k % 10) :: digL n k := by
  induction k with
  | zero => intro n; rw [digL, digL, Nat.pow_zero, Nat.div_one]; rfl
  | succ k ih =>
    intro n
    rw [digL, ih (n / 10), Nat.div_div_eq_div_mul, show 10 * 10 ^ k = 10 ^ (k + 1) by rw [Nat.pow_succ, Nat.mul_comm]]
    rfl
theorem conv_one (W : World) (b : UInt8) : (convert 43 9 (.slice (some ⟨W.heap.size, 0, none⟩) 1 1)).run Tryz.prog (W.alloc (.cells #[.int .u8 (b.toNat : Int)] 5)) = .ok (.string ⟨#[b]⟩) (W.alloc (.cells #[.int .u8 (b.toNat : Int)] 5)) :=
  run_convert_bytes_back (P := Tryz.prog) (W.alloc (.cells #[.int .u8 (b.toNat : Int)] 5)) 43 9 5 ⟨W.heap.size, 0, none⟩ 1 [b] Tryz.underlying43 Tryz.underlying5 Tryz.underlying9 (fun j hj => by
    have : j = 0 := by simpa using hj
    subst this
    rw [Addr.add_lit, cell_at (heap_alloc_new W _)]
    rfl)
theorem size_app {x y : List UInt8} {S : ByteArray} {c : UInt8} (h : S = ⟨y.toArray⟩) (e : x = c :: y) : (⟨#[c]⟩ : ByteArray) ++ S = ⟨x.toArray⟩ := by
  subst h
  subst e
  apply ByteArray.ext
  simp
theorem dgt (n : Nat) : ∃ q : Nat, q < 10 ∧ q = n % 10 ∧ (n : Int).tmod 10 = (q : Int) ∧ wrap64 (48 + (q : Int)) = 48 + (q : Int) ∧ (UInt8.ofNat (48 + q)).toNat = 48 + q := by
  refine ⟨n % 10, Nat.mod_lt _ (by decide), rfl, ?_, IntWalk.wrap64_in _ (by omega), digit_nat n⟩
  rw [Int.tmod_eq_emod_of_nonneg (by omega)]
  exact (Int.natCast_emod n 10).symm
set_option maxRecDepth 100000 in
theorem digits_any (n many : Nat) (hm : many ≤ 16) (hn : n < 1000000) (w : World) :
    Calls Tryz.prog 56 #[.int .i64 (n : Int), .int .i64 (many : Int)] w fun e w' => e = .returned (.string ⟨(digL n many).toArray⟩) ∧ Kp No w w' := by
  go_enter Tryz.func56, Tryz.ntmps56
  go_wp2_with fail
  rename World => w0
  go_loopw [0, 5, 6] (fun x s i wr => ∃ (k y : Nat) (S : ByteArray), k ≤ many ∧ i = .int .i64 (k : Int) ∧ x = .int .i64 (y : Int) ∧ s = .string S ∧ S.size = k ∧ y < 1000000 ∧ Hid (S = ⟨(digL n k).toArray⟩ ∧ y = n / 10 ^ k) ∧ Hid (Kp No w0 wr)) (fun _ _ i _ => many - (intOf i).toNat)
  case atStart => exact ⟨0, n, ⟨#[]⟩, Nat.zero_le _, rfl, rfl, rfl, rfl, hn, ⟨rfl, by simp⟩, Kp.refl _ _⟩
  case round =>
    obtain ⟨k, y, S, hk, rfl, rfl, rfl, hS, hy, HS, HK⟩ := hrel
    by_cases hlt : k < many
    · obtain ⟨q, hq10, hq, hqm, hqw, hqn⟩ := dgt y
      have HQ := Lib.hid hq
      have hcv := fun W => conv_one W (UInt8.ofNat (48 + q))
      rw [hqn, Int.natCast_add, show ((48 : Nat) : Int) = 48 from rfl] at hcv
      obtain ⟨c, hc⟩ : ∃ c, c = UInt8.ofNat (48 + q) := ⟨_, rfl⟩
      rw [← hc] at hcv
      have HC := Lib.hid hc
      clear hq hc hqn
      go_wp2_with fail
      go_roundw
      case rel =>
        refine ⟨k + 1, y / 10, _, by omega, by go_num, by go_num, rfl, ?_, by omega, ⟨?_, ?_⟩, (show Kp No w0 wr from HK).alloc _⟩
        · rw [ByteArray.size_append, hS]
          show 1 + k = k + 1
          omega
        · exact size_app HS.out.1 (by rw [digL_cons, ← show y = _ from HS.out.2, ← show q = _ from HQ.out, HC.out])
        · rw [Nat.pow_succ, ← Nat.div_div_eq_div_mul, ← show y = _ from HS.out.2]
      case measure => simp [intOf]; omega
    · obtain rfl : k = many := by omega
      go_wp2_with fail
      go_ret
      exact ⟨congrArg (fun s => Ending.returned (.string s)) HS.out.1, HK⟩
set_option maxRecDepth 100000 in
theorem rDec_any (n : Nat) (hn : n < 1000000) (w : World) :
    Calls Tryz.prog 20 #[.int .i64 (n : Int)] w fun e w' => e = .returned (.string ⟨(Lib.decDigits n).toArray⟩) ∧ Kp No w w' := by
  go_enter Tryz.func20, Tryz.ntmps20
  go_wp2_with fail
  rename World => w0
  go_loopw [0, 3] (fun x s wr => ∃ (y : Nat) (S : ByteArray) (l : List UInt8), x = .int .i64 (y : Int) ∧ s = .string S ∧ S.size + y ≤ 1000000 ∧ y < 1000000 ∧ Hid (S = ⟨l.toArray⟩ ∧ Lib.decDigits n = Lib.decDigits y ++ l) ∧ Hid (Kp No w0 wr)) (fun x _ _ => (intOf x).toNat)
  case atStart => exact ⟨n, ⟨#[]⟩, [], rfl, rfl, by simp [ByteArray.size]; omega, hn, ⟨rfl, by simp⟩, Kp.refl _ _⟩
  case round =>
    obtain ⟨y, S, l, rfl, rfl, hS, hy, HS, HK⟩ := hrel
    obtain ⟨q, hq10, hq, hqm, hqw, hqn⟩ := dgt y
    have HQ := Lib.hid hq
    have hcv := fun W => conv_one W (UInt8.ofNat (48 + q))
    rw [hqn, Int.natCast_add, show ((48 : Nat) : Int) = 48 from rfl] at hcv
    obtain ⟨c, hc⟩ : ∃ c, c = UInt8.ofNat (48 + q) := ⟨_, rfl⟩
    rw [← hc] at hcv
    have HC := Lib.hid hc
    clear hq hc hqn
    by_cases hlt : y < 10
    · have hd0 : (y : Int).tdiv 10 = 0 := Int.tdiv_eq_zero_of_lt (by omega) (by omega)
      go_wp2_with fail
      go_ret
      refine ⟨congrArg (fun s => Ending.returned (.string s)) (size_app HS.out.1 ?_), (show Kp No w0 wr from HK).alloc _⟩
      rw [HS.out.2, decD_small hlt, HC.out, HQ.out, Nat.mod_eq_of_lt hlt]
      rfl
    · obtain ⟨z, hz⟩ : ∃ z, z = y / 10 := ⟨_, rfl⟩
      have hd0 : (y : Int).tdiv 10 = (z : Int) := by rw [hz, Int.tdiv_eq_ediv_of_nonneg (by omega)]; exact (Int.natCast_ediv y 10).symm
      have hz0 : ((z : Int) == 0) = false := by rw [beq_eq_false_iff_ne]; omega
      have hzp : z < y := by omega
      have HZ := Lib.hid hz
      have hzn : ¬ z = 0 := by omega
      clear hz
      go_wp2_with fail
      go_roundw
      case rel =>
        refine ⟨z, _, c :: l, rfl, rfl, ?_, by omega, ⟨size_app HS.out.1 rfl, ?_⟩, (show Kp No w0 wr from HK).alloc _⟩
        · rw [ByteArray.size_append]
          show 1 + S.size + z ≤ _
          omega
        · rw [HS.out.2, decD_step hlt, HC.out, HQ.out, HZ.out]
          simp
      case measure => simp [intOf]; omega
end Go.Proofs.YtapikolgpmefbaaGreatDoor
