/-
  Decimal digits as a number: cal's number.
-/
import Derived.Test.YtapikolgpmefbaaGreatDoorLnPlain
import Derived.Test.YtapikolgpmefbaaGreatDoorLTab
namespace Go.Proofs.YtapikolgpmefbaaGreatDoor
open Go.RowKit Go.Mer

def isDig (c : UInt8) : Bool := decide (48 ≤ c.toNat) && decide (c.toNat ≤ 57)
/-- The number that decimal digits are. -/
def decF : Nat → List UInt8 → Nat
  | a, [] => a
  | a, c :: r => decF (10 * a + (c.toNat - 48)) r
theorem decF_append (l r : List UInt8) : ∀ a, decF a (l ++ r) = decF (decF a l) r := by
  induction l with
  | nil => intro a; rfl
  | cons c q ih => intro a; exact ih _
theorem dig_le {c : UInt8} (h : isDig c = true) : c.toNat - 48 ≤ 9 := by
  unfold isDig at h
  rw [Bool.and_eq_true, decide_eq_true_iff, decide_eq_true_iff] at h
  omega
theorem dec_step (a e P X : Nat) (he : e ≤ 9) (h2 : X + 1 ≤ (10 * a + e + 1) * P) : X + 1 ≤ (a + 1) * (P * 10) := by
  have h3 : (10 * a + e + 1) * P ≤ ((a + 1) * 10) * P := Nat.mul_le_mul_right P (by omega)
  rw [Nat.mul_assoc, Nat.mul_comm 10 P] at h3
  exact Nat.le_trans h2 h3
theorem decF_lt (l : List UInt8) (h : l.all isDig = true) : ∀ a, decF a l + 1 ≤ (a + 1) * 10 ^ l.length := by
  induction l with
  | nil => intro a; rw [List.length_nil, Nat.pow_zero, Nat.mul_one]; exact Nat.le_refl _
  | cons c q ih =>
    intro a
    rw [List.all_cons, Bool.and_eq_true] at h
    rw [List.length_cons, Nat.pow_succ]
    exact dec_step a (c.toNat - 48) (10 ^ q.length) (decF (10 * a + (c.toNat - 48)) q) (dig_le h.1) (ih h.2 _)
theorem decF_bound (l : List UInt8) (h : l.all isDig = true) (hl : l.length ≤ 18) : decF 0 l < 1000000000000000000 := by
  have h1 := decF_lt l h 0
  have h2 : 10 ^ l.length ≤ 10 ^ 18 := Nat.pow_le_pow_right (by decide) hl
  have h3 : (10 : Nat) ^ 18 = 1000000000000000000 := by decide
  omega
def numF (l : List UInt8) : Int := if l.all isDig then (decF 0 l : Int) else -1
theorem number_any (B : ByteArray) (w : World) (hB : B.size ≤ 17) : Calls Tryz.prog 65 #[.string B] w fun e w' => e = .returned (.int .i64 (numF B.data.toList)) ∧ w = w' := by
  obtain ⟨r, hr⟩ : ∃ r, r = numF B.data.toList := ⟨_, rfl⟩
  rw [← hr]
  have HR := Lib.hid hr
  have HS := Lib.hid hB
  clear hr
  go_enter Tryz.func65, Tryz.ntmps65
  go_wp2_with fail
  go_loopw [3, 7] (fun n i wr => ∃ k : Nat, k ≤ B.size ∧ i = .int .i64 (k : Int) ∧ n = .int .i64 (decF 0 (B.data.toList.take k) : Int) ∧ Hid ((B.data.toList.take k).all isDig = true ∧ w = wr)) (fun _ i _ => B.size - (intOf i).toNat)
  case atStart => exact ⟨0, Nat.zero_le _, rfl, rfl, Lib.hid ⟨rfl, rfl⟩⟩
  case round =>
    obtain ⟨k, hk, rfl, rfl, HF⟩ := hrel
    obtain ⟨n, hn⟩ : ∃ n, n = decF 0 (B.data.toList.take k) := ⟨_, rfl⟩
    rw [← hn]
    rcases Nat.lt_or_ge k B.size with hc | hc
    · have hkc : decide (k < B.size) = true := decide_eq_true hc
      obtain ⟨c, hx⟩ : ∃ c, B.data.toList[k]? = some c := ⟨B.data.toList[k]'hc, by simp⟩
      have hidx : ∀ W, (Instr.index 9 (.string B) (.int .i64 (k : Int))).run Tryz.prog W = .ok (.int .u8 (c.toNat : Int)) W := fun W => by
        have e : c = B[k]'hc := by
          have := List.getElem?_eq_some_iff.1 hx
          rw [← this.2]; rfl
        rw [run_index_string W 9 B .i64 (k : Int) Tryz.underlying9, dif_pos ⟨by omega, by omega⟩, e]
        rfl
      have htk : B.data.toList.take (k + 1) = B.data.toList.take k ++ [c] := by rw [List.take_add_one, hx]; rfl
      have hn1 : decF 0 (B.data.toList.take (k + 1)) = 10 * n + (c.toNat - 48) := by rw [htk, decF_append, hn]; rfl
      have hnb := decF_bound _ HF.out.1 (by rw [List.length_take]; have := HS.out; omega)
      have hnb2 : decF 0 (B.data.toList.take k) < 100000000000000000 := by
        have h1 := decF_lt _ HF.out.1 0
        have h2 : 10 ^ (B.data.toList.take k).length ≤ 10 ^ 17 := Nat.pow_le_pow_right (by decide) (by rw [List.length_take]; have := HS.out; omega)
        have h3 : (10 : Nat) ^ 17 = 100000000000000000 := by decide
        omega
      rw [← hn] at hnb2
      have HN1 := Lib.hid hn1
      have hdig : isDig c = true ↔ (48 ≤ c.toNat ∧ c.toNat ≤ 57) := by unfold isDig; simp
      have HD1 := Lib.hid (show (48 ≤ c.toNat ∧ c.toNat ≤ 57) → (B.data.toList.take (k + 1)).all isDig = true from fun h => by
        rw [htk, List.all_append, HF.out.1, List.all_cons, hdig.2 h]; rfl)
      have HD0 := Lib.hid (show ¬ (48 ≤ c.toNat ∧ c.toNat ≤ 57) → B.data.toList.all isDig = false from fun h => by
        rw [List.all_eq_false]
        exact ⟨c, List.mem_of_getElem? hx, fun hd => h (hdig.1 hd)⟩)
      have hcb := c.toNat_lt
      clear hx htk hn1 hnb hn hdig
      generalize c.toNat = b at *
      rcases Nat.lt_or_ge b 48 with h1 | h1
      · have d1 : decide (b < 48) = true := decide_eq_true h1
        have d1' : decide ((b : Int) < 48) = true := by rw [decide_eq_true_iff]; omega
        have HZ := Lib.hid (HD0.out (by omega))
        clear HD1 HD0 HN1 hnb2
        go_wp2_with fail
        go_ret
        refine ⟨?_, HF.out.2⟩
        rw [HR.out, numF, if_neg (by rw [HZ.out]; decide)]
        rfl
      · have d1 : decide (b < 48) = false := by rw [decide_eq_false_iff_not]; omega
        have d1' : decide ((b : Int) < 48) = false := by rw [decide_eq_false_iff_not]; omega
        rcases Nat.lt_or_ge 57 b with h2 | h2
        · have d2 : decide (57 < b) = true := decide_eq_true h2
          have d2' : decide (57 < (b : Int)) = true := by rw [decide_eq_true_iff]; omega
          have HZ := Lib.hid (HD0.out (by omega))
          clear HD1 HD0 HN1 hnb2
          go_wp2_with fail
          go_ret
          refine ⟨?_, HF.out.2⟩
          rw [HR.out, numF, if_neg (by rw [HZ.out]; decide)]
          rfl
        · have d2 : decide (57 < b) = false := by rw [decide_eq_false_iff_not]; omega
          have d2' : decide (57 < (b : Int)) = false := by rw [decide_eq_false_iff_not]; omega
          have HZ := Lib.hid (HD1.out ⟨h1, h2⟩)
          clear HD1 HD0
          obtain ⟨e, he⟩ : ∃ e, e = b - 48 := ⟨_, rfl⟩
          rw [← he] at HN1
          have w1 : wrap64 (10 * (n : Int)) = ((10 * n : Nat) : Int) := by rw [IntWalk.wrap64_in _ (by omega)]; push_cast; rfl
          have w3 : wrap64 (((10 * n : Nat) : Int) + (e : Int)) = ((10 * n + e : Nat) : Int) := by rw [IntWalk.wrap64_in _ (by omega)]; push_cast; rfl
          have w4 : wrap64 (10 * (n : Int) + (e : Int)) = ((10 * n + e : Nat) : Int) := by rw [IntWalk.wrap64_in _ (by omega)]; push_cast; rfl
          have w2 : (b : Int) - 48 = (e : Int) := by omega
          have wk : wrap64 ((k : Int) + 1) = ((k + 1 : Nat) : Int) := by rw [IntWalk.wrap64_in _ (by have := HS.out; omega)]; push_cast; rfl
          have HWK := Lib.hid wk
          have hsize := HS.out
          clear wk
          go_wp2_with fail
          go_round
          · exact ⟨k + 1, by omega, by push_cast; rfl, by rw [HN1.out]; congr 1; omega, Lib.hid ⟨HZ.out, HF.out.2⟩⟩
          · simp only [intOf]; omega
    · obtain rfl : k = B.size := by omega
      clear hk hc
      go_wp2_with fail
      go_ret
      refine ⟨?_, HF.out.2⟩
      have ht : B.data.toList.take B.size = B.data.toList := List.take_of_length_le (Nat.le_refl _)
      rw [HR.out, numF, ← ht, if_pos HF.out.1, hn]
      rfl
end Go.Proofs.YtapikolgpmefbaaGreatDoor
