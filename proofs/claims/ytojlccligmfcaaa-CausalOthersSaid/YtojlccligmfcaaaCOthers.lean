/-
  The law CausalOthers, walked.
-/
import Derived.Test.YtojlccligmfcaaaCKnown
import Derived.Test.YtojlccligmfcaaaCHeavy
import Derived.Test.YtojlccligmfcaaaTree
namespace Go.Proofs.Ytojlccligmfcaaa
open Go.RowKit Go.Mer

/-! ### the plain law -/
def Neutral (x : EvR) : Prop := ¬ ((1 ≤ x.s.kind ∧ x.s.kind ≤ 5) ∧ (x.r.err = 0 ∨ x.r.err = 9))
theorem wrF_neutral {x : EvR} (h : Neutral x) : wrF x = none := if_neg (by rintro ⟨h1, h2⟩; exact h ⟨by omega, h2⟩)
theorem ckStep_neutral {x : EvR} (h : Neutral x) (R : List WrP) (s : Snaps × Nat × Option Nat) (hs : s.2.2 = none) : ckStep R s x = (s.1, s.2.1 + 1, none) := by
  unfold ckStep
  rw [if_neg (by rw [hs]; simp)]
  by_cases he : x.r.err = 0
  · have hk : ¬ (1 ≤ x.s.kind ∧ x.s.kind ≤ 5) := fun hk => h ⟨hk, .inl he⟩
    have hc : canF R s.1 x = true := by
      unfold canF
      rw [if_neg (by omega), if_neg (by omega), if_neg (by omega), if_neg (by omega)]
    have hn : snF s.1 x = s.1 := by
      unfold snF
      rw [if_neg (by omega)]
    rw [if_neg (by simp [he]), hc, hn]
    rfl
  · rw [if_pos he]
def shift (s : Snaps × Nat × Option Nat) : Snaps × Nat × Option Nat := (s.1, s.2.1 + 1, s.2.2.map (· + 1))
theorem ckStep_shift (R : List WrP) (s : Snaps × Nat × Option Nat) (x : EvR) : ckStep R (shift s) x = shift (ckStep R s x) := by
  obtain ⟨sn, n, o⟩ := s
  cases o with
  | some i => rfl
  | none =>
    unfold ckStep shift
    simp only [Option.map_none, Option.isSome_none, Bool.false_eq_true, if_false]
    split
    · rfl
    · split <;> rfl
theorem fold_shift (R : List WrP) : ∀ (L : List EvR) (s : Snaps × Nat × Option Nat), L.foldl (ckStep R) (shift s) = shift (L.foldl (ckStep R) s)
  | [], _ => rfl
  | x :: L, s => by rw [List.foldl_cons, List.foldl_cons, ckStep_shift, fold_shift R L]
theorem fold_num (R : List WrP) : ∀ (L : List EvR) (s : Snaps × Nat × Option Nat), s.2.2 = none →
    ((L.foldl (ckStep R) s).2.2 = none → (L.foldl (ckStep R) s).2.1 = s.2.1 + L.length) ∧ (∀ i, (L.foldl (ckStep R) s).2.2 = some i → s.2.1 ≤ i ∧ i < s.2.1 + L.length)
  | [], s, h => ⟨fun _ => rfl, fun i hi => by rw [List.foldl_nil, h] at hi; cases hi⟩
  | x :: L, s, h => by
    rw [List.foldl_cons]
    have hstep : ((ckStep R s x).2.2 = none ∧ (ckStep R s x).2.1 = s.2.1 + 1) ∨ (ckStep R s x).2.2 = some s.2.1 := by
      unfold ckStep
      rw [if_neg (by rw [h]; simp)]
      split
      · exact .inl ⟨rfl, rfl⟩
      · split
        · exact .inl ⟨rfl, rfl⟩
        · exact .inr rfl
    rcases hstep with ⟨h1, h2⟩ | h1
    · obtain ⟨h3, h4⟩ := fold_num R L _ h1
      refine ⟨fun hn => by rw [h3 hn, h2, List.length_cons]; omega, fun i hi => ?_⟩
      have := h4 i hi
      rw [List.length_cons]
      omega
    · refine ⟨fun hn => ?_, fun i hi => ?_⟩
      · rw [ck_stays L _ h1] at hn
        cases hn
      · rw [ck_stays L _ h1] at hi
        injection hi with hi
        rw [List.length_cons]
        omega
theorem ck_cat (R : List WrP) (L1 L2 : List EvR) : ckState R (L1 ++ L2) = L2.foldl (ckStep R) (ckState R L1) := by
  unfold ckState
  rw [List.foldl_append]
/-- What is told of events, with and without one that tells nothing. -/
theorem others_check (L1 L2 : List EvR) {x : EvR} (h : Neutral x) : ∃ (i : Nat) (b : Bool), i ≤ L1.length + L2.length ∧ checkF (L1 ++ L2) = ((i : Int), b) ∧
    checkF (L1 ++ [x] ++ L2) = (((if b = true ∧ L1.length ≤ i then i + 1 else i : Nat) : Int), b) := by
  have hR : (L1 ++ [x] ++ L2).filterMap wrF = (L1 ++ L2).filterMap wrF := by
    rw [List.filterMap_append, List.filterMap_append, List.filterMap_append]
    simp [wrF_neutral h]
  obtain ⟨R, hRR⟩ : ∃ R, R = (L1 ++ L2).filterMap wrF := ⟨_, rfl⟩
  unfold checkF
  rw [hR, ← hRR, ck_cat, ck_cat, ck_cat, List.foldl_cons, List.foldl_nil]
  obtain ⟨h1, h2⟩ := fold_num R L1 ([], 0, none) rfl
  have e1 : ckState R L1 = L1.foldl (ckStep R) ([], 0, none) := rfl
  rw [← e1] at h1 h2
  simp only [Nat.zero_add] at h1 h2
  cases ho : (ckState R L1).2.2 with
  | some i =>
    have h3 := (h2 i ho).2
    have h4 : (ckStep R (ckState R L1) x).2.2 = some i := ck_stays [x] _ ho
    rw [ck_stays L2 _ ho, ck_stays L2 _ h4]
    refine ⟨i, true, by omega, rfl, ?_⟩
    rw [if_neg (by omega)]
  | none =>
    have h3 := h1 ho
    have h4 : ckStep R (ckState R L1) x = shift (ckState R L1) := by
      rw [ckStep_neutral h R _ ho]
      unfold shift
      rw [ho]
      rfl
    rw [h4, fold_shift]
    obtain ⟨h5, h6⟩ := fold_num R L2 (ckState R L1) ho
    rw [h3] at h6
    unfold shift
    cases hf : (List.foldl (ckStep R) (ckState R L1) L2).2.2 with
    | none => exact ⟨0, false, by omega, rfl, by simp⟩
    | some i =>
      have := h6 i hf
      refine ⟨i, true, by omega, rfl, ?_⟩
      rw [if_pos ⟨rfl, this.1⟩]
      rfl
set_option maxRecDepth 100000 in
theorem low_bits (x : Int) : ∃ v : Nat, v ≤ 65535 ∧ bits .and .i64 x 65535 = (v : Int) := by
  have h : ((BitVec.ofInt 64 x) &&& (BitVec.ofInt 64 65535)).toNat ≤ 65535 := by
    rw [BitVec.toNat_and]
    exact Nat.and_le_right
  refine ⟨_, h, ?_⟩
  simp only [bits]
  unfold IntKind.wrap
  have e : (2 ^ IntKind.i64.bits : Int) = 18446744073709551616 := by decide
  have e2 : IntKind.i64.bits = 64 := rfl
  rw [e2] at e ⊢
  rw [e]
  have h2 : ((((BitVec.ofInt 64 x) &&& (BitVec.ofInt 64 65535)).toNat : Nat) : Int) ≤ 65535 := Int.ofNat_le.2 h
  have h3 : (0 : Int) ≤ ((((BitVec.ofInt 64 x) &&& (BitVec.ofInt 64 65535)).toNat : Nat) : Int) := Int.natCast_nonneg _
  rw [Int.emod_eq_of_lt h3 (by omega)]
  rw [if_neg]
  simp only [Bool.and_eq_true, decide_eq_true_eq, not_and]
  intro _
  have e3 : (2 ^ (64 - 1) : Int) = 9223372036854775808 := by decide
  rw [e3]
  omega
end Go.Proofs.Ytojlccligmfcaaa
