/-
  May a leap stand behind a table, in all: follows is followF.
-/
import Derived.Test.YtapikolgpmefbaaGreatDoorLFollows
import Derived.Test.YtapikolgpmefbaaGreatDoorLFollows2
namespace Go.Proofs.YtapikolgpmefbaaGreatDoor
open Go.RowKit Go.Mer

theorem follows_any (L : List (Int × Int)) (x : Int × Int) (w : World) (a : Option Addr) (cap B : Nat) (hR : Rd w B a (tbV L)) (hl : L.length ≤ 1000000) (hy : ∀ y, L.getLast? = some y → 0 ≤ y.2 ∧ y.2 ≤ 1000) :
    Calls Tryz.prog 28 #[.slice a L.length cap, .agg #[.int .i64 x.1, .int .i64 x.2]] w fun e w' => e = .returned (.bool (followF L x)) ∧ Kp No w w' := by
  by_cases h : inF x.1 = false ∨ x.2 < 0 ∨ 1000 < x.2 ∨ 100 ≤ L.length
  · have e : followF L x = false := by
      unfold followF
      rcases h with h | h | h | h
      · simp [h]
      · rw [show decide (0 ≤ x.2) = false by rw [decide_eq_false_iff_not]; omega]; simp
      · rw [show decide (x.2 ≤ 1000) = false by rw [decide_eq_false_iff_not]; omega]; simp
      · rw [show decide (L.length < 100) = false by rw [decide_eq_false_iff_not]; omega]; simp
    rw [e]
    exact follows_early L x.1 x.2 w a cap h hl
  · have hi : inF x.1 = true := by
      cases hc : inF x.1 with
      | true => rfl
      | false => exact absurd (.inl hc) h
    have h' : 0 ≤ x.2 ∧ x.2 ≤ 1000 ∧ L.length < 100 := by
      refine ⟨?_, ?_, ?_⟩
      · rcases Int.lt_or_le x.2 0 with hc | hc
        · exact absurd (.inr (.inl hc)) h
        · exact hc
      · rcases Int.lt_or_le 1000 x.2 with hc | hc
        · exact absurd (.inr (.inr (.inl hc))) h
        · exact hc
      · rcases Nat.lt_or_ge L.length 100 with hc | hc
        · exact hc
        · exact absurd (.inr (.inr (.inr hc))) h
    obtain ⟨h0, h1, h2⟩ := h'
    rcases List.eq_nil_or_concat L with rfl | ⟨T, y, rfl⟩
    · have e : followF [] x = true := by simp [followF, hi, h0, h1]
      rw [e]
      exact follows_nil x.1 x.2 w a cap hi h0 h1
    · have hlast : (T.concat y).getLast? = some y := by simp
      have e : followF (T.concat y) x = followG x.1 x.2 y.1 y.2 := by
        unfold followF followG
        rw [hlast]
        simp only [hi, h0, h1, h2, decide_true, Bool.and_true, Bool.true_and]
      have hlen : (T.concat y).length = T.length + 1 := by simp
      have hyy : (T.concat y)[T.length]? = some y := by simp
      obtain ⟨t1, t2⟩ := tbV_at _ _ _ hyy
      obtain ⟨g, off, rfl, hgB, hB, hc⟩ := hR.at_ t1
      obtain ⟨g', off', hg', _, _, hc'⟩ := hR.at_ t2
      obtain ⟨rfl, rfl⟩ : g = g' ∧ off = off' := by simpa using hg'
      rw [e, hlen]
      obtain ⟨hy0, hy1⟩ := hy y hlast
      rw [Nat.mul_comm 2] at hc hc'
      exact follows_more x.1 x.2 y.1 y.2 T.length g off cap w hi h0 h1 hy0 hy1 (by omega) (Nat.lt_of_lt_of_le hgB hB) hc hc'
end Go.Proofs.YtapikolgpmefbaaGreatDoor
