/-
  Tables that are none: one offset, one day, the end turned.
-/
import Derived.Test.YtapikolgpmefbaaGreatDoorLText
import Derived.Test.YtapikolgpmefbaaGreatDoorLSort
namespace Go.Proofs.YtapikolgpmefbaaGreatDoor
open Go.RowKit Go.Mer

theorem ahead_step (y : Nat) {a b : Nat} (h : a < b) (ha : 1 ≤ a) : aheadF y a + 28 ≤ aheadF y b := by
  obtain ⟨d, rfl⟩ : ∃ d, b = a + 1 + d := ⟨b - (a + 1), by omega⟩
  clear h
  induction d with
  | zero =>
    obtain ⟨k, rfl⟩ : ∃ k, a = k + 1 := ⟨a - 1, by omega⟩
    have e : aheadF y (k + 1 + 1 + 0) = aheadF y (k + 1) + monF y (k + 1) := rfl
    have := (monF_pos y (k + 1)).1
    omega
  | succ d ih =>
    obtain ⟨k, hk⟩ : ∃ k, a + 1 + d = k + 1 := ⟨a + d, by omega⟩
    have e : aheadF y (k + 1 + 1) = aheadF y (k + 1) + monF y (k + 1) := rfl
    rw [show a + 1 + (d + 1) = k + 1 + 1 by omega, e]
    rw [hk] at ih
    omega
/-- Behind the first day of a month there is no other first day. -/
theorem next_first {N : Nat} (h : (ymdF N).2.2 = 1) : (ymdF (N + 1)).2.2 ≠ 1 := by
  intro h'
  obtain ⟨a1, a2, a3, a4⟩ := DS.last (rest_lt N) 11 1 _ rfl (DS.start (calZ N + 1) (N - yearZ (calZ N)))
  obtain ⟨b1, b2, b3, b4⟩ := DS.last (rest_lt (N + 1)) 11 1 _ rfl (DS.start (calZ (N + 1) + 1) (N + 1 - yearZ (calZ (N + 1))))
  unfold ymdF at h h'
  simp only at h h'
  obtain ⟨p, hp⟩ : ∃ p, p = moF (calZ N + 1) 12 1 (N - yearZ (calZ N)) := ⟨_, rfl⟩
  obtain ⟨q, hq⟩ : ∃ q, q = moF (calZ (N + 1) + 1) 12 1 (N + 1 - yearZ (calZ (N + 1))) := ⟨_, rfl⟩
  rw [← hp] at h a1 a2 a3 a4
  rw [← hq] at h' b1 b2 b3 b4
  have yN := calZ_is N
  have yM := calZ_is (N + 1)
  rcases Nat.lt_trichotomy (calZ N) (calZ (N + 1)) with hc | hc | hc
  · have hm := yearZ_mono (show calZ N + 1 ≤ calZ (N + 1) from hc)
    have hy := ahead_year (calZ N)
    have hs := ahead_step (calZ N + 1) (show p.1 < 13 by omega) a1
    have := (yearZ_step (calZ N)).1
    omega
  · rw [← hc] at b3 yM
    rcases Nat.lt_trichotomy p.1 q.1 with hd | hd | hd
    · have hs := ahead_step (calZ N + 1) hd a1
      omega
    · rw [hd] at a3
      omega
    · have hs := ahead_step (calZ N + 1) hd b1
      omega
  · have hm := yearZ_mono (show calZ (N + 1) + 1 ≤ calZ N from hc)
    omega
theorem isF_leaps {L : List (Int × Int)} {e : Int} (h : isF L e = true) : leapsF [] L = true ∧ endsF L e = true := by
  unfold isF at h
  rwa [Bool.and_eq_true] at h
/-- Row k + 1 of a table follows row k. -/
theorem isF_follow {L : List (Int × Int)} {e : Int} (h : isF L e = true) {i : Nat} {y x : Int × Int} (hy : L[i]? = some y) (hx : L[i + 1]? = some x) :
    y.1 < x.1 ∧ (ymdF (x.1 + 719162).toNat).2.2 = 1 ∧ (x.2 = y.2 + 1 ∨ x.2 = y.2 - 1) := by
  have hf := (leapsF_iff L []).1 (isF_leaps h).1 (i + 1) x hx
  rw [List.nil_append] at hf
  unfold followF at hf
  have hl : (L.take (i + 1)).getLast? = some y := by
    rw [List.take_add_one, hy]
    simp
  rw [hl] at hf
  simp only [Bool.and_eq_true, Bool.or_eq_true, decide_eq_true_iff] at hf
  exact ⟨hf.2.1.1, hf.2.1.2, hf.2.2⟩
theorem get_set {L : List (Int × Int)} {k : Nat} (hk : k < L.length) (z : Int × Int) : (L.set k z)[k]? = some z := by simp [hk]
theorem get_set' {L : List (Int × Int)} {k j : Nat} (hj : k ≠ j) (z : Int × Int) : (L.set k z)[j]? = L[j]? := by simp [hj]
theorem bad_off {L : List (Int × Int)} {e : Int} {k : Nat} (hk : k < L.length) (d : Int) : isF (L.set k (d, 1001)) e = false := by
  rw [← Bool.not_eq_true]
  intro h
  have := (isF_day h (get_set hk _)).2.2.2
  exact absurd this (by show ¬ (1001 : Int) ≤ 1000; decide)
theorem bad_end {L : List (Int × Int)} {k : Nat} {y : Int × Int} (hy : L[k]? = some y) (hk : L.length = k + 1) : isF L y.1 = false := by
  rw [← Bool.not_eq_true]
  intro h
  have he := (isF_leaps h).2
  unfold endsF at he
  have hl : L.getLast? = some y := by rw [List.getLast?_eq_getElem?, hk]; exact hy
  rw [hl] at he
  simp at he
theorem bad_day {L : List (Int × Int)} {e : Int} (h : isF L e = true) {i : Nat} {x : Int × Int} (hx : L[i + 1]? = some x) : isF (L.set (i + 1) (x.1 + 1, x.2)) e = false := by
  rw [← Bool.not_eq_true]
  intro h'
  have hk : i + 1 < L.length := (List.getElem?_eq_some_iff.1 hx).1
  obtain ⟨y, hy⟩ : ∃ y, L[i]? = some y := ⟨L[i]'(by omega), by simp⟩
  have a := (isF_follow h hy hx).2.1
  have b := (isF_follow h' (i := i) (y := y) (by rw [get_set' (by omega)]; exact hy) (get_set hk _)).2.1
  have bx := isF_day h hx
  simp only at b
  rw [show (x.1 + 1 + 719162).toNat = (x.1 + 719162).toNat + 1 by omega] at b
  exact next_first a b
theorem bad_same {L : List (Int × Int)} {e : Int} {i : Nat} {y x : Int × Int} (hy : L[i]? = some y) (hx : L[i + 1]? = some x) : isF (L.set (i + 1) (x.1, y.2)) e = false := by
  rw [← Bool.not_eq_true]
  intro h'
  have hk : i + 1 < L.length := (List.getElem?_eq_some_iff.1 hx).1
  have b := (isF_follow h' (i := i) (y := y) (by rw [get_set' (by omega)]; exact hy) (get_set hk _)).2.2
  simp only at b
  omega
/-- What a table's cells are where one row is turned. -/
theorem tbV_day (L : List (Int × Int)) (k : Nat) (x : Int × Int) (d : Int) (hx : L[k]? = some x) : tbV (L.set k (d, x.2)) = (tbV L).set (k * 2) (.int .i64 d) := by
  induction L generalizing k with
  | nil => cases hx
  | cons z r ih =>
    cases k with
    | zero =>
      obtain rfl : z = x := by simpa using hx
      rfl
    | succ k =>
      rw [List.set_cons_succ, tbV, tbV, ih k (by simpa using hx)]
      rw [show (k + 1) * 2 = k * 2 + 1 + 1 by omega]
      rfl
theorem tbV_off (L : List (Int × Int)) (k : Nat) (x : Int × Int) (d : Int) (hx : L[k]? = some x) : tbV (L.set k (x.1, d)) = (tbV L).set (k * 2 + 1) (.int .i64 d) := by
  induction L generalizing k with
  | nil => cases hx
  | cons z r ih =>
    cases k with
    | zero =>
      obtain rfl : z = x := by simpa using hx
      rfl
    | succ k =>
      rw [List.set_cons_succ, tbV, tbV, ih k (by simpa using hx)]
      rw [show (k + 1) * 2 + 1 = k * 2 + 1 + 1 + 1 by omega]
      rfl
end Go.Proofs.YtapikolgpmefbaaGreatDoor
