/-
  Bytes in quotes: plain mathematics.
-/
import Derived.Test.YthkbcfenjodbmaaDoorTok
namespace Go.Mer
open Go

/-! ### bytes in quotes -/
def qsign (c : UInt8) : Bool := decide (c.toNat = 34) || decide (c.toNat = 92) || decide (c.toNat < 32) || decide (126 < c.toNat)
def quo (c : UInt8) : List UInt8 := if qsign c then [92, 120, hexd (c.toNat / 16), hexd (c.toNat % 16)] else [c]
def quoteL (l : List UInt8) : List UInt8 := 34 :: (l.flatMap quo ++ [34])
theorem hexd_inj {a b : Nat} (ha : a < 16) (hb : b < 16) (h : hexd a = hexd b) : a = b := by
  have := (hexd_facts a ha).1
  rw [h, (hexd_facts b hb).1] at this
  exact (Option.some.inj this).symm
theorem quo_pos (c : UInt8) : 0 < (quo c).length := by unfold quo; split <;> simp
theorem quo_le (c : UInt8) : (quo c).length ≤ 4 := by unfold quo; split <;> simp
theorem quos_le (l : List UInt8) : l.length ≤ (l.flatMap quo).length ∧ (l.flatMap quo).length ≤ 4 * l.length := by
  induction l with
  | nil => simp
  | cons c l ih =>
    have h1 := quo_pos c
    have h2 := quo_le c
    simp only [List.flatMap_cons, List.length_append, List.length_cons]
    omega
theorem quo_cancel {c d : UInt8} {x y : List UInt8} (h : quo c ++ x = quo d ++ y) : c = d ∧ x = y := by
  have q92 : ∀ c : UInt8, qsign c = false → c ≠ 92 := fun c hc e => by
    subst e
    revert hc
    decide
  unfold quo at h
  split at h <;> split at h
  · simp only [List.cons_append, List.nil_append, List.cons.injEq, true_and] at h
    have hc := c.toNat_lt
    have hd := d.toNat_lt
    have h1 := hexd_inj (by omega) (by omega) h.1
    have h2 := hexd_inj (by omega) (by omega) h.2.1
    exact ⟨UInt8.toNat_inj.1 (by omega), h.2.2⟩
  · rename_i hd
    simp only [List.cons_append, List.nil_append, List.cons.injEq] at h
    exact absurd h.1.symm (q92 d (by simpa using hd))
  · rename_i hc _
    simp only [List.cons_append, List.nil_append, List.cons.injEq] at h
    exact absurd h.1 (q92 c (by simpa using hc))
  · simp only [List.cons_append, List.nil_append, List.cons.injEq] at h
    exact h
theorem quos_inj : ∀ {l k : List UInt8}, l.flatMap quo = k.flatMap quo → l = k
  | [], [], _ => rfl
  | [], c :: k, h => by
    have := congrArg List.length h
    have := quo_pos c
    simp only [List.flatMap_nil, List.flatMap_cons, List.length_nil, List.length_append] at *
    omega
  | c :: l, [], h => by
    have := congrArg List.length h
    have := quo_pos c
    simp only [List.flatMap_nil, List.flatMap_cons, List.length_nil, List.length_append] at *
    omega
  | c :: l, d :: k, h => by
    simp only [List.flatMap_cons] at h
    obtain ⟨rfl, h2⟩ := quo_cancel h
    rw [quos_inj h2]
theorem quoteL_inj {l k : List UInt8} (h : quoteL l = quoteL k) : l = k := quos_inj (List.append_cancel_right (List.cons.inj h).2)
theorem quo_range (c : UInt8) : ∀ x ∈ quo c, 32 ≤ x.toNat ∧ x.toNat ≤ 126 := by
  intro x hx
  unfold quo at hx
  have hexr : ∀ n, n < 16 → 32 ≤ (hexd n).toNat ∧ (hexd n).toNat ≤ 126 := fun n hn => by
    rcases (hexd_facts n hn).2 with h | h <;> omega
  have hc := c.toNat_lt
  split at hx
  · simp only [List.mem_cons, List.not_mem_nil, or_false] at hx
    rcases hx with rfl | rfl | rfl | rfl
    · decide
    · decide
    · exact hexr _ (by omega)
    · exact hexr _ (by omega)
  · rename_i h
    rw [List.mem_singleton] at hx
    subst hx
    simp only [qsign, Bool.or_eq_true, decide_eq_true_eq, not_or] at h
    omega
theorem quoteL_range (l : List UInt8) : ∀ x ∈ quoteL l, 32 ≤ x.toNat ∧ x.toNat ≤ 126 := by
  intro x hx
  unfold quoteL at hx
  simp only [List.mem_cons, List.mem_append, List.mem_flatMap, List.not_mem_nil, or_false] at hx
  rcases hx with rfl | ⟨c, _, hx⟩ | rfl
  · decide
  · exact quo_range c x hx
  · decide
theorem quoteL_len (l : List UInt8) : l.length + 2 ≤ (quoteL l).length ∧ (quoteL l).length ≤ 4 * l.length + 2 := by
  have := quos_le l
  simp only [quoteL, List.length_cons, List.length_append, List.length_nil]
  omega
end Go.Mer
