/-
  The token's plain mathematics: the check sum, hexadecimal digits, the order of texts.
-/
import Derived.WalkKit
namespace Go.Mer
open Go

/-! ### bits of numbers from 0 on -/
theorem wrap_small {k : IntKind} (hk : k.signed = false) {a : Nat} (ha : a < 2 ^ k.bits) : k.wrap (a : Int) = (a : Int) := by
  have e : (2 ^ k.bits : Int) = ((2 ^ k.bits : Nat) : Int) := by simp
  unfold IntKind.wrap
  rw [hk, e]
  simp only [Bool.false_and, Bool.false_eq_true, if_false]
  exact Int.emod_eq_of_lt (by omega) (by omega)
theorem bv_small {n a : Nat} (ha : a < 2 ^ n) : (BitVec.ofInt n (a : Int)).toNat = a := by
  rw [BitVec.ofInt_natCast, BitVec.toNat_ofNat, Nat.mod_eq_of_lt ha]
theorem bits_xor {k : IntKind} (hk : k.signed = false) {a b : Nat} (ha : a < 2 ^ k.bits) (hb : b < 2 ^ k.bits) : bits .xor k (a : Int) (b : Int) = ((a ^^^ b : Nat) : Int) := by
  have h : a ^^^ b < 2 ^ k.bits := Nat.xor_lt_two_pow ha hb
  simp only [bits, BitVec.toNat_xor, bv_small ha, bv_small hb]
  exact wrap_small hk h
theorem bits_or {k : IntKind} (hk : k.signed = false) {a b : Nat} (ha : a < 2 ^ k.bits) (hb : b < 2 ^ k.bits) : bits .or k (a : Int) (b : Int) = ((a ||| b : Nat) : Int) := by
  have h : a ||| b < 2 ^ k.bits := Nat.or_lt_two_pow ha hb
  simp only [bits, BitVec.toNat_or, bv_small ha, bv_small hb]
  exact wrap_small hk h
theorem bits_and {k : IntKind} (hk : k.signed = false) {a b : Nat} (ha : a < 2 ^ k.bits) (hb : b < 2 ^ k.bits) : bits .and k (a : Int) (b : Int) = ((a &&& b : Nat) : Int) := by
  have h : a &&& b < 2 ^ k.bits := Nat.and_lt_two_pow a hb
  simp only [bits, BitVec.toNat_and, bv_small ha, bv_small hb]
  exact wrap_small hk h

/-! ### the check sum -/
def crcBit (c : Nat) : Nat := if c % 2 = 1 then (c / 2) ^^^ 3988292384 else c / 2
def crcBits : Nat → Nat → Nat
  | 0, c => c
  | n + 1, c => crcBits n (crcBit c)
def crcByte (c : Nat) (b : UInt8) : Nat := crcBits 8 (c ^^^ b.toNat)
def crcRun (c : Nat) (l : List UInt8) : Nat := l.foldl crcByte c
def crc (l : List UInt8) : Nat := crcRun 4294967295 l ^^^ 4294967295
theorem crcBit_lt {c : Nat} (h : c < 4294967296) : crcBit c < 4294967296 := by
  unfold crcBit
  split
  · exact Nat.xor_lt_two_pow (n := 32) (by omega) (by decide)
  · omega
theorem crcBits_lt (n : Nat) : ∀ {c : Nat}, c < 4294967296 → crcBits n c < 4294967296 := by
  induction n with
  | zero => intro c h; exact h
  | succ n ih => intro c h; exact ih (crcBit_lt h)
theorem crcBits_succ (n c : Nat) : crcBits (n + 1) c = crcBit (crcBits n c) := by
  induction n generalizing c with
  | zero => rfl
  | succ n ih => exact ih (crcBit c)
theorem xb_lt {c : Nat} (h : c < 4294967296) (b : UInt8) : c ^^^ b.toNat < 4294967296 :=
  Nat.xor_lt_two_pow (n := 32) h (by have := b.toNat_lt; omega)
theorem crcByte_lt {c : Nat} (h : c < 4294967296) (b : UInt8) : crcByte c b < 4294967296 := crcBits_lt 8 (xb_lt h b)
theorem crcRun_lt (l : List UInt8) : ∀ {c : Nat}, c < 4294967296 → crcRun c l < 4294967296 := by
  induction l with
  | nil => intro c h; exact h
  | cons b l ih => intro c h; exact ih (crcByte_lt h b)
theorem crc_lt (l : List UInt8) : crc l < 4294967296 := Nat.xor_lt_two_pow (n := 32) (crcRun_lt l (by decide)) (by decide)
theorem crcRun_snoc (c : Nat) (l : List UInt8) (b : UInt8) : crcRun c (l ++ [b]) = crcByte (crcRun c l) b := by simp [crcRun]
theorem crcRun_append (c : Nat) (l k : List UInt8) : crcRun c (l ++ k) = crcRun (crcRun c l) k := by simp [crcRun]

/-- a bit of the check sum can be gone back. -/
theorem crcBit_inj {c d : Nat} (hc : c < 4294967296) (hd : d < 4294967296) (h : crcBit c = crcBit d) : c = d := by
  have key : ∀ x : Nat, x < 2147483648 → x ^^^ 3988292384 = (x ^^^ 1840808736) + 2147483648 := fun x hx => by
    have e : (3988292384 : Nat) = 1840808736 ^^^ 2147483648 := by decide
    have hlt : x ^^^ 1840808736 < 2 ^ 31 := Nat.xor_lt_two_pow (n := 31) hx (by decide)
    rw [e, ← Nat.xor_assoc]
    generalize x ^^^ 1840808736 = y at *
    apply Nat.eq_of_testBit_eq
    intro i
    rw [Nat.testBit_xor, show y + 2147483648 = 2 ^ 31 * 1 + y from by omega, Nat.testBit_two_pow_mul_add 1 hlt, show (2147483648 : Nat) = 2 ^ 31 from rfl, Nat.testBit_two_pow]
    by_cases hi : i < 31
    · have h31 : i ≠ 31 := by omega
      simp [hi, Ne.symm h31]
    · rw [Nat.testBit_lt_two_pow (Nat.lt_of_lt_of_le hlt (Nat.pow_le_pow_right (by decide) (by omega)))]
      simp only [hi, if_false, Bool.false_xor]
      by_cases h31 : i = 31
      · subst h31; rfl
      · have h1 : i - 31 ≠ 0 := by omega
        rw [show (1 : Nat) = 2 ^ 0 from rfl, Nat.testBit_two_pow]
        simp; omega
  unfold crcBit at h
  have inj : ∀ x y : Nat, x ^^^ 3988292384 = y ^^^ 3988292384 → x = y := fun x y h => by
    have := congrArg (· ^^^ 3988292384) h
    simpa [Nat.xor_assoc] using this
  split at h <;> split at h
  · have := inj _ _ h; omega
  · have := key (c / 2) (by omega); omega
  · have := key (d / 2) (by omega); omega
  · omega
theorem crcBits_inj (n : Nat) : ∀ {c d : Nat}, c < 4294967296 → d < 4294967296 → crcBits n c = crcBits n d → c = d := by
  induction n with
  | zero => intro c d _ _ h; exact h
  | succ n ih => intro c d hc hd h; exact crcBit_inj hc hd (ih (crcBit_lt hc) (crcBit_lt hd) h)
theorem xor_right_inj {a b c : Nat} (h : a ^^^ c = b ^^^ c) : a = b := by
  have := congrArg (· ^^^ c) h
  simpa [Nat.xor_assoc] using this
theorem xor_left_inj {a b c : Nat} (h : c ^^^ a = c ^^^ b) : a = b := xor_right_inj (c := c) (by rw [Nat.xor_comm a, Nat.xor_comm b]; exact h)
theorem crcByte_inj {c d : Nat} {b : UInt8} (hc : c < 4294967296) (hd : d < 4294967296) (h : crcByte c b = crcByte d b) : c = d :=
  xor_right_inj (crcBits_inj 8 (xb_lt hc b) (xb_lt hd b) h)
theorem crcByte_inj' {c : Nat} {b b' : UInt8} (hc : c < 4294967296) (h : crcByte c b = crcByte c b') : b = b' :=
  UInt8.toNat_inj.1 (xor_left_inj (crcBits_inj 8 (xb_lt hc b) (xb_lt hc b') h))
theorem crcRun_inj (l : List UInt8) : ∀ {c d : Nat}, c < 4294967296 → d < 4294967296 → crcRun c l = crcRun d l → c = d := by
  induction l with
  | nil => intro c d _ _ h; exact h
  | cons b l ih => intro c d hc hd h; exact crcByte_inj hc hd (ih (crcByte_lt hc b) (crcByte_lt hd b) h)
/-- One byte is another one: the check sum is another one. -/
theorem crc_one (l k : List UInt8) {b b' : UInt8} (h : crc (l ++ b :: k) = crc (l ++ b' :: k)) : b = b' := by
  have h1 := xor_right_inj h
  rw [crcRun_append, crcRun_append] at h1
  have hl := crcRun_lt l (c := 4294967295) (by decide)
  exact crcByte_inj' hl (crcRun_inj k (crcByte_lt hl b) (crcByte_lt hl b') h1)

/-! ### hexadecimal digits -/
theorem snocInd {α : Type} {P : List α → Prop} (h0 : P []) (h1 : ∀ l a, P l → P (l ++ [a])) (l : List α) : P l := by
  have key : ∀ k : List α, P k.reverse := fun k => by
    induction k with
    | nil => exact h0
    | cons a k ih => rw [List.reverse_cons]; exact h1 _ _ ih
  have := key l.reverse
  rwa [List.reverse_reverse] at this
def hexd (n : Nat) : UInt8 := if n < 10 then UInt8.ofNat (48 + n) else UInt8.ofNat (87 + n)
def hexL : Nat → Nat → List UInt8
  | 0, _ => []
  | m + 1, n => hexL m (n / 16) ++ [hexd (n % 16)]
theorem hexL_len (m n : Nat) : (hexL m n).length = m := by
  induction m generalizing n with
  | zero => rfl
  | succ m ih => simp [hexL, ih]
theorem hexL_pad (k j : Nat) {n : Nat} (h : n < 16 ^ j) : hexL (k + j) n = List.replicate k 48 ++ hexL j n := by
  induction j generalizing n with
  | zero =>
    have : n = 0 := by simpa using h
    subst this
    simp only [Nat.add_zero, hexL, List.append_nil]
    induction k with
    | zero => rfl
    | succ k ih =>
      simp only [hexL, Nat.zero_div, ih]
      rw [List.replicate_succ', show hexd (0 % 16) = 48 from rfl]
  | succ j ih =>
    rw [← Nat.add_assoc]
    simp only [hexL]
    rw [ih (by rw [Nat.pow_succ] at h; omega), List.append_assoc]
theorem hexL_cons (k : Nat) : ∀ n : Nat, hexL (k + 1) n = hexd (n / 16 ^ k % 16) :: hexL k n := by
  induction k with
  | zero => intro n; simp [hexL]
  | succ k ih =>
    intro n
    rw [hexL, ih (n / 16), hexL, Nat.div_div_eq_div_mul, Nat.pow_succ, Nat.mul_comm 16, List.cons_append]
/-- A digit's number, a great letter's too. -/
def udig (c : UInt8) : Option Nat := if 48 ≤ c.toNat ∧ c.toNat ≤ 57 then some (c.toNat - 48) else if 97 ≤ (c ||| 32).toNat ∧ (c ||| 32).toNat ≤ 102 then some ((c ||| 32).toNat - 87) else none
def ustep (acc : Option Nat) (c : UInt8) : Option Nat := acc.bind fun a => (udig c).map fun d => a * 16 + d
def uhex (l : List UInt8) : Option Nat := l.foldl ustep (some 0)
theorem uhex_snoc (l : List UInt8) (c : UInt8) : uhex (l ++ [c]) = ustep (uhex l) c := by simp [uhex]
theorem hexd_facts : ∀ n, n < 16 → udig (hexd n) = some n ∧ ((48 ≤ (hexd n).toNat ∧ (hexd n).toNat ≤ 57) ∨ (97 ≤ (hexd n).toNat ∧ (hexd n).toNat ≤ 102)) := by decide +kernel
theorem uhex_hexL (m : Nat) : ∀ {n : Nat}, n < 16 ^ m → uhex (hexL m n) = some n := by
  induction m with
  | zero => intro n h; have : n = 0 := by simpa using h
            subst this; rfl
  | succ m ih =>
    intro n h
    rw [hexL, uhex_snoc, ih (by rw [Nat.pow_succ] at h; omega)]
    simp only [ustep, Option.bind_some, (hexd_facts (n % 16) (by omega)).1, Option.map_some, Option.some.injEq]
    omega
theorem hexL_inj {m n n' : Nat} (h : n < 16 ^ m) (h' : n' < 16 ^ m) (he : hexL m n = hexL m n') : n = n' := by
  have := uhex_hexL m h
  rw [he, uhex_hexL m h'] at this
  exact (Option.some.inj this).symm
theorem udig_lt {c : UInt8} {d : Nat} (h : udig c = some d) : d < 16 := by
  unfold udig at h
  split at h
  · injection h with h; omega
  · split at h
    · injection h with h; omega
    · cases h
theorem uhex_lt (l : List UInt8) : ∀ {v : Nat}, uhex l = some v → v < 16 ^ l.length := by
  refine snocInd (P := fun l => ∀ {v : Nat}, uhex l = some v → v < 16 ^ l.length) ?_ ?_ l
  · intro v h; injection h with h; subst h; decide
  · intro l c ih v h
    rw [uhex_snoc] at h
    unfold ustep at h
    cases h0 : uhex l with
    | none => rw [h0] at h; cases h
    | some a =>
      cases h1 : udig c with
      | none => rw [h0, h1] at h; cases h
      | some d =>
        rw [h0, h1] at h
        have := ih h0
        have := udig_lt h1
        simp only [Option.bind_some, Option.map_some, Option.some.injEq] at h
        rw [List.length_append, List.length_singleton, Nat.pow_succ]
        omega
theorem uhex_none_append (l k : List UInt8) (h : uhex l = none) : uhex (l ++ k) = none := by
  refine snocInd (P := fun k => uhex (l ++ k) = none) ?_ ?_ k
  · simpa using h
  · intro k c ih
    rw [← List.append_assoc, uhex_snoc, ih]; rfl

/-! ### the order of texts -/
theorem less_irr (l : List UInt8) : Op.bytesLess l l = false := by
  induction l with
  | nil => rfl
  | cons a l ih => simp [Op.bytesLess, ih]
theorem less_append {l k : List UInt8} (h : l.length = k.length) (x y : List UInt8) : Op.bytesLess (l ++ x) (k ++ y) = (Op.bytesLess l k || (l == k && Op.bytesLess x y)) := by
  induction l generalizing k with
  | nil =>
    have : k = [] := List.eq_nil_of_length_eq_zero (by simpa using h.symm)
    subst this
    simp [Op.bytesLess]
  | cons a l ih =>
    cases k with
    | nil => simp at h
    | cons b k =>
      simp only [List.cons_append, Op.bytesLess, ih (k := k) (by simpa using h), List.cons_beq_cons]
      cases a == b <;> cases Op.bytesLess l k <;> cases l == k <;> simp
theorem hexd_lt : ∀ n, n < 16 → ∀ k, k < 16 → (decide (hexd n < hexd k) = decide (n < k)) := by decide +kernel
theorem less_hexL (m : Nat) : ∀ {n k : Nat}, n < 16 ^ m → k < 16 ^ m → Op.bytesLess (hexL m n) (hexL m k) = decide (n < k) := by
  induction m with
  | zero => intro n k hn hk; simp at hn hk; subst hn; subst hk; rfl
  | succ m ih =>
    intro n k hn hk
    rw [Nat.pow_succ] at hn hk
    rw [hexL, hexL, less_append (by rw [hexL_len, hexL_len]), ih (by omega) (by omega)]
    have h1 : Op.bytesLess [hexd (n % 16)] [hexd (k % 16)] = decide (n % 16 < k % 16) := by
      simp only [Op.bytesLess, Bool.and_false, Bool.or_false]
      exact hexd_lt _ (by omega) _ (by omega)
    rw [h1]
    have h2 : (hexL m (n / 16) == hexL m (k / 16)) = decide (n / 16 = k / 16) := by
      by_cases e : n / 16 = k / 16
      · rw [e]; simp
      · rw [decide_eq_false e]
        exact beq_false_of_ne fun h => e (hexL_inj (m := m) (by omega) (by omega) h)
    rw [h2]
    by_cases a : n < k
    · simp only [a, decide_true]
      by_cases b : n / 16 < k / 16
      · simp [b]
      · have : n / 16 = k / 16 := by omega
        have : n % 16 < k % 16 := by omega
        simp [*]
    · simp only [a, decide_false]
      have : ¬ n / 16 < k / 16 := by omega
      by_cases b : n / 16 = k / 16
      · have : ¬ n % 16 < k % 16 := by omega
        simp [*]
      · simp [*]

/-! ### a token's text -/
def pk (m c : Int) : Nat := m.toNat * 65536 + c.toNat
def isSt (m c : Int) : Bool := decide (0 ≤ m) && decide (m ≤ 281474976710655) && decide (0 ≤ c) && decide (c ≤ 65535)
theorem isSt_iff {m c : Int} : isSt m c = true ↔ 0 ≤ m ∧ m ≤ 281474976710655 ∧ 0 ≤ c ∧ c ≤ 65535 := by simp [isSt, and_assoc]
theorem pk_lt {m c : Int} (h : isSt m c = true) : pk m c < 16 ^ 16 := by
  obtain ⟨_, _, _, _⟩ := isSt_iff.1 h
  unfold pk
  omega
theorem pk_inj {m c m' c' : Int} (h : isSt m c = true) (h' : isSt m' c' = true) (e : pk m c = pk m' c') : m = m' ∧ c = c' := by
  obtain ⟨_, _, _, _⟩ := isSt_iff.1 h
  obtain ⟨_, _, _, _⟩ := isSt_iff.1 h'
  unfold pk at e
  omega
def tokT (n : Nat) : List UInt8 := 109 :: hexL 16 n
def tokN (n : Nat) : List UInt8 := tokT n ++ 45 :: hexL 8 (crc (tokT n))
def tok (m c : Int) : List UInt8 := tokN (pk m c)
theorem tokT_len (n : Nat) : (tokT n).length = 17 := by simp [tokT, hexL_len]
theorem tokN_len (n : Nat) : (tokN n).length = 26 := by simp [tokN, tokT_len, hexL_len]
theorem tokN_take (n : Nat) : (tokN n).take 17 = tokT n := by
  unfold tokN
  rw [← tokT_len n, List.take_left]
theorem tokN_inj {n n' : Nat} (h : n < 16 ^ 16) (h' : n' < 16 ^ 16) (e : tokN n = tokN n') : n = n' := by
  have e1 := congrArg (List.take 17) e
  rw [tokN_take, tokN_take] at e1
  exact hexL_inj h h' (List.cons.inj e1).2
theorem tok_inj {m c m' c' : Int} (h : isSt m c = true) (h' : isSt m' c' = true) (e : tok m c = tok m' c') : m = m' ∧ c = c' :=
  pk_inj h h' (tokN_inj (pk_lt h) (pk_lt h') e)
theorem tokN_hex (n : Nat) : ((tokN n).drop 1).take 16 = hexL 16 n := by
  unfold tokN tokT
  rw [List.cons_append, List.drop_succ_cons, List.drop_zero, List.take_append_of_le_length (by rw [hexL_len]; exact Nat.le_refl _), List.take_of_length_le (by rw [hexL_len]; exact Nat.le_refl _)]
/-- Two texts that differ at one place at most are one. -/
theorem tokN_one {n n' : Nat} (h : n < 16 ^ 16) (h' : n' < 16 ^ 16) {l k : List UInt8} {b b' : UInt8} (e : tokN n = l ++ b :: k) (e' : tokN n' = l ++ b' :: k) : b = b' := by
  by_cases hl : l.length < 17
  · -- ahead of the sum: the sums are one
    have hlen := tokN_len n
    rw [e] at hlen
    simp only [List.length_append, List.length_cons] at hlen
    have d1 : (tokN n).drop 17 = k.drop (16 - l.length) := by
      rw [e, show l ++ b :: k = (l ++ [b]) ++ k from by simp, List.drop_append, List.drop_of_length_le (by simp; omega)]
      simp
    have d2 : (tokN n').drop 17 = k.drop (16 - l.length) := by
      rw [e', show l ++ b' :: k = (l ++ [b']) ++ k from by simp, List.drop_append, List.drop_of_length_le (by simp; omega)]
      simp
    have dn : ∀ n, (tokN n).drop 17 = 45 :: hexL 8 (crc (tokT n)) := fun n => by
      unfold tokN
      rw [← tokT_len n, List.drop_left]
    rw [dn] at d1 d2
    have e2 := d1.trans d2.symm
    have hc : crc (tokT n) = crc (tokT n') := hexL_inj (m := 8) (crc_lt _) (crc_lt _) (List.cons.inj e2).2
    have t1 : tokT n = l ++ b :: k.take (16 - l.length) := by
      rw [← tokN_take, e, show l ++ b :: k = (l ++ [b]) ++ k from by simp, List.take_append, List.take_of_length_le (by simp; omega)]
      simp
    have t2 : tokT n' = l ++ b' :: k.take (16 - l.length) := by
      rw [← tokN_take, e', show l ++ b' :: k = (l ++ [b']) ++ k from by simp, List.take_append, List.take_of_length_le (by simp; omega)]
      simp
    rw [t1, t2] at hc
    exact crc_one _ _ hc
  · -- in the sum: the texts ahead of it are one
    have t1 : tokT n = l.take 17 := by rw [← tokN_take, e, List.take_append_of_le_length (by omega)]
    have t2 : tokT n' = l.take 17 := by rw [← tokN_take, e', List.take_append_of_le_length (by omega)]
    have : n = n' := hexL_inj h h' (List.cons.inj (t1.trans t2.symm)).2
    subst this
    have := e.symm.trans e'
    exact (List.cons.inj (List.append_cancel_left this)).1
theorem tokN_less {n k : Nat} (h : n < 16 ^ 16) (h' : k < 16 ^ 16) : Op.bytesLess (tokN n) (tokN k) = decide (n < k) := by
  unfold tokN
  rw [less_append (by rw [tokT_len, tokT_len])]
  have h1 : Op.bytesLess (tokT n) (tokT k) = decide (n < k) := by
    unfold tokT
    simp only [Op.bytesLess, less_hexL 16 h h', beq_self_eq_true, Bool.true_and]
    rw [decide_eq_false (UInt8.lt_irrefl 109), Bool.false_or]
  rw [h1]
  by_cases e : n = k
  · subst e
    rw [less_irr]
    simp
  · have : (tokT n == tokT k) = false := beq_false_of_ne fun he => e (hexL_inj h h' (List.cons.inj he).2)
    rw [this]
    simp
end Go.Mer
