/-
  Texts laid together: Tok, WPlain, SRec, SVer.
-/
import Derived.WalkKit
namespace Go.Mer
open Go
theorem wrap_small {k : IntKind} (hk : k.signed = false) {a : Nat} (ha : a < 2 ^ k.bits) : k.wrap (a : Int) = (a : Int) := by
 have e : (2 ^ k.bits : Int) = ((2 ^ k.bits : Nat) : Int) := by simp
 unfold IntKind.wrap
 rw [hk, e]
 simp only [Bool.false_and, Bool.false_eq_true, if_false]
 exact Int.emod_eq_of_lt (by omega) (by omega)
theorem bv_small {n a : Nat} (ha : a < 2 ^ n) : (BitVec.ofInt n (a : Int)).toNat = a := by
 rw [BitVec.ofInt_natCast, BitVec.toNat_ofNat, Nat.mod_eq_of_lt ha]
theorem bits_xor {k : IntKind} (hk : k.signed = false) {a b : Nat} (ha : a < 2 ^ k.bits) (hb : b < 2 ^ k.bits) : bits .xor k (a : Int) (b : Int) = ((a ^^^ b : Nat) : Int) := by
 have h : a ^^^ b < 2 ^ k.bits := Nat.xor_lt_two_pow ha hb
 simp only [bits, BitVec.toNat_xor, bv_small ha, bv_small hb]
 exact wrap_small hk h
theorem bits_or {k : IntKind} (hk : k.signed = false) {a b : Nat} (ha : a < 2 ^ k.bits) (hb : b < 2 ^ k.bits) : bits .or k (a : Int) (b : Int) = ((a ||| b : Nat) : Int) := by
 have h : a ||| b < 2 ^ k.bits := Nat.or_lt_two_pow ha hb
 simp only [bits, BitVec.toNat_or, bv_small ha, bv_small hb]
 exact wrap_small hk h
theorem bits_and {k : IntKind} (hk : k.signed = false) {a b : Nat} (ha : a < 2 ^ k.bits) (hb : b < 2 ^ k.bits) : bits .and k (a : Int) (b : Int) = ((a &&& b : Nat) : Int) := by
 have h : a &&& b < 2 ^ k.bits := Nat.and_lt_two_pow a hb
 simp only [bits, BitVec.toNat_and, bv_small ha, bv_small hb]
 exact wrap_small hk h
def crcBit (c : Nat) : Nat := if c % 2 = 1 then (c / 2) ^^^ 3988292384 else c / 2
def crcBits : Nat → Nat → Nat
 | 0, c => c
 | n + 1, c => crcBits n (crcBit c)
def crcByte (c : Nat) (b : UInt8) : Nat := crcBits 8 (c ^^^ b.toNat)
def crcRun (c : Nat) (l : List UInt8) : Nat := l.foldl crcByte c
def crc (l : List UInt8) : Nat := crcRun 4294967295 l ^^^ 4294967295
theorem crcBit_lt {c : Nat} (h : c < 4294967296) : crcBit c < 4294967296 := by
 unfold crcBit
 split
 ·exact Nat.xor_lt_two_pow (n := 32) (by omega) (by decide)
 ·omega
theorem crcBits_lt (n : Nat) : ∀ {c : Nat}, c < 4294967296 → crcBits n c < 4294967296 := by
 induction n with
 | zero => intro c h; exact h
 | succ n ih => intro c h; exact ih (crcBit_lt h)
theorem crcBits_succ (n c : Nat) : crcBits (n + 1) c = crcBit (crcBits n c) := by
 induction n generalizing c with
 | zero => rfl
 | succ n ih => exact ih (crcBit c)
theorem xb_lt {c : Nat} (h : c < 4294967296) (b : UInt8) : c ^^^ b.toNat < 4294967296 :=
 Nat.xor_lt_two_pow (n := 32) h (by have := b.toNat_lt; omega)
theorem crcByte_lt {c : Nat} (h : c < 4294967296) (b : UInt8) : crcByte c b < 4294967296 := crcBits_lt 8 (xb_lt h b)
theorem crcRun_lt (l : List UInt8) : ∀ {c : Nat}, c < 4294967296 → crcRun c l < 4294967296 := by
 induction l with
 | nil => intro c h; exact h
 | cons b l ih => intro c h; exact ih (crcByte_lt h b)
theorem crc_lt (l : List UInt8) : crc l < 4294967296 := Nat.xor_lt_two_pow (n := 32) (crcRun_lt l (by decide)) (by decide)
theorem crcRun_snoc (c : Nat) (l : List UInt8) (b : UInt8) : crcRun c (l ++ [b]) = crcByte (crcRun c l) b := by simp [crcRun]
theorem crcRun_append (c : Nat) (l k : List UInt8) : crcRun c (l ++ k) = crcRun (crcRun c l) k := by simp [crcRun]
def pk (m c : Int) : Nat := m.toNat * 65536 + c.toNat
def isSt (m c : Int) : Bool := decide (0 ≤ m) && decide (m ≤ 281474976710655) && decide (0 ≤ c) && decide (c ≤ 65535)
theorem isSt_iff {m c : Int} : isSt m c = true ↔ 0 ≤ m ∧ m ≤ 281474976710655 ∧ 0 ≤ c ∧ c ≤ 65535 := by simp [isSt, and_assoc]
end Go.Mer
namespace Go.Mer
open Go
def fourL (v : Nat) : List UInt8 := [UInt8.ofNat v, UInt8.ofNat (v / 256), UInt8.ofNat (v / 65536), UInt8.ofNat (v / 16777216)]
def byteAt (b : List UInt8) (i : Nat) : Nat := (b.getD i 0).toNat
def from4 (b : List UInt8) : Nat := byteAt b 0 + byteAt b 1 * 256 + byteAt b 2 * 65536 + byteAt b 3 * 16777216
theorem u8_of (n : Nat) : (UInt8.ofNat n).toNat = n % 256 := UInt8.toNat_ofNat'
theorem fourL_length (v : Nat) : (fourL v).length = 4 := rfl
theorem four_from (b : List UInt8) (h : 4 ≤ b.length) : fourL (from4 b) = b.take 4 := by
 match b, h with
 | b0 :: b1 :: b2 :: b3 :: r, _ =>
  have h0 := b0.toNat_lt
  have h1 := b1.toNat_lt
  have h2 := b2.toNat_lt
  have h3 := b3.toNat_lt
  have e : from4 (b0 :: b1 :: b2 :: b3 :: r) = b0.toNat + b1.toNat * 256 + b2.toNat * 65536 + b3.toNat * 16777216 := rfl
  rw [e]
  unfold fourL
  rw [show (b0 :: b1 :: b2 :: b3 :: r).take 4 = [b0, b1, b2, b3] from rfl]
  have key : ∀ (x : UInt8) (n : Nat), n % 256 = x.toNat → UInt8.ofNat n = x := fun x n hx => UInt8.toNat_inj.1 (by rw [u8_of]; exact hx)
  rw [key b0 _ (by omega), key b1 _ (by omega), key b2 _ (by omega), key b3 _ (by omega)]
def headL (n : Nat) : List UInt8 := fourL n ++ fourL (crc (fourL n))
theorem headL_length (n : Nat) : (headL n).length = 8 := rfl
def bodyL (p : List UInt8) : List UInt8 := headL p.length ++ p
def frameL (p : List UInt8) : List UInt8 := bodyL p ++ fourL (crc (bodyL p))
theorem frameL_length (p : List UInt8) : (frameL p).length = p.length + 12 := by
 unfold frameL bodyL
 rw [List.length_append, List.length_append, headL_length, fourL_length]
 omega
def deF (b : List UInt8) : Option (List UInt8 × Nat) :=
 if b.length < 8 then none
 else if b.take 8 ≠ headL (from4 b) then none
 else if 262144 < from4 b then none
 else if b.length < 12 + from4 b then none
 else if from4 (b.drop (8 + from4 b)) ≠ crc (b.take (8 + from4 b)) then none
 else some ((b.drop 8).take (from4 b), from4 b + 12)
theorem deF_some {b p : List UInt8} {n : Nat} (h : deF b = some (p, n)) : n = p.length + 12 ∧ n ≤ b.length ∧ p.length ≤ 262144 ∧ (∃ r, b = frameL p ++ r) := by
 unfold deF at h
 split at h
 ·cases h
 ·next h8 =>
  split at h
  ·cases h
  ·next hh =>
   split at h
   ·cases h
   ·next hm =>
    split at h
    ·cases h
    ·next hl =>
     split at h
     ·cases h
     ·next hc =>
      injection h with h
      injection h with h1 h2
      have hpl : p.length = from4 b := by rw [← h1, List.length_take, List.length_drop]; omega
      refine ⟨by omega, by omega, by omega, b.drop (12 + from4 b), ?_⟩
      have hh' : b.take 8 = headL (from4 b) := Decidable.byContradiction hh
      have hc' : from4 (b.drop (8 + from4 b)) = crc (b.take (8 + from4 b)) := Decidable.byContradiction hc
      have e1 : b.take (8 + from4 b) = bodyL p := by
       unfold bodyL
       rw [hpl, ← hh', ← h1, List.take_add]
      have e2 : (b.drop (8 + from4 b)).take 4 = fourL (crc (bodyL p)) := by
       rw [← four_from _ (by rw [List.length_drop]; omega), hc', e1]
      have e3 : b = b.take (8 + from4 b) ++ ((b.drop (8 + from4 b)).take 4 ++ b.drop (12 + from4 b)) := by
       have : b.drop (12 + from4 b) = (b.drop (8 + from4 b)).drop 4 := by rw [List.drop_drop]; congr 1; omega
       rw [this, List.take_append_drop, List.take_append_drop]
      rw [e1, e2] at e3
      unfold frameL
      rw [List.append_assoc]
      exact e3
def numL (n : Nat) : List UInt8 := if h : n < 128 then [UInt8.ofNat n] else UInt8.ofNat (n % 128 + 128) :: numL (n / 128)
termination_by n
decreasing_by omega
def numD : Nat → Nat → List UInt8 → Option (Nat × List UInt8)
 | _, _, [] => none
 | i, u, c :: r =>
  if 9 ≤ i ∨ (0 < i ∧ c = 0) then none
  else if c.toNat < 128 then (if 4611686018427387904 < u + c.toNat * 128 ^ i then none else some (u + c.toNat * 128 ^ i, r))
  else numD (i + 1) (u + (c.toNat - 128) * 128 ^ i) r
theorem numL_small {n : Nat} (h : n < 128) : numL n = [UInt8.ofNat n] := by rw [numL, dif_pos h]
theorem numL_step {n : Nat} (h : ¬ n < 128) : numL n = UInt8.ofNat (n % 128 + 128) :: numL (n / 128) := by rw [numL, dif_neg h]
theorem numL_length (k : Nat) : ∀ n, n < 128 ^ (k + 1) → (numL n).length ≤ k + 1 := by
 induction k with
 | zero => intro n h; rw [numL_small (by simpa using h)]; simp
 | succ k ih =>
  intro n h
  by_cases hn : n < 128
  ·rw [numL_small hn]; simp
  ·rw [numL_step hn, List.length_cons]
   have := ih (n / 128) (by rw [Nat.pow_succ] at h; omega)
   omega
def entsG : Nat → Nat → List UInt8 → List (List UInt8) × Nat
 | 0, _, _ => ([], 0)
 | f + 1, k, b =>
  match deF b with
  | none => ([], 0)
  | some (p, n) =>
   match numD 0 0 p with
   | none => ([], 0)
   | some (m, q) => if m = k then (q :: (entsG f (k + 1) (b.drop n)).1, n + (entsG f (k + 1) (b.drop n)).2) else ([], 0)
def entsF (k : Nat) (b : List UInt8) : List (List UInt8) × Nat := entsG b.length k b
theorem deF_nil : deF [] = none := rfl
theorem entsG_fuel : ∀ (f : Nat) (b : List UInt8) (k : Nat), b.length ≤ f → entsG f k b = entsG b.length k b := by
 have key : ∀ (m f g : Nat) (b : List UInt8) (k : Nat), b.length ≤ m → b.length ≤ f → b.length ≤ g → entsG f k b = entsG g k b := by
  intro m
  induction m with
  | zero =>
   intro f g b k hm hf hg
   obtain rfl : b = [] := List.eq_nil_of_length_eq_zero (by omega)
   cases f <;> cases g <;> simp [entsG, deF_nil]
  | succ m ih =>
   intro f g b k hm hf hg
   cases f with
   | zero =>
    obtain rfl : b = [] := List.eq_nil_of_length_eq_zero (by omega)
    cases g <;> simp [entsG, deF_nil]
   | succ f =>
    cases g with
    | zero =>
     obtain rfl : b = [] := List.eq_nil_of_length_eq_zero (by omega)
     simp [entsG, deF_nil]
    | succ g =>
     rw [entsG, entsG]
     cases hd : deF b with
     | none => rfl
     | some x =>
      obtain ⟨p, n⟩ := x
      obtain ⟨h1, h2, _⟩ := deF_some hd
      have e : ∀ k, entsG f k (b.drop n) = entsG g k (b.drop n) := fun k => ih f g _ k (by rw [List.length_drop]; omega) (by rw [List.length_drop]; omega) (by rw [List.length_drop]; omega)
      simp only [e]
 exact fun f b k h => key b.length f b.length b k (Nat.le_refl _) h (Nat.le_refl _)
theorem entsF_more {b p q : List UInt8} {n k : Nat} (h : deF b = some (p, n)) (hq : numD 0 0 p = some (k, q)) : entsF k b = (q :: (entsF (k + 1) (b.drop n)).1, n + (entsF (k + 1) (b.drop n)).2) := by
 obtain ⟨h1, h2, _⟩ := deF_some h
 unfold entsF
 cases hl : b.length with
 | zero => omega
 | succ f =>
  rw [entsG, h]
  simp only [hq, if_true]
  rw [entsG_fuel f _ _ (by rw [List.length_drop]; omega)]
theorem entsF_none {b : List UInt8} (k : Nat) (h : deF b = none) : entsF k b = ([], 0) := by
 unfold entsF
 cases hl : b.length with
 | zero => rfl
 | succ f => rw [entsG, h]
theorem entsF_bad {b p : List UInt8} {n k : Nat} (h : deF b = some (p, n)) (hq : ∀ q, numD 0 0 p ≠ some (k, q)) : entsF k b = ([], 0) := by
 unfold entsF
 cases hl : b.length with
 | zero => rfl
 | succ f =>
  rw [entsG, h]
  cases hn : numD 0 0 p with
  | none => simp only [hn]
  | some x =>
   obtain ⟨m, q⟩ := x
   simp only [hn]
   rw [if_neg]
   rintro rfl
   exact hq q hn
theorem entsF_le (b : List UInt8) : ∀ k, (entsF k b).2 ≤ b.length := by
 have key : ∀ (m : Nat) (b : List UInt8) (k : Nat), b.length ≤ m → (entsF k b).2 ≤ b.length := by
  intro m
  induction m with
  | zero =>
   intro b k h
   obtain rfl : b = [] := List.eq_nil_of_length_eq_zero (by omega)
   rw [entsF_none k deF_nil]
   exact Nat.le_refl _
  | succ m ih =>
   intro b k h
   cases hd : deF b with
   | none => rw [entsF_none k hd]; exact Nat.zero_le _
   | some x =>
    obtain ⟨p, n⟩ := x
    obtain ⟨h1, h2, _⟩ := deF_some hd
    by_cases hq : ∃ q, numD 0 0 p = some (k, q)
    ·obtain ⟨q, hq⟩ := hq
     rw [entsF_more hd hq]
     have := ih (b.drop n) (k + 1) (by rw [List.length_drop]; omega)
     rw [List.length_drop] at this
     show n + _ ≤ _
     omega
    ·rw [entsF_bad hd fun q h => hq ⟨q, h⟩]
     exact Nat.zero_le _
 exact fun k => key b.length b k (Nat.le_refl _)
end Go.Mer
namespace Go.Mer
open Go
def bytesL (p : List UInt8) : List UInt8 := numL p.length ++ p
structure VerS where
 m : Int
 c : Int
 o : Int
 val : List UInt8
 gone : Bool
 ttl : Int
structure RecS where
 o : Int
 seq : Int
 key : ByteArray
 v : VerS
def isV (v : VerS) : Bool := isSt v.m v.c && decide (0 ≤ v.o ∧ v.o < 5 ∧ v.val.length ≤ 1024 ∧ 0 ≤ v.ttl ∧ v.ttl ≤ 281474976710655 ∧ (v.gone = true → v.val.length = 0 ∧ v.ttl = 0))
def isR (r : RecS) : Bool := isV r.v && decide (r.v.o = r.o ∧ 1 ≤ r.seq ∧ r.seq ≤ 1099511627776 ∧ 1 ≤ r.key.size ∧ r.key.size ≤ 64)
theorem isV_iff {v : VerS} : isV v = true ↔ (0 ≤ v.m ∧ v.m ≤ 281474976710655 ∧ 0 ≤ v.c ∧ v.c ≤ 65535) ∧ 0 ≤ v.o ∧ v.o < 5 ∧ v.val.length ≤ 1024 ∧ 0 ≤ v.ttl ∧ v.ttl ≤ 281474976710655 ∧ (v.gone = true → v.val.length = 0 ∧ v.ttl = 0) := by
 unfold isV
 rw [Bool.and_eq_true, isSt_iff, decide_eq_true_iff]
theorem isR_iff {r : RecS} : isR r = true ↔ isV r.v = true ∧ r.v.o = r.o ∧ 1 ≤ r.seq ∧ r.seq ≤ 1099511627776 ∧ 1 ≤ r.key.size ∧ r.key.size ≤ 64 := by
 unfold isR
 rw [Bool.and_eq_true, decide_eq_true_iff]
def goneN (b : Bool) : Nat := if b = true then 1 else 0
def recL (r : RecS) : List UInt8 :=
 numL r.o.toNat ++ (numL r.seq.toNat ++ (bytesL r.key.data.toList ++ (numL r.v.m.toNat ++ (numL r.v.c.toNat ++ (numL (goneN r.v.gone) ++ (numL r.v.ttl.toNat ++ bytesL r.v.val))))))
theorem key_size (k : ByteArray) : k.data.toList.length = k.size := rfl
theorem recL_length {r : RecS} (h : isR r = true) : (recL r).length ≤ 1120 := by
 obtain ⟨hv, e1, e2, e3, e4, e5⟩ := isR_iff.1 h
 obtain ⟨⟨m1, m2, c1, c2⟩, o1, o2, v1, t1, t2, _⟩ := isV_iff.1 hv
 have a1 := numL_length 0 r.o.toNat (by rw [← e1]; simp; omega)
 have a2 := numL_length 5 r.seq.toNat (by simp; omega)
 have a3 := numL_length 0 r.key.data.toList.length (by rw [key_size]; simp; omega)
 have a4 := numL_length 6 r.v.m.toNat (by simp; omega)
 have a5 := numL_length 2 r.v.c.toNat (by simp; omega)
 have a6 := numL_length 0 (goneN r.v.gone) (by unfold goneN; split <;> decide)
 have a7 := numL_length 6 r.v.ttl.toNat (by simp; omega)
 have a8 := numL_length 1 r.v.val.length (by simp; omega)
 have a9 := key_size r.key
 unfold recL bytesL
 simp only [List.length_append]
 omega
def rowsL (l : List RecS) : List UInt8 := l.flatMap fun r => bytesL (recL r)
def listL (l : List RecS) : List UInt8 := numL l.length ++ rowsL l
theorem rowsL_length {l : List RecS} (h : ∀ r ∈ l, isR r = true) : (rowsL l).length ≤ l.length * 1122 := by
 unfold rowsL
 induction l with
 | nil => exact Nat.le_refl _
 | cons r l ih =>
  have h1 := recL_length (h r (List.mem_cons_self ..))
  have h2 := ih fun x hx => h x (List.mem_cons_of_mem _ hx)
  have h3 := numL_length 1 (recL r).length (by simp; omega)
  rw [List.flatMap_cons, List.length_append, List.length_cons]
  unfold bytesL at h2 ⊢
  rw [List.length_append]
  omega
theorem listL_length {l : List RecS} (h : ∀ r ∈ l, isR r = true) (hl : l.length ≤ 64) : (listL l).length ≤ 71809 := by
 have h1 := rowsL_length h
 have h2 := numL_length 0 l.length (by simp; omega)
 unfold listL
 rw [List.length_append]
 omega
end Go.Mer
namespace Go.Mer
open Go
def stLt (m c n d : Int) : Bool := decide (m < n ∨ (m = n ∧ c < d))
theorem stLt_iff {m c n d : Int} : stLt m c n d = true ↔ (m < n ∨ (m = n ∧ c < d)) := decide_eq_true_iff
theorem stLt_not {m c n d : Int} : stLt m c n d = false ↔ ¬ (m < n ∨ (m = n ∧ c < d)) := decide_eq_false_iff_not
def vLt (a b : VerS) : Bool := decide (a.m < b.m ∨ (a.m = b.m ∧ (a.c < b.c ∨ (a.c = b.c ∧ a.o < b.o))))
theorem vLt_iff {a b : VerS} : vLt a b = true ↔ (a.m < b.m ∨ (a.m = b.m ∧ (a.c < b.c ∨ (a.c = b.c ∧ a.o < b.o)))) := decide_eq_true_iff
theorem vLt_not {a b : VerS} : vLt a b = false ↔ ¬ (a.m < b.m ∨ (a.m = b.m ∧ (a.c < b.c ∨ (a.c = b.c ∧ a.o < b.o)))) := decide_eq_false_iff_not
theorem vLt_trans {a b c : VerS} (h : vLt a b = true) (h' : vLt b c = true) : vLt a c = true := by
 rw [vLt_iff] at *
 omega
theorem vLt_same {a b : VerS} (h : vLt a b = false) (h' : vLt b a = false) : a.m = b.m ∧ a.c = b.c ∧ a.o = b.o := by
 rw [vLt_not] at *
 omega
def ChS (l : List VerS) : Prop := l.Pairwise fun a b => vLt a b = true
def putI (l : List VerS) (v : VerS) : Nat := (l.takeWhile fun x => vLt x v).length
def putHas (l : List VerS) (v : VerS) : Bool := match l[putI l v]? with | some x => !vLt v x | none => false
def putC (l : List VerS) (v : VerS) : List VerS := l.take (putI l v) ++ v :: l.drop (putI l v)
theorem takeWhile_take {α : Type} (p : α → Bool) : ∀ l : List α, l.take (l.takeWhile p).length = l.takeWhile p := by
 intro l
 induction l with
 | nil => rfl
 | cons x l ih =>
  rw [List.takeWhile_cons]
  split
  ·rw [List.length_cons, List.take_succ_cons, ih]
  ·rfl
theorem takeWhile_le {α : Type} (p : α → Bool) (l : List α) : (l.takeWhile p).length ≤ l.length := by
 have := congrArg List.length (takeWhile_take p l)
 rw [List.length_take] at this
 omega
theorem takeWhile_all {α : Type} {p : α → Bool} {l : List α} : ∀ {x : α}, x ∈ l.takeWhile p → p x = true := by
 intro x hx
 induction l with
 | nil => exact absurd hx List.not_mem_nil
 | cons y l ih =>
  rw [List.takeWhile_cons] at hx
  split at hx
  ·next hy =>
   rcases List.mem_cons.1 hx with rfl | hx
   ·exact hy
   ·exact ih hx
  ·exact absurd hx List.not_mem_nil
theorem takeWhile_get {α : Type} {p : α → Bool} : ∀ {l : List α} {x : α}, l[(l.takeWhile p).length]? = some x → p x = false := by
 intro l
 induction l with
 | nil => intro x h; simp at h
 | cons y l ih =>
  intro x h
  rw [List.takeWhile_cons] at h
  split at h
  ·rw [List.length_cons, List.getElem?_cons_succ] at h
   exact ih h
  ·next hy =>
   rw [List.length_nil, List.getElem?_cons_zero] at h
   injection h with h
   subst h
   simpa using hy
theorem putI_le (l : List VerS) (v : VerS) : putI l v ≤ l.length := takeWhile_le _ _
theorem putI_below {l : List VerS} {v x : VerS} (h : x ∈ l.take (putI l v)) : vLt x v = true := by
 unfold putI at h
 rw [takeWhile_take] at h
 exact takeWhile_all (p := fun x => vLt x v) h
theorem putI_above {l : List VerS} {v : VerS} (hs : ChS l) (hh : putHas l v = false) {x : VerS} (h : x ∈ l.drop (putI l v)) : vLt v x = true := by
 obtain ⟨i, hi, rfl⟩ := List.mem_iff_getElem.1 h
 rw [List.length_drop] at hi
 have h0 : l[putI l v]? = some l[putI l v] := List.getElem?_eq_getElem (by omega)
 have hv : vLt v l[putI l v] = true := by
  unfold putHas at hh
  rw [h0] at hh
  simpa using hh
 rw [List.getElem_drop]
 rcases Nat.eq_zero_or_pos i with rfl | hp
 ·exact hv
 ·exact vLt_trans hv (List.pairwise_iff_getElem.1 hs _ _ (by omega) (by omega) (by omega))
theorem putC_sorted {l : List VerS} {v : VerS} (hs : ChS l) (hh : putHas l v = false) : ChS (putC l v) := by
 unfold ChS putC
 rw [List.pairwise_append, List.pairwise_cons]
 refine ⟨hs.sublist (List.take_sublist _ _), ⟨fun x hx => putI_above hs hh hx, hs.sublist (List.drop_sublist _ _)⟩, fun x hx y hy => ?_⟩
 rcases List.mem_cons.1 hy with rfl | hy
 ·exact putI_below hx
 ·exact vLt_trans (putI_below hx) (putI_above hs hh hy)
theorem putC_mem {l : List VerS} {v x : VerS} : x ∈ putC l v ↔ x = v ∨ x ∈ l := by
 unfold putC
 rw [List.mem_append, List.mem_cons]
 constructor
 ·rintro (h | h | h)
  ·exact .inr (List.mem_of_mem_take h)
  ·exact .inl h
  ·exact .inr (List.mem_of_mem_drop h)
 ·rintro (h | h)
  ·exact .inr (.inl h)
  ·rw [← List.take_append_drop (putI l v) l] at h
   rcases List.mem_append.1 h with h | h
   ·exact .inl h
   ·exact .inr (.inr h)
theorem putC_length (l : List VerS) (v : VerS) : (putC l v).length = l.length + 1 := by
 have := putI_le l v
 unfold putC
 rw [List.length_append, List.length_cons, List.length_take, List.length_drop]
 omega
theorem putHas_no {l : List VerS} {v : VerS} (h : ∀ x ∈ l, ¬ (x.m = v.m ∧ x.c = v.c ∧ x.o = v.o)) : putHas l v = false := by
 unfold putHas
 split
 ·next x hx =>
  have h1 := takeWhile_get (p := fun x => vLt x v) hx
  have hm : x ∈ l := List.mem_of_getElem? hx
  cases hv : vLt v x with
  | true => rfl
  | false => exact absurd (vLt_same h1 hv) (h x hm)
 ·rfl
theorem ChS.below {l : List VerS} {a v : VerS} (hs : ChS l) (ha : l.getLast? = some a) (h : vLt a v = true) : ∀ x ∈ l, vLt x v = true := by
 intro x hx
 obtain ⟨r, rfl⟩ := List.getLast?_eq_some_iff.1 ha
 rcases List.mem_append.1 hx with hx | hx
 ·have := (List.pairwise_append.1 hs).2.2 x hx a (List.mem_singleton.2 rfl)
  exact vLt_trans this h
 ·rw [List.mem_singleton.1 hx]
  exact h
def seenV (v : VerS) (m c : Int) : Bool := !stLt m c v.m v.c && (!v.gone && (v.ttl == 0 || decide (m - v.m < v.ttl)))
def uptoC (l : List VerS) (m c : Int) : Nat := (l.takeWhile fun x => !stLt m c x.m x.c).length
def atC (l : List VerS) (m c : Int) : Option VerS := if uptoC l m c = 0 then none else l[uptoC l m c - 1]?
def getC (l : List VerS) (m c : Int) : Option (List UInt8) := match atC l m c with | none => none | some v => if seenV v m c = true then some v.val else none
theorem uptoC_le (l : List VerS) (m c : Int) : uptoC l m c ≤ l.length := takeWhile_le _ _
theorem upto_below {l : List VerS} {m c : Int} {i : Nat} {x : VerS} (hi : i < uptoC l m c) (hx : l[i]? = some x) : stLt m c x.m x.c = false := by
 have h1 : x ∈ l.take (uptoC l m c) := by
  refine List.mem_of_getElem? (i := i) ?_
  rw [List.getElem?_take_of_lt hi]
  exact hx
 unfold uptoC at h1
 rw [takeWhile_take] at h1
 simpa using takeWhile_all (p := fun x : VerS => !stLt m c x.m x.c) h1
end Go.Mer

