/-
  Steps and answers that were handed in; the parts of a line; dec.
-/
import Derived.Test.YthkbcfenjodbmaaDoorLine
import Derived.Test.YthkbcfenjodbmaaDoorBuild
import Derived.Lib.ItoaLen
namespace Go.Mer
open Go Go.RowKit

/-! ### steps and answers -/
structure PairR where
  key : ByteArray
  a : Option Addr
  cap : Nat
  data : List UInt8
def PairR.cells (p : PairR) : List Value := [.string p.key, .slice p.a p.data.length p.cap]
structure AnsR where
  err : Int
  n : Int
  milli : Int
  count : Int
  found : Bool
  a : Option Addr
  cap : Nat
  data : List UInt8
  pa : Option Addr
  pcap : Nat
  pairs : List PairR
def AnsR.cells (r : AnsR) : List Value := [.int .i64 r.err, .int .i64 r.n, .int .i64 r.milli, .int .i64 r.count, .bool r.found, .slice r.a r.data.length r.cap, .slice r.pa r.pairs.length r.pcap]
def I64 (n : Int) : Prop := -9223372036854775808 ≤ n ∧ n ≤ 9223372036854775807
def pairC (l : List PairR) : List Value := l.flatMap PairR.cells
theorem pairC_len (l : List PairR) : (pairC l).length = l.length * 2 := by
  induction l with
  | nil => rfl
  | cons p l ih => simp only [pairC, List.flatMap_cons, List.length_append, List.length_cons, PairR.cells] at ih ⊢; simp only [List.length_nil]; omega
theorem pairC_get (l : List PairR) : ∀ {i : Nat} (h : i < l.length), (pairC l)[i * 2]? = some (.string l[i].key) ∧ (pairC l)[i * 2 + 1]? = some (.slice l[i].a l[i].data.length l[i].cap) := by
  induction l with
  | nil => intro i h; simp at h
  | cons p l ih =>
    intro i h
    cases i with
    | zero => exact ⟨rfl, rfl⟩
    | succ i =>
      have := ih (i := i) (by simpa using h)
      rw [show (i + 1) * 2 = i * 2 + 2 from by omega]
      exact this
structure AnsR.At (w : World) (r : AnsR) : Prop where
  ints : I64 r.err ∧ I64 r.n ∧ I64 r.milli ∧ I64 r.count
  val : Rd w w.heap.size r.a (u8s r.data)
  top : Rd w w.heap.size r.pa (pairC r.pairs)
  each : ∀ p ∈ r.pairs, Rd w w.heap.size p.a (u8s p.data)
theorem Rd.kp {w w' : World} {a : Option Addr} {xs : List Value} (h : Rd w w.heap.size a xs) (hk : Kp No w w') : Rd w' w'.heap.size a xs := (h.keep hk fun _ _ x => x).mono hk.size (Nat.le_refl _)
theorem AnsR.At.keep {w w' : World} {r : AnsR} (h : r.At w) (hk : Kp No w w') : r.At w' := ⟨h.ints, h.val.kp hk, h.top.kp hk, fun p hp => (h.each p hp).kp hk⟩
/-- What is not heavy. -/
structure AnsR.light (r : AnsR) : Prop where
  val : r.data.length ≤ 4000
  many : r.pairs.length ≤ 4000
  each : ∀ p ∈ r.pairs, p.key.size ≤ 4000 ∧ p.data.length ≤ 4000
structure StepR where
  kind : Int
  node : Int
  v2 : Value
  v3 : Value
  v4 : Value
  v5 : Value
  v6 : Value
  v7 : Value
  v8 : Value
  v9 : Value
def StepR.cells (s : StepR) : List Value := [.int .i64 s.kind, .int .i64 s.node, s.v2, s.v3, s.v4, s.v5, s.v6, s.v7, s.v8, s.v9]

/-! ### the parts of a line -/
def strB (l : List UInt8) : ByteArray := ⟨l.toArray⟩
def decS (n : Int) : ByteArray := ⟨(Lib.itoa (max 0 n)).toArray⟩
def errP (e : Int) : List ByteArray := if e = 0 then [] else [⟨#[101, 114, 114, 111, 114, 32]⟩ ++ decS e]
def nP (n : Int) : List ByteArray := if 0 < n then [⟨#[110, 61]⟩ ++ decS n] else []
def atP (m c : Int) : List ByteArray := if m = 0 ∧ c = 0 then [] else [⟨#[97, 116, 61]⟩ ++ decS m ++ ⟨#[46]⟩ ++ decS c]
end Go.Mer
namespace Go.Proofs.YthkbcfenjodbmaaDoor
open Go.RowKit Go.Mer
def foundP (f : Bool) (v : List UInt8) : List ByteArray := if f then [⟨#[102, 111, 117, 110, 100, 32]⟩ ++ quoS v] else []
def pairP (p : PairR) : ByteArray := quoS p.key.data.toList ++ ⟨#[61]⟩ ++ quoS p.data
def partsOf (k nd : Int) (r : AnsR) : List ByteArray := [decS k, decS nd] ++ errP r.err ++ nP r.n ++ atP r.milli r.count ++ foundP r.found r.data ++ r.pairs.map pairP
def lineS (k nd : Int) (r : AnsR) : ByteArray := joinS (partsOf k nd r) ⟨#[32]⟩

/-! ### how long -/
theorem decS_len {n : Int} (h : I64 n) : (decS n).size ≤ 21 := by
  have := Lib.itoa_length_le (max 0 n) (by have := h.1; omega) (by have := h.2; omega)
  simpa [decS, ByteArray.size] using this
theorem quoS_len (v : List UInt8) : (quoS v).size ≤ 4 * v.length + 2 := by
  have := (quoteL_len v).2
  simpa [quoS, ByteArray.size] using this
theorem join_len (X : List (List UInt8)) (s : List UInt8) (B : Nat) (h : ∀ x ∈ X, x.length + s.length ≤ B) : (Lib.join X s).length ≤ X.length * B := by
  induction X with
  | nil => simp [Lib.join_nil]
  | cons x X ih =>
    have h1 := h x (List.mem_cons_self ..)
    have h2 := ih fun y hy => h y (List.mem_cons_of_mem _ hy)
    rcases X with _ | ⟨y, X⟩
    · rw [Lib.join_one]; simp; omega
    · have e : (Lib.join (x :: y :: X) s).length = x.length + s.length + (Lib.join (y :: X) s).length := by
        simp only [Lib.join, List.intercalate, List.intersperse_cons_cons, List.flatten_cons, List.length_append]
        omega
      rw [e]
      simp only [List.length_cons] at h2 ⊢
      have : (X.length + 1 + 1) * B = (X.length + 1) * B + B := by rw [Nat.add_mul]; omega
      omega
theorem partsOf_len {k nd : Int} {r : AnsR} (hk : I64 k) (hn : I64 nd) (h : I64 r.err ∧ I64 r.n ∧ I64 r.milli ∧ I64 r.count) (hl : r.light) : (partsOf k nd r).length ≤ 4006 ∧ ∀ x ∈ partsOf k nd r, x.size ≤ 40000 := by
  obtain ⟨h1, h2, h3, h4⟩ := h
  have l1 := decS_len hk
  have l2 := decS_len hn
  have l3 := decS_len h1
  have l4 := decS_len h2
  have l5 := decS_len h3
  have l6 := decS_len h4
  have l7 := quoS_len r.data
  have l8 := hl.val
  refine ⟨?_, fun x hx => ?_⟩
  · have := hl.many
    simp only [partsOf, errP, nP, atP, foundP, List.length_append, List.length_map, List.length_cons, List.length_nil]
    split <;> split <;> split <;> split <;> simp <;> omega
  · simp only [partsOf, List.mem_append, List.mem_map, List.mem_cons, List.not_mem_nil, or_false] at hx
    rcases hx with (((((rfl | rfl) | hx) | hx) | hx) | hx) | ⟨p, hp, rfl⟩
    · omega
    · omega
    · unfold errP at hx
      split at hx
      · cases hx
      · obtain rfl := List.mem_singleton.1 hx
        rw [ByteArray.size_append]
        show 6 + _ ≤ _
        omega
    · unfold nP at hx
      split at hx
      · obtain rfl := List.mem_singleton.1 hx
        rw [ByteArray.size_append]
        show 2 + _ ≤ _
        omega
      · cases hx
    · unfold atP at hx
      split at hx
      · cases hx
      · obtain rfl := List.mem_singleton.1 hx
        rw [ByteArray.size_append, ByteArray.size_append, ByteArray.size_append]
        show 3 + _ + 1 + _ ≤ _
        omega
    · unfold foundP at hx
      split at hx
      · obtain rfl := List.mem_singleton.1 hx
        rw [ByteArray.size_append]
        show 6 + _ ≤ _
        omega
      · cases hx
    · obtain ⟨h5, h6⟩ := hl.each p hp
      have h7 := quoS_len p.data
      have h8 := quoS_len p.key.data.toList
      have h9 : p.key.data.toList.length = p.key.size := Array.length_toList
      unfold pairP
      rw [ByteArray.size_append, ByteArray.size_append]
      show _ + 1 + _ ≤ _
      omega
theorem lineS_len {k nd : Int} {r : AnsR} (hk : I64 k) (hn : I64 nd) (h : I64 r.err ∧ I64 r.n ∧ I64 r.milli ∧ I64 r.count) (hl : r.light) : (lineS k nd r).size ≤ 200000000 := by
  obtain ⟨h1, h2⟩ := partsOf_len hk hn h hl
  have h3 := join_len ((partsOf k nd r).map (·.data.toList)) [32] 40001 (fun x hx => by
    obtain ⟨y, hy, rfl⟩ := List.mem_map.1 hx
    have := h2 y hy
    have e : y.data.toList.length = y.size := Array.length_toList
    simp only [List.length_cons, List.length_nil, e]
    omega)
  rw [List.length_map] at h3
  have h4 : (lineS k nd r).size = (Lib.join ((partsOf k nd r).map (·.data.toList)) [32]).length := by
    show (List.toArray _).size = _
    rw [List.size_toArray]
  rw [h4]
  have : (partsOf k nd r).length * 40001 ≤ 4006 * 40001 := Nat.mul_le_mul_right _ h1
  omega

/-! ### dec -/
theorem gPow : Tryd.prog.globalNamed "internal/strconv.uint64pow10" = some 1 := by kernel_rfl
def Pow (w : World) : Prop := Lib.TabIs Tryd.prog w "internal/strconv.uint64pow10" .u64 Lib.pow10Tab
theorem Pow.keep {w w' : World} (h : Pow w) (hk : Kp No w w') : Pow w' := by
  unfold Pow Lib.TabIs World.var? at h ⊢
  rw [gPow] at h ⊢
  simp only [Option.bind_some] at h ⊢
  cases hg : w.heap[1]? with
  | none => rw [hg] at h; simp at h
  | some o => rw [hk.get hg fun x => x]; rw [hg] at h; exact h
theorem dec_any (n : Int) (h : I64 n) (w : World) (ht : Pow w) : Calls Tryd.prog 13 #[.int .i64 n] w fun e w' => e = .returned (.string (decS n)) ∧ Kp No w w' := by
  have hit := Tryd.strconv_Itoa (max 0 n) (by have := h.1; omega) (by have := h.2; omega) w ht
  have HI := Lib.hid hit
  clear hit ht
  go_enter Tryd.func13, Tryd.ntmps13
  go_wp2_with fail
  refine HI.out.mono ?_
  rintro e w1 ⟨rfl, k, os, hw⟩
  have hk1 : Kp No w w1 := by
    rw [hw]
    refine ⟨rfl, rfl, rfl, by show w.heap.size ≤ (w.heap ++ os).size; simp, fun j hj _ => ?_⟩
    show (w.heap ++ os)[j]? = _
    exact Array.getElem?_append_left hj
  clear hw
  go_wp2_with fail
  go_ret
  exact ⟨rfl, hk1⟩
end Go.Proofs.YthkbcfenjodbmaaDoor
