/-
  Events that were handed in.
-/
import Derived.Test.YtojlccligmfcaaaGood
import Derived.Test.YtojlccligmfcaaaProg
import Derived.Lib.Hide
namespace Go.Mer
open Go Go.RowKit

def I64 (n : Int) : Prop := -9223372036854775808 ≤ n ∧ n ≤ 9223372036854775807
structure PairR where
  key : ByteArray
  a : Option Addr
  cap : Nat
  data : List UInt8
def PairR.cells (p : PairR) : List Value := [.string p.key, .slice p.a p.data.length p.cap]
structure StepR where
  kind : Int
  node : Int
  n : Int
  m : Int
  by_ : Int
  s1 : Int
  s2 : Int
  key : ByteArray
  to : ByteArray
  va : Option Addr
  vcap : Nat
  val : List UInt8
def StepR.cells (s : StepR) : List Value := [.int .i64 s.kind, .int .i64 s.node, .int .i64 s.n, .int .i64 s.m, .int .u8 s.by_, .int .i64 s.s1, .int .i64 s.s2, .string s.key, .string s.to, .slice s.va s.val.length s.vcap]
structure AnsR where
  err : Int
  an : Int
  t1 : Int
  t2 : Int
  found : Bool
  aa : Option Addr
  acap : Nat
  aval : List UInt8
  pa : Option Addr
  pcap : Nat
  pairs : List PairR
def AnsR.cells (r : AnsR) : List Value := [.int .i64 r.err, .int .i64 r.an, .int .i64 r.t1, .int .i64 r.t2, .bool r.found, .slice r.aa r.aval.length r.acap, .slice r.pa r.pairs.length r.pcap]
structure EvR where
  who : Int
  s : StepR
  r : AnsR
def EvR.cells (x : EvR) : List Value := .int .i64 x.who :: (x.s.cells ++ x.r.cells)
theorem EvR.cells_len (x : EvR) : x.cells.length = 18 := rfl
theorem EvR.cells_one (x : EvR) : ∀ u ∈ x.cells, u.oneCell' = true := by
  intro u hu
  simp only [EvR.cells, StepR.cells, AnsR.cells, List.cons_append, List.nil_append, List.mem_cons, List.not_mem_nil, or_false] at hu
  rcases hu with rfl | rfl | rfl | rfl | rfl | rfl | rfl | rfl | rfl | rfl | rfl | rfl | rfl | rfl | rfl | rfl | rfl | rfl <;> rfl
/-! ### what can be read -/
theorem Rd.kp {w w' : World} {a : Option Addr} {xs : List Value} (h : Rd w w.heap.size a xs) (hk : Kp No w w') : Rd w' w'.heap.size a xs := (h.keep hk fun _ _ x => x).mono hk.size (Nat.le_refl _)
def PairR.At (w : World) (p : PairR) : Prop := Rd w w.heap.size p.a (u8s p.data)
structure StepR.At (w : World) (s : StepR) : Prop where
  ints : I64 s.kind ∧ I64 s.node ∧ I64 s.n ∧ I64 s.m ∧ I64 s.s1 ∧ I64 s.s2
  val : Rd w w.heap.size s.va (u8s s.val)
structure AnsR.At (w : World) (r : AnsR) : Prop where
  ints : I64 r.err ∧ I64 r.an ∧ I64 r.t1 ∧ I64 r.t2
  val : Rd w w.heap.size r.aa (u8s r.aval)
  top : Rd w w.heap.size r.pa (r.pairs.flatMap PairR.cells)
  each : ∀ p ∈ r.pairs, p.At w
structure EvR.At (w : World) (x : EvR) : Prop where
  who : I64 x.who
  s : x.s.At w
  r : x.r.At w
structure EvsAt (w : World) (a : Option Addr) (L : List EvR) : Prop where
  top : Rd w w.heap.size a (L.flatMap EvR.cells)
  each : ∀ x ∈ L, x.At w
section
variable {w w' : World}
theorem PairR.At.keep {p : PairR} (h : p.At w) (hk : Kp No w w') : p.At w' := Rd.kp h hk
theorem StepR.At.keep {s : StepR} (h : s.At w) (hk : Kp No w w') : s.At w' := ⟨h.ints, h.val.kp hk⟩
theorem AnsR.At.keep {r : AnsR} (h : r.At w) (hk : Kp No w w') : r.At w' := ⟨h.ints, h.val.kp hk, h.top.kp hk, fun p hp => (h.each p hp).keep hk⟩
theorem EvR.At.keep {x : EvR} (h : x.At w) (hk : Kp No w w') : x.At w' := ⟨h.who, h.s.keep hk, h.r.keep hk⟩
theorem EvsAt.keep {a : Option Addr} {L : List EvR} (h : EvsAt w a L) (hk : Kp No w w') : EvsAt w' a L := ⟨h.top.kp hk, fun x hx => (h.each x hx).keep hk⟩
end
/-- How long what it holds may be, by the reach. -/
def PairR.Sz (p : PairR) : Prop := p.key.size ≤ 140737488351232 ∧ p.data.length ≤ 140737488351232
structure EvR.Sz (x : EvR) : Prop where
  key : x.s.key.size ≤ 140737488351232
  to : x.s.to.size ≤ 140737488351232
  val : x.s.val.length ≤ 140737488351232
  aval : x.r.aval.length ≤ 140737488351232
  many : x.r.pairs.length ≤ 140737488351232
  pairs : ∀ p ∈ x.r.pairs, p.Sz
/-- What is not heavy. -/
structure EvR.Li (x : EvR) : Prop where
  key : x.s.key.size ≤ 8000
  to : x.s.to.size ≤ 8000
  val : x.s.val.length ≤ 8000
  aval : x.r.aval.length ≤ 8000
  many : x.r.pairs.length ≤ 8000
  pairs : ∀ p ∈ x.r.pairs, p.key.size ≤ 8000 ∧ p.data.length ≤ 8000

/-! ### cells of rows of structs -/
theorem chunk_get {α : Type} (f : α → List Value) (c : Nat) (hf : ∀ x, (f x).length = c) : ∀ (L : List α) {k j : Nat} (h : k < L.length), j < c → (L.flatMap f)[k * c + j]? = (f L[k])[j]?
  | [], k, j, h, _ => by simp at h
  | x :: L, k, j, h, hj => by
    rw [List.flatMap_cons]
    cases k with
    | zero =>
      rw [List.getElem?_append_left (by rw [hf]; omega)]
      simp
    | succ k =>
      rw [List.getElem?_append_right (by rw [hf, Nat.add_mul]; omega), hf, show (k + 1) * c + j - c = k * c + j from by rw [Nat.add_mul]; omega]
      exact chunk_get f c hf L (by simpa using h) hj
theorem rd_chunk {α : Type} {w : World} {a : Option Addr} {f : α → List Value} {c : Nat} (hf : ∀ x, (f x).length = c) (h0 : 0 < c) {L : List α} (h : Rd w w.heap.size a (L.flatMap f)) {k : Nat} (hk : k < L.length) :
    ∃ g off, a = some ⟨g, off, none⟩ ∧ ∀ W, Kp No w W → ∀ j u, (f L[k])[j]? = some u → W.cell? ⟨g, off + k * c + j, none⟩ = some u := by
  have hpos : 0 < (L.flatMap f).length := by
    have h1 := chunk_get f c hf L hk (j := 0) h0
    have h2 : (f L[k])[0]? = some ((f L[k])[0]'(by rw [hf]; exact h0)) := List.getElem?_eq_getElem _
    rw [h2] at h1
    have := (List.getElem?_eq_some_iff.1 h1).1
    omega
  obtain ⟨g, off, ha, hg, _, hc⟩ := h hpos
  refine ⟨g, off, ha, fun W hW j u hu => ?_⟩
  have hj : j < c := by rw [← hf L[k]]; exact (List.getElem?_eq_some_iff.1 hu).1
  rw [hW.cell (p := ⟨g, off + k * c + j, none⟩) hg (fun x => x), Nat.add_assoc]
  exact hc _ u (by rw [chunk_get f c hf L hk hj]; exact hu)
theorem chunk_take {α : Type} (f : α → List Value) (c : Nat) (hf : ∀ x, (f x).length = c) : ∀ (L : List α) (k : Nat), (L.flatMap f).take (k * c) = (L.take k).flatMap f
  | [], k => by simp
  | x :: L, 0 => by simp
  | x :: L, k + 1 => by
    rw [List.flatMap_cons, List.take_succ_cons, List.flatMap_cons, List.take_append, hf, List.take_of_length_le (by rw [hf, Nat.add_mul]; omega), show (k + 1) * c - c = k * c from by rw [Nat.add_mul]; omega, chunk_take f c hf L k]
theorem chunk_drop {α : Type} (f : α → List Value) (c : Nat) (hf : ∀ x, (f x).length = c) : ∀ (L : List α) (k : Nat), (L.flatMap f).drop (k * c) = (L.drop k).flatMap f
  | [], k => by simp
  | x :: L, 0 => by simp
  | x :: L, k + 1 => by
    rw [List.flatMap_cons, List.drop_succ_cons, List.drop_append, hf, List.drop_of_length_le (by rw [hf, Nat.add_mul]; omega), show (k + 1) * c - c = k * c from by rw [Nat.add_mul]; omega, chunk_drop f c hf L k]
    rfl
theorem chunk_len {α : Type} (f : α → List Value) (c : Nat) (hf : ∀ x, (f x).length = c) : ∀ (L : List α), (L.flatMap f).length = L.length * c
  | [] => by simp
  | x :: L => by rw [List.flatMap_cons, List.length_append, hf, chunk_len f c hf L, List.length_cons, Nat.add_mul]; omega
end Go.Mer
namespace Go.Proofs.Ytojlccligmfcaaa
open Go.RowKit Go.Mer

section
variable {W : World}
theorem c_int : Try.prog.cellsOf 3 = 1 := by kernel_rfl
theorem c_err : Try.prog.cellsOf 42 = 1 := by kernel_rfl
theorem c_bool : Try.prog.cellsOf 4 = 1 := by kernel_rfl
theorem c_str : Try.prog.cellsOf 9 = 1 := by kernel_rfl
theorem c_bytes : Try.prog.cellsOf 33 = 1 := by kernel_rfl
theorem c_pairs : Try.prog.cellsOf 43 = 1 := by kernel_rfl
theorem c_stamp : Try.prog.cellsOf 32 = 2 := by kernel_rfl
theorem c_pair : Try.prog.cellsOf 53 = 2 := by kernel_rfl
theorem c_step : Try.prog.cellsOf 41 = 10 := by kernel_rfl
theorem c_ans : Try.prog.cellsOf 45 = 7 := by kernel_rfl
theorem c_event : Try.prog.cellsOf 47 = 18 := by kernel_rfl
theorem b_byte : Try.prog.bytesOf 5 = 1 := by kernel_rfl
theorem c_byte : Try.prog.cellsOf 5 = 1 := by kernel_rfl
theorem b_pair : Try.prog.bytesOf 53 = 40 := by kernel_rfl
theorem good_stamp {n : Nat} {cs : List Value} (h : Opn Try.prog W n 32 cs) : ∃ x y : Int, cs = [.int .i64 x, .int .i64 y] ∧ I64 x ∧ I64 y := by
  obtain ⟨n, rfl, hl, hf⟩ := good_struct h Try.underlying32
  rw [c_stamp] at hl
  match cs, hl with
  | [a0, a1], _ =>
    obtain ⟨x, e0, h0⟩ := good_i64 (good_at hf 0 _ rfl c_int) Try.underlying3
    obtain ⟨y, e1, h1⟩ := good_i64 (good_at hf 1 _ rfl c_int) Try.underlying3
    have e0' : [a0] = [.int .i64 x] := e0
    have e1' : [a1] = [.int .i64 y] := e1
    injection e0' with e0'
    injection e1' with e1'
    subst e0'; subst e1'
    exact ⟨x, y, rfl, h0, h1⟩
def StepOk (W : World) (s : StepR) : Prop := s.At W ∧ s.key.size ≤ 140737488351232 ∧ s.to.size ≤ 140737488351232 ∧ s.val.length ≤ 140737488351232
theorem good_step {n : Nat} {cs : List Value} (h : Opn Try.prog W n 41 cs) : ∃ s : StepR, cs = s.cells ∧ StepOk W s := by
  obtain ⟨n, rfl, hl, hf⟩ := good_struct h Try.underlying41
  rw [c_step] at hl
  match cs, hl with
  | [a0, a1, a2, a3, a4, a5, a6, a7, a8, a9], _ =>
    obtain ⟨x0, e0, h0⟩ := good_i64 (good_at hf 0 _ rfl c_int) Try.underlying3
    obtain ⟨x1, e1, h1⟩ := good_i64 (good_at hf 1 _ rfl c_int) Try.underlying3
    obtain ⟨x2, e2, h2⟩ := good_i64 (good_at hf 2 _ rfl c_int) Try.underlying3
    obtain ⟨x3, e3, h3⟩ := good_i64 (good_at hf 3 _ rfl c_int) Try.underlying3
    obtain ⟨x4, e4, _⟩ := good_int (good_at hf 4 _ rfl c_byte) Try.underlying5
    obtain ⟨x5, x6, e5, h5, h6⟩ := good_stamp (good_at hf 5 _ rfl c_stamp)
    obtain ⟨x7, e7, h7⟩ := good_string (good_at hf 6 _ rfl c_str) Try.underlying9
    obtain ⟨x8, e8, h8⟩ := good_string (good_at hf 7 _ rfl c_str) Try.underlying9
    obtain ⟨a, cap, l, e9, h9, h9a, h9b⟩ := good_bytes (good_at hf 8 _ rfl c_bytes) Try.underlying33 Try.underlying5 c_byte b_byte
    have f0 : [a0] = [.int .i64 x0] := e0
    have f1 : [a1] = [.int .i64 x1] := e1
    have f2 : [a2] = [.int .i64 x2] := e2
    have f3 : [a3] = [.int .i64 x3] := e3
    have f4 : [a4] = [.int .u8 x4] := e4
    have f5 : [a5, a6] = [.int .i64 x5, .int .i64 x6] := e5
    have f7 : [a7] = [.string x7] := e7
    have f8 : [a8] = [.string x8] := e8
    have f9 : [a9] = [.slice a l.length cap] := e9
    injection f0 with f0
    injection f1 with f1
    injection f2 with f2
    injection f3 with f3
    injection f4 with f4
    injection f5 with f5 f6
    injection f6 with f6
    injection f7 with f7
    injection f8 with f8
    injection f9 with f9
    subst f0; subst f1; subst f2; subst f3; subst f4; subst f5; subst f6; subst f7; subst f8; subst f9
    exact ⟨⟨x0, x1, x2, x3, x4, x5, x6, x7, x8, a, cap, l⟩, rfl, ⟨⟨h0, h1, h2, h3, h5, h6⟩, h9⟩, h7, h8, (by show l.length ≤ _; omega)⟩
def PairOk (W : World) (p : PairR) : Prop := p.At W ∧ p.Sz
theorem good_pair {n : Nat} {cs : List Value} (h : Opn Try.prog W n 53 cs) : ∃ p : PairR, cs = p.cells ∧ PairOk W p := by
  obtain ⟨n, rfl, hl, hf⟩ := good_struct h Try.underlying53
  rw [c_pair] at hl
  match cs, hl with
  | [a0, a1], _ =>
    obtain ⟨x, e0, h0⟩ := good_string (good_at hf 0 _ rfl c_str) Try.underlying9
    obtain ⟨a, cap, l, e1, h1, h2, h3⟩ := good_bytes (good_at hf 1 _ rfl c_bytes) Try.underlying33 Try.underlying5 c_byte b_byte
    have e0' : [a0] = [.string x] := e0
    have e1' : [a1] = [.slice a l.length cap] := e1
    injection e0' with e0'
    injection e1' with e1'
    subst e0'; subst e1'
    exact ⟨⟨x, a, cap, l⟩, rfl, h1, h0, (by show l.length ≤ _; omega)⟩
def AnsOk (W : World) (r : AnsR) : Prop := r.At W ∧ r.aval.length ≤ 140737488351232 ∧ r.pairs.length ≤ 140737488351232 ∧ ∀ p ∈ r.pairs, p.Sz
theorem good_ans {n : Nat} {cs : List Value} (h : Opn Try.prog W n 45 cs) : ∃ r : AnsR, cs = r.cells ∧ AnsOk W r := by
  obtain ⟨n, rfl, hl, hf⟩ := good_struct h Try.underlying45
  rw [c_ans] at hl
  match cs, hl with
  | [a0, a1, a2, a3, a4, a5, a6], _ =>
    obtain ⟨x0, e0, h0⟩ := good_i64 (good_at hf 0 _ rfl c_err) Try.underlying42
    obtain ⟨x1, e1, h1⟩ := good_i64 (good_at hf 1 _ rfl c_int) Try.underlying3
    obtain ⟨x2, x3, e2, h2, h3⟩ := good_stamp (good_at hf 2 _ rfl c_stamp)
    obtain ⟨x4, e4⟩ := good_bool (good_at hf 3 _ rfl c_bool) Try.underlying4
    obtain ⟨a, cap, l, e5, h5, h5a, h5b⟩ := good_bytes (good_at hf 4 _ rfl c_bytes) Try.underlying33 Try.underlying5 c_byte b_byte
    have h6 := good_at hf 5 _ rfl c_pairs
    obtain ⟨n', pa, plen, pcap, rfl, e6⟩ := good_slice h6 Try.underlying43
    rw [e6] at h6
    obtain ⟨L, rfl, hL, hq, h7, h8⟩ := open_list h6 Try.underlying43 c_pair (by decide) PairR.cells (PairOk W) (fun _ => rfl) (fun cs hg => good_pair hg)
    rw [b_pair] at h8
    have e0' : [a0] = [.int .i64 x0] := e0
    have e1' : [a1] = [.int .i64 x1] := e1
    have e2' : [a2, a3] = [.int .i64 x2, .int .i64 x3] := e2
    have e4' : [a4] = [.bool x4] := e4
    have e5' : [a5] = [.slice a l.length cap] := e5
    have e6' : [a6] = [.slice pa L.length pcap] := e6
    injection e0' with e0'
    injection e1' with e1'
    injection e2' with e2' e3'
    injection e3' with e3'
    injection e4' with e4'
    injection e5' with e5'
    injection e6' with e6'
    subst e0'; subst e1'; subst e2'; subst e3'; subst e4'; subst e5'; subst e6'
    exact ⟨⟨x0, x1, x2, x3, x4, a, cap, l, pa, pcap, L⟩, rfl, ⟨⟨h0, h1, h2, h3⟩, h5, hL, fun p hp => (hq p hp).1⟩, (by show l.length ≤ _; omega), (by show L.length ≤ _; omega), fun p hp => (hq p hp).2⟩
def EvOk (W : World) (x : EvR) : Prop := x.At W ∧ x.Sz
theorem good_event {n : Nat} {cs : List Value} (h : Opn Try.prog W n 47 cs) : ∃ x : EvR, cs = x.cells ∧ EvOk W x := by
  obtain ⟨n, rfl, hl, hf⟩ := good_struct h Try.underlying47
  rw [c_event] at hl
  match cs, hl with
  | [a0, a1, a2, a3, a4, a5, a6, a7, a8, a9, a10, a11, a12, a13, a14, a15, a16, a17], _ =>
    obtain ⟨x0, e0, h0⟩ := good_i64 (good_at hf 0 _ rfl c_int) Try.underlying3
    obtain ⟨s, e1, h1, h2, h3, h4⟩ := good_step (good_at hf 1 _ rfl c_step)
    obtain ⟨r, e2, k1, k2, k3, k4⟩ := good_ans (good_at hf 2 _ rfl c_ans)
    have f0 : [a0] = [.int .i64 x0] := e0
    have f1 : [a1, a2, a3, a4, a5, a6, a7, a8, a9, a10] = s.cells := e1
    have f2 : [a11, a12, a13, a14, a15, a16, a17] = r.cells := e2
    injection f0 with f0
    refine ⟨⟨x0, s, r⟩, ?_, ⟨h0, h1, k1⟩, ⟨h2, h3, h4, k2, k3, k4⟩⟩
    rw [EvR.cells, ← f1, ← f2, f0]
    rfl
theorem open_events {n : Nat} {a : Option Addr} {len cap : Nat} (h : Opn Try.prog W n 22 [.slice a len cap]) :
    ∃ L : List EvR, L.length = len ∧ EvsAt W a L ∧ (∀ x ∈ L, x.Sz) ∧ len ≤ cap ∧ cap ≤ 140737488351232 := by
  obtain ⟨n', _, _, _, rfl, _⟩ := good_slice h Try.underlying22
  obtain ⟨L, h1, h2, h3, h4, h5⟩ := open_list h Try.underlying22 c_event (by decide) EvR.cells (EvOk W) EvR.cells_len (fun cs hg => good_event hg)
  have hb : Try.prog.bytesOf 47 = 208 := by kernel_rfl
  rw [hb] at h5
  exact ⟨L, h1, ⟨h2, fun x hx => (h3 x hx).1⟩, fun x hx => (h3 x hx).2, h4, by omega⟩
end
end Go.Proofs.Ytojlccligmfcaaa
