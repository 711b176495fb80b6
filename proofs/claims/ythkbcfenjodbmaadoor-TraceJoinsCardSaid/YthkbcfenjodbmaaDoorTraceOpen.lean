/-
  Steps and answers that were handed in, opened; the law TraceJoins for any of them.
-/
import Derived.Test.YthkbcfenjodbmaaDoorGood
import Derived.Test.YthkbcfenjodbmaaDoorTraceLaw2
namespace Go.Proofs.YthkbcfenjodbmaaDoor
open Go.RowKit Go.Mer

section
variable {W : World}
theorem c_int : Tryd.prog.cellsOf 3 = 1 := by kernel_rfl
theorem c_err : Tryd.prog.cellsOf 29 = 1 := by kernel_rfl
theorem c_bool : Tryd.prog.cellsOf 4 = 1 := by kernel_rfl
theorem c_str : Tryd.prog.cellsOf 9 = 1 := by kernel_rfl
theorem c_bytes : Tryd.prog.cellsOf 22 = 1 := by kernel_rfl
theorem c_pairs : Tryd.prog.cellsOf 32 = 1 := by kernel_rfl
theorem c_stamp : Tryd.prog.cellsOf 31 = 2 := by kernel_rfl
theorem c_pair : Tryd.prog.cellsOf 42 = 2 := by kernel_rfl
theorem c_step : Tryd.prog.cellsOf 40 = 10 := by kernel_rfl
theorem c_ans : Tryd.prog.cellsOf 34 = 7 := by kernel_rfl
theorem b_byte : Tryd.prog.bytesOf 5 = 1 := by kernel_rfl
theorem c_byte : Tryd.prog.cellsOf 5 = 1 := by kernel_rfl
theorem b_pair : Tryd.prog.bytesOf 42 = 40 := by kernel_rfl
theorem good_step {n : Nat} {cs : List Value} (h : Opn Tryd.prog W n 40 cs) : ∃ s : StepR, cs = s.cells ∧ I64 s.kind ∧ I64 s.node := by
  obtain ⟨n, rfl, hl, hf⟩ := good_struct h Tryd.underlying40
  rw [c_step] at hl
  match cs, hl with
  | [a0, a1, a2, a3, a4, a5, a6, a7, a8, a9], _ =>
    obtain ⟨x, e0, h0⟩ := good_i64 (good_at hf 0 _ rfl c_int) Tryd.underlying3
    obtain ⟨y, e1, h1⟩ := good_i64 (good_at hf 1 _ rfl c_int) Tryd.underlying3
    have e0' : [a0] = [.int .i64 x] := e0
    have e1' : [a1] = [.int .i64 y] := e1
    injection e0' with e0'
    injection e1' with e1'
    subst e0'; subst e1'
    exact ⟨⟨x, y, a2, a3, a4, a5, a6, a7, a8, a9⟩, rfl, h0, h1⟩
theorem good_stamp {n : Nat} {cs : List Value} (h : Opn Tryd.prog W n 31 cs) : ∃ x y : Int, cs = [.int .i64 x, .int .i64 y] ∧ I64 x ∧ I64 y := by
  obtain ⟨n, rfl, hl, hf⟩ := good_struct h Tryd.underlying31
  rw [c_stamp] at hl
  match cs, hl with
  | [a0, a1], _ =>
    obtain ⟨x, e0, h0⟩ := good_i64 (good_at hf 0 _ rfl c_int) Tryd.underlying3
    obtain ⟨y, e1, h1⟩ := good_i64 (good_at hf 1 _ rfl c_int) Tryd.underlying3
    have e0' : [a0] = [.int .i64 x] := e0
    have e1' : [a1] = [.int .i64 y] := e1
    injection e0' with e0'
    injection e1' with e1'
    subst e0'; subst e1'
    exact ⟨x, y, rfl, h0, h1⟩
def PairOk (W : World) (p : PairR) : Prop := Rd W W.heap.size p.a (u8s p.data) ∧ p.key.size ≤ 9223372036854775807 ∧ p.data.length ≤ 140737488355328
theorem good_pair {n : Nat} {cs : List Value} (h : Opn Tryd.prog W n 42 cs) : ∃ p : PairR, cs = p.cells ∧ PairOk W p := by
  obtain ⟨n, rfl, hl, hf⟩ := good_struct h Tryd.underlying42
  rw [c_pair] at hl
  match cs, hl with
  | [a0, a1], _ =>
    obtain ⟨x, e0, h0⟩ := good_string (good_at hf 0 _ rfl c_str) Tryd.underlying9
    obtain ⟨a, cap, l, e1, h1, h2, h3⟩ := good_bytes (good_at hf 1 _ rfl c_bytes) Tryd.underlying22 Tryd.underlying5 c_byte b_byte
    have e0' : [a0] = [.string x] := e0
    have e1' : [a1] = [.slice a l.length cap] := e1
    injection e0' with e0'
    injection e1' with e1'
    subst e0'; subst e1'
    exact ⟨⟨x, a, cap, l⟩, rfl, h1, (by show x.size ≤ _; omega), (by show l.length ≤ _; omega)⟩
def AnsOk (W : World) (r : AnsR) : Prop := r.At W ∧ r.data.length ≤ 140737488355328 ∧ r.pairs.length ≤ 140737488355328 ∧ ∀ p ∈ r.pairs, p.key.size ≤ 9223372036854775807 ∧ p.data.length ≤ 140737488355328
theorem good_ans {n : Nat} {cs : List Value} (h : Opn Tryd.prog W n 34 cs) : ∃ r : AnsR, cs = r.cells ∧ AnsOk W r := by
  obtain ⟨n, rfl, hl, hf⟩ := good_struct h Tryd.underlying34
  rw [c_ans] at hl
  match cs, hl with
  | [a0, a1, a2, a3, a4, a5, a6], _ =>
    obtain ⟨x0, e0, h0⟩ := good_i64 (good_at hf 0 _ rfl c_err) Tryd.underlying29
    obtain ⟨x1, e1, h1⟩ := good_i64 (good_at hf 1 _ rfl c_int) Tryd.underlying3
    obtain ⟨x2, x3, e2, h2, h3⟩ := good_stamp (good_at hf 2 _ rfl c_stamp)
    obtain ⟨x4, e4⟩ := good_bool (good_at hf 3 _ rfl c_bool) Tryd.underlying4
    obtain ⟨a, cap, l, e5, h5, h5a, h5b⟩ := good_bytes (good_at hf 4 _ rfl c_bytes) Tryd.underlying22 Tryd.underlying5 c_byte b_byte
    have h6 := good_at hf 5 _ rfl c_pairs
    obtain ⟨n', pa, plen, pcap, rfl, e6⟩ := good_slice h6 Tryd.underlying32
    rw [e6] at h6
    obtain ⟨L, rfl, hL, hq, h7, h8⟩ := open_list h6 Tryd.underlying32 c_pair (by decide) PairR.cells (PairOk W) (fun _ => rfl) (fun cs hg => good_pair hg)
    rw [b_pair] at h8
    have e0' : [a0] = [.int .i64 x0] := e0
    have e1' : [a1] = [.int .i64 x1] := e1
    have e2' : [a2, a3] = [.int .i64 x2, .int .i64 x3] := e2
    have e4' : [a4] = [.bool x4] := e4
    have e5' : [a5] = [.slice a l.length cap] := e5
    have e6' : [a6] = [.slice pa L.length pcap] := e6
    injection e0' with e0'
    injection e1' with e1'
    injection e2' with e2' e3'
    injection e3' with e3'
    injection e4' with e4'
    injection e5' with e5'
    injection e6' with e6'
    subst e0'; subst e1'; subst e2'; subst e3'; subst e4'; subst e5'; subst e6'
    exact ⟨⟨x0, x1, x2, x3, x4, a, cap, l, pa, pcap, L⟩, rfl, ⟨⟨h0, h1, h2, h3⟩, h5, hL, fun p hp => (hq p hp).1⟩, (by show l.length ≤ _; omega), (by show L.length ≤ _; omega), fun p hp => (hq p hp).2⟩
theorem open_joins {n m : Nat} {sa aa : Option Addr} {sl sc al ac : Nat} (hs : Opn Tryd.prog W n 26 [.slice sa sl sc]) (ha : Opn Tryd.prog W m 27 [.slice aa al ac]) :
    ∃ (S : List StepR) (A : List AnsR), S.length = sl ∧ A.length = al ∧ Args0 W sa S aa A ∧ sl ≤ sc ∧ al ≤ ac ∧ sl ≤ 140737488351232 ∧ al ≤ 140737488351232 := by
  obtain ⟨n', _, _, _, rfl, _⟩ := good_slice hs Tryd.underlying26
  obtain ⟨m', _, _, _, rfl, _⟩ := good_slice ha Tryd.underlying27
  obtain ⟨S, h1, h2, h3, h4, h5⟩ := open_list hs Tryd.underlying26 c_step (by decide) StepR.cells (fun s => I64 s.kind ∧ I64 s.node) (fun _ => rfl) (fun cs hg => good_step hg)
  obtain ⟨A, k1, k2, k3, k4, k5⟩ := open_list ha Tryd.underlying27 c_ans (by decide) AnsR.cells (AnsOk W) (fun _ => rfl) (fun cs hg => good_ans hg)
  have b1 : Tryd.prog.bytesOf 40 = 112 := by kernel_rfl
  have b2 : Tryd.prog.bytesOf 34 = 88 := by kernel_rfl
  rw [b1] at h5
  rw [b2] at k5
  exact ⟨S, A, h1, k1, ⟨h2, k2, h3, fun r hr => (k3 r hr).1, fun r hr => (k3 r hr).2⟩, h4, k4, by omega, by omega⟩
end
set_option maxRecDepth 100000 in
set_option maxHeartbeats 1000000 in
theorem Joins_any (w : World) (sa : Option Addr) (sc : Nat) (S : List StepR) (aa : Option Addr) (ac : Nat) (A : List AnsR) (cut : Int) (h : Args0 w sa S aa A) (hsc : S.length ≤ sc) (hac : A.length ≤ ac) (hSl : S.length ≤ 140737488351232) (ht : Pow w) :
    Calls Tryd.prog 4 #[.slice sa S.length sc, .slice aa A.length ac, .int .i64 cut] w fun e w' => e = .returned (.bool true) ∧ Kp No w w' := by
  by_cases hS : S.length ≤ 40
  · by_cases hSA : A.length = S.length
    · rw [hSA]
      exact joins_in w sa sc S aa ac A cut h hsc hac ht hS hSA
    · have hne : (((A.length : Nat) : Int) != ((S.length : Nat) : Int)) = true := by
        rw [bne_iff_ne]
        omega
      have heq : (((A.length : Nat) : Int) == ((S.length : Nat) : Int)) = false := by
        rw [beq_eq_false_iff_ne]
        omega
      clear h ht
      go_enter Tryd.func4, Tryd.ntmps4
      go_wp2_with fail
      go_ret
      exact ⟨rfl, Kp.refl _ _⟩
  · have hlt : 40 < S.length := by omega
    clear h ht
    go_enter Tryd.func4, Tryd.ntmps4
    go_wp2_with fail
    go_ret
    exact ⟨rfl, Kp.refl _ _⟩
end Go.Proofs.YthkbcfenjodbmaaDoor
