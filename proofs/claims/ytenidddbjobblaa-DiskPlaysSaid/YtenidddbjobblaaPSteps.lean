/-
  Scripts of the disk: what was handed in; whether it is heavy.
-/
import Derived.Test.YtenidddbjobblaaGood
import Derived.Test.YtenidddbjobblaaChunk
import Derived.Test.YtenidddbjobblaaRegion
import Derived.Test.YtenidddbjobblaaProg
import Derived.WalkKit
import Derived.WalkSpells
import Derived.WalkLawsBesides
import Derived.Deep.CutRange
import Derived.Outline
namespace Go.Mer
open Go Go.RowKit
structure StR where
  kind : Int
  n : Int
  a : ByteArray
  to_ : ByteArray
  ba : Option Addr
  bcap : Nat
  b : List UInt8
  tear : UInt8
def StR.cells (x : StR) : List Value := [.int .i64 x.kind, .int .i64 x.n, .string x.a, .string x.to_, .slice x.ba x.b.length x.bcap, .int .u8 (x.tear.toNat : Int)]
theorem StR.cells_len (x : StR) : x.cells.length = 6 := rfl
def I64 (n : Int) : Prop := -9223372036854775808 ≤ n ∧ n ≤ 9223372036854775807
structure StR.At (W : World) (x : StR) : Prop where
  n : I64 x.n
  b : Rd W W.heap.size x.ba (u8s x.b)
  za : x.a.size ≤ 140737488351232
  zt : x.to_.size ≤ 140737488351232
  zb : x.b.length ≤ 140737488351232
theorem StR.At.kp {W W' : World} {x : StR} (h : x.At W) (hk : Kp No W W') : x.At W' := ⟨h.n, h.b.kp hk, h.za, h.zt, h.zb⟩
def StR.Li (x : StR) : Prop := x.a.size + x.to_.size + x.b.length ≤ 8000
structure StsAt (W : World) (a : Option Addr) (L : List StR) : Prop where
  top : Rd W W.heap.size a (L.flatMap StR.cells)
  each : ∀ x ∈ L, x.At W
end Go.Mer
namespace Go.Proofs.Ytenidddbjobblaa
open Go.RowKit Go.Mer

section
variable {W : World}
theorem c_int : Try.prog.cellsOf 3 = 1 := by kernel_rfl
theorem c_str : Try.prog.cellsOf 9 = 1 := by kernel_rfl
theorem c_bytes : Try.prog.cellsOf 23 = 1 := by kernel_rfl
theorem c_byte : Try.prog.cellsOf 5 = 1 := by kernel_rfl
theorem b_byte : Try.prog.bytesOf 5 = 1 := by kernel_rfl
theorem c_stp : Try.prog.cellsOf 50 = 6 := by kernel_rfl
set_option maxRecDepth 100000 in
theorem good_stp {n : Nat} {cs : List Value} (h : Opn Try.prog W n 50 cs) : ∃ x : StR, cs = x.cells ∧ x.At W := by
  obtain ⟨n, rfl, hl, hf⟩ := good_struct h Try.underlying50
  rw [c_stp] at hl
  match cs, hl with
  | [a0, a1, a2, a3, a4, a5], _ =>
    obtain ⟨x0, e0, h0⟩ := good_i64 (good_at hf 0 _ rfl c_int) Try.underlying3
    obtain ⟨x1, e1, h1⟩ := good_i64 (good_at hf 1 _ rfl c_int) Try.underlying3
    obtain ⟨x2, e2, h2⟩ := good_string (good_at hf 2 _ rfl c_str) Try.underlying9
    obtain ⟨x3, e3, h3⟩ := good_string (good_at hf 3 _ rfl c_str) Try.underlying9
    obtain ⟨a, cap, l, e4, h4, h4a, h4b⟩ := good_bytes (good_at hf 4 _ rfl c_bytes) Try.underlying23 Try.underlying5 c_byte b_byte
    obtain ⟨x5, e5, h5⟩ := good_int (good_at hf 5 _ rfl c_byte) Try.underlying5
    have f0 : [a0] = [.int .i64 x0] := e0
    have f1 : [a1] = [.int .i64 x1] := e1
    have f2 : [a2] = [.string x2] := e2
    have f3 : [a3] = [.string x3] := e3
    have f4 : [a4] = [.slice a l.length cap] := e4
    have f5 : [a5] = [.int .u8 x5] := e5
    injection f0 with f0
    injection f1 with f1
    injection f2 with f2
    injection f3 with f3
    injection f4 with f4
    injection f5 with f5
    subst f0; subst f1; subst f2; subst f3; subst f4; subst f5
    have h6 : u8 (toB x5) = .int .u8 x5 := u8_toB h5
    refine ⟨⟨x0, x1, x2, x3, a, cap, l, toB x5⟩, ?_, ⟨h1, h4, h2, h3, (by show l.length ≤ _; omega)⟩⟩
    show _ = [_, _, _, _, _, u8 (toB x5)]
    rw [h6]
set_option maxRecDepth 100000 in
theorem open_stps {n : Nat} {a : Option Addr} {len cap : Nat} (h : Opn Try.prog W n 44 [.slice a len cap]) :
    ∃ L : List StR, L.length = len ∧ StsAt W a L ∧ len ≤ cap ∧ cap ≤ 140737488351232 := by
  obtain ⟨n', _, _, _, rfl, _⟩ := good_slice h Try.underlying44
  obtain ⟨L, h1, h2, h3, h4, h5⟩ := open_list h Try.underlying44 c_stp (by decide) StR.cells (fun x => x.At W) StR.cells_len (fun cs hg => good_stp hg)
  have hb : Try.prog.bytesOf 50 = 80 := by kernel_rfl
  rw [hb] at h5
  exact ⟨L, h1, ⟨h2, h3⟩, h4, by omega⟩
end
def HvyP (w : World) (L : List StR) (e : Ending) (w' : World) : Prop := ∃ b : Bool, e = .returned (.bool b) ∧ (b = false → ∀ x ∈ L.take 120, x.Li) ∧ Kp No w w'
set_option maxRecDepth 100000 in
set_option maxHeartbeats 2000000 in
theorem hvy_any (w : World) (a : Option Addr) (cap : Nat) (L : List StR) (h : StsAt w a L) (hl : L.length ≤ 140737488351232) :
    Calls Try.prog 22 #[.slice a L.length cap] w (HvyP w L) := by
  have HA := Lib.hid h
  clear h
  go_enter Try.func22, Try.ntmps22
  go_wp2_with fail
  rename World => w0
  go_loopw [3, 4] (fun s i wr => ∃ k N : Nat, k ≤ L.length ∧ k ≤ 120 ∧ N ≤ 8000 ∧ i = .int .i64 (k : Int) ∧ s = .int .i64 (N : Int) ∧ Hid (∀ x ∈ L.take k, x.Li) ∧ Hid (Kp No w0 wr)) (fun _ i _ => L.length - (intOf i).toNat)
  case atStart => exact ⟨0, 0, Nat.zero_le _, by omega, by omega, rfl, rfl, Lib.hid (by simp), Lib.hid (Kp.refl _ _)⟩
  case round =>
    obtain ⟨k, N, hk, hk120, hN, rfl, rfl, HLI, HKP⟩ := hrel
    by_cases hlt : k < L.length
    · by_cases h120 : k < 120
      · obtain ⟨g, off, rfl, l0⟩ := rd_chunk (f := StR.cells) (c := 6) StR.cells_len (by decide) HA.out.top hlt
        have HE := Lib.hid (List.take_succ_eq_append_getElem hlt)
        have hat := HA.out.each _ (List.getElem_mem hlt)
        obtain ⟨x, hx⟩ : ∃ x, x = L[k] := ⟨_, rfl⟩
        rw [← hx] at l0 hat HE
        obtain ⟨kind, n, a, to_, ba, bcap, b, tear⟩ := x
        obtain ⟨_, _, z1, z2, z3⟩ := hat
        simp only at z1 z2 z3
        have t2 := l0 wr HKP.out 2 _ rfl
        have t3 := l0 wr HKP.out 3 _ rfl
        have t4 := l0 wr HKP.out 4 _ rfl
        have gl : g < wr.heap.size := World.block_lt_of_cell? wr _ t2
        obtain ⟨M, hM⟩ : ∃ M, M = N + a.size + to_.size + b.length := ⟨_, rfl⟩
        have hM' : (N : Int) + a.size + to_.size + b.length = (M : Int) := by rw [hM]; push_cast; rfl
        have HM := Lib.hid hM
        have hMb : M ≤ 422212465061696 := by omega
        clear hx l0 hM
        go_upto_region 5 with fail
        refine wp_region_ord [0,0,0,0,0,1,1,0,0,0,0,0,1,1,0,0,0,0,0,1,1,0,0] [0,1,2,3,4,8,9,10,11,15,16,17,18,5,6,7,12,13,14,19,20,21,22] (by kernel_rfl) (by kernel_rfl) ?_
        repeat (first
          | (apply wpOrd_skip rfl (by decide) rfl; (focus (go_simp; rfl)))
          | (apply wpOrd_pure rfl rfl rfl; (focus (intro _ _; go_simp; (try go_ints); rfl)); (focus (go_simp; rfl)))
          | (apply wpOrd_read rfl rfl rfl; (focus (intro _; go_simp; (try go_ints); rfl)); (focus (go_simp; rfl))))
        refine wpOrd_nil (fun nq => ?_)
        (try rw [hM'])
        have HKP2 := Lib.hid (HKP.out.drewN nq)
        clear hM' t2 t3 t4
        rcases Nat.lt_or_ge 8000 M with hh | hh
        · go_wp2_with fail
          go_ret
          exact ⟨true, rfl, (fun h => by cases h), HKP2.out⟩
        · have HLI2 : Hid (∀ x ∈ L.take (k + 1), x.Li) := Lib.hid fun x hx => by
            rw [HE.out, List.mem_append, List.mem_singleton] at hx
            rcases hx with hx | rfl
            · exact HLI.out x hx
            · show a.size + to_.size + b.length ≤ 8000
              have := HM.out
              omega
          go_wp2_with fail
          go_roundw
          case rel => exact ⟨k + 1, M, by omega, by omega, by omega, by go_num, rfl, HLI2, HKP2⟩
          case measure => simp [intOf]; omega
      · obtain rfl : k = 120 := by omega
        clear h120
        go_wp2_with fail
        go_ret
        exact ⟨false, rfl, (fun _ => HLI.out), HKP.out⟩
    · obtain rfl : k = L.length := by omega
      clear hlt
      go_wp2_with fail
      go_ret
      exact ⟨false, rfl, (fun _ x hx => HLI.out x (by rw [List.take_length]; exact List.mem_of_mem_take hx)), HKP.out⟩
end Go.Proofs.Ytenidddbjobblaa
