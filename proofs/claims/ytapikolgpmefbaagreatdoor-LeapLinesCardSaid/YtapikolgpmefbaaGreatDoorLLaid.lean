/-
  A table that was handed in, opened; the listed variables of the cards.
-/
import Derived.Test.YtapikolgpmefbaaGreatDoorRows
import Derived.Test.YtapikolgpmefbaaGreatDoorArgs
import Derived.Test.YtapikolgpmefbaaGreatDoorGood
import Derived.Test.YtapikolgpmefbaaGreatDoorLTab
import Derived.Lib.SmallJoins
import Derived.Stop.LaidErr
import Derived.LaidMore
import Derived.OpenShut
import Derived.Stop.Joined
import Derived.Lay
namespace Go.Proofs.YtapikolgpmefbaaGreatDoor
open Go.ChangeShapes Go.WideShapes Go.ChangeAt Go.RowKit Go.Mer

theorem Tryz.own : ownKnob Tryz.prog.godebug = none := by kernel_rfl
theorem Tryz.laidOut : laidOutB Tryz.prog = true := by kernel_rfl
def Lit64 (x : Int) : Prop := -9223372036854775808 ≤ x ∧ x ≤ 9223372036854775807
def lpV (x : Int × Int) : List Value := [.int .i64 x.1, .int .i64 x.2]
theorem tbV_flat (L : List (Int × Int)) : L.flatMap lpV = tbV L := by
  induction L with
  | nil => rfl
  | cons x r ih => rw [List.flatMap_cons, ih]; rfl
section
variable {H : Type} {enc : TypeId × Value → H} {W : World} {ts : List TypeId} {ds : List (DataW H)}
theorem l_int : Tryz.prog.cellsOf 3 = 1 := by kernel_rfl
theorem l_leap : Tryz.prog.cellsOf 38 = 2 := by kernel_rfl
theorem l_sl : Tryz.prog.cellsOf 22 = 1 := by kernel_rfl
theorem l_table : Tryz.prog.cellsOf 24 = 2 := by kernel_rfl
theorem l_leapb : Tryz.prog.bytesOf 38 = 16 := by kernel_rfl
set_option maxRecDepth 100000 in
theorem good_leap {n : Nat} {cs : List Value} (h : Opn Tryz.prog W n 38 cs) : ∃ x : Int × Int, cs = lpV x ∧ Lit64 x.1 ∧ Lit64 x.2 := by
  obtain ⟨n, rfl, hl, hf⟩ := good_struct h Tryz.underlying38
  rw [l_leap] at hl
  match cs, hl with
  | [a0, a1], _ =>
    obtain ⟨x, e0, h0⟩ := good_i64 (good_at hf 0 _ rfl l_int) Tryz.underlying3
    obtain ⟨y, e1, h1⟩ := good_i64 (good_at hf 1 _ rfl l_int) Tryz.underlying3
    have e0' : [a0] = [.int .i64 x] := e0
    have e1' : [a1] = [.int .i64 y] := e1
    injection e0' with e0'
    injection e1' with e1'
    subst e0'; subst e1'
    exact ⟨(x, y), rfl, h0, h1⟩
set_option maxRecDepth 100000 in
theorem good_table {n : Nat} {cs : List Value} (h : Opn Tryz.prog W n 24 cs) : ∃ (a : Option Addr) (cap : Nat) (L : List (Int × Int)) (e : Int), cs = [.slice a L.length cap, .int .i64 e] ∧ Lit64 e ∧ Rd W W.heap.size a (tbV L) ∧ (∀ x ∈ L, Lit64 x.1 ∧ Lit64 x.2) ∧ L.length ≤ cap ∧ cap ≤ 10000000000000 := by
  obtain ⟨n, rfl, hl, hf⟩ := good_struct h Tryz.underlying24
  rw [l_table] at hl
  match cs, hl with
  | [a0, a1], _ =>
    have h0 := good_at hf 0 _ rfl l_sl
    obtain ⟨n', pa, plen, pcap, rfl, e0⟩ := good_slice h0 Tryz.underlying22
    rw [e0] at h0
    obtain ⟨L, rfl, hL, hq, h7, h8⟩ := open_list h0 Tryz.underlying22 l_leap (by decide) lpV (fun x => Lit64 x.1 ∧ Lit64 x.2) (fun _ => rfl) (fun cs hg => good_leap hg)
    rw [l_leapb] at h8
    obtain ⟨y, e1, h1⟩ := good_i64 (good_at hf 1 _ rfl l_int) Tryz.underlying3
    have e0' : [a0] = [.slice pa L.length pcap] := e0
    have e1' : [a1] = [.int .i64 y] := e1
    injection e0' with e0'
    injection e1' with e1'
    subst e0'; subst e1'
    rw [tbV_flat] at hL
    exact ⟨pa, pcap, L, y, rfl, h1, hL, hq, h7, by omega⟩
set_option maxRecDepth 100000 in
theorem open_table {r : Reach} {b0 : Nat} (hsz : (DataW.weightsEach Tryz.prog ts ds).all (· ≤ reachBytes) = true) {j : Nat} {d : DataW H} (hj : ts[j]? = some 24) (hd : ds[j]? = some d) {v : Value} {p : List MemPlace} (hv : Value.okWide Tryz.prog W r b0 24 v)
    (h : DataW.Trod enc Tryz.prog W 0 (fun _ => true) true 24 v d p) : ∃ (a : Option Addr) (cap : Nat) (L : List (Int × Int)) (e : Int), v = .agg #[.slice a L.length cap, .int .i64 e] ∧ Lit64 e ∧ Rd W W.heap.size a (tbV L) ∧ (∀ x ∈ L, Lit64 x.1 ∧ Lit64 x.2) ∧ L.length ≤ cap ∧ cap ≤ 10000000000000 := by
  obtain ⟨n, hg⟩ := good_arg hsz hj hd h
  obtain ⟨cs, rfl, hlen⟩ := okWide_struct Tryz.underlying24 hv
  obtain ⟨a, cap, L, e, hxy, h1, h2, h3, h4, h5⟩ := good_table hg
  refine ⟨a, cap, L, e, ?_, h1, h2, h3, h4, h5⟩
  have : cs.toList = [.slice a L.length cap, .int .i64 e] := hxy
  congr 1
  exact Array.toList_inj.1 this
set_option maxRecDepth 100000 in
theorem open_i64 {r : Reach} {b0 : Nat} (hsz : (DataW.weightsEach Tryz.prog ts ds).all (· ≤ reachBytes) = true) {j : Nat} {d : DataW H} (hj : ts[j]? = some 3) (hd : ds[j]? = some d) {v : Value} {p : List MemPlace} (hv : Value.okWide Tryz.prog W r b0 3 v)
    (h : DataW.Trod enc Tryz.prog W 0 (fun _ => true) true 3 v d p) : ∃ x : Int, v = .int .i64 x ∧ Lit64 x := by
  obtain ⟨n, hg⟩ := good_arg hsz hj hd h
  obtain ⟨x, rfl, rfl, rfl, _⟩ := open_int Tryz.underlying3 hv h
  obtain ⟨y, e1, h1⟩ := good_i64 hg Tryz.underlying3
  have e1' : [Value.int .i64 x] = [.int .i64 y] := e1
  injection e1' with e1'
  injection e1' with _ e1'
  subst e1'
  exact ⟨x, rfl, h1⟩
end
end Go.Proofs.YtapikolgpmefbaaGreatDoor
