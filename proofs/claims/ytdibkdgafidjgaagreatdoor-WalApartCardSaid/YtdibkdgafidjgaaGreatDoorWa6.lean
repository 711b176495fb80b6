/-
  Texts laid together: WNil, WNilD, WGate, WCaught, WClose.
-/
import Derived.Test.YtdibkdgafidjgaaGreatDoorWa5
import Derived.Defers
import Derived.Recover
import Derived.WalkSmall
namespace Go.Proofs.YtdibkdgafidjgaaGreatDoor
open Go.RowKit Go.Mer
theorem nilEntry (n : Int) (w : World) : Calls Tryz.prog 23 #[.pointer none, .int .i64 n] w fun e w' => e = .returned (.tuple #[.slice none 0 0, .int .i64 7]) ∧ w = w' := by
 go_enter Tryz.func23, Tryz.ntmps23
 go_wp2_with fail
 exact bodyPost_ret (v := .tuple #[.slice none 0 0, .int .i64 7]) (by simp [results, Tryz.results23, go_sem]) rfl ⟨rfl, rfl⟩
theorem nilNext (w : World) : Calls Tryz.prog 22 #[.pointer none] w fun e w' => e = .returned (.tuple #[.int .i64 0, .int .i64 0]) ∧ w = w' := by
 go_enter Tryz.func22, Tryz.ntmps22
 go_wp2_with fail
 exact bodyPost_ret (v := .tuple #[.int .i64 0, .int .i64 0]) (by simp [results, Tryz.results22, go_sem]) rfl ⟨rfl, rfl⟩
theorem nilNames (w : World) : Calls Tryz.prog 34 #[.pointer none] w fun e w' => e = .returned (.slice none 0 0) ∧ w = w' := by
 go_enter Tryz.func34, Tryz.ntmps34
 go_wp2_with fail
 go_ret
 exact ⟨rfl, rfl⟩
end Go.Proofs.YtdibkdgafidjgaaGreatDoor
namespace Go.Proofs.YtdibkdgafidjgaaGreatDoor
open Go.RowKit Go.Mer
theorem bodyD_none {fn : Func} {R : Ending → World → Prop} {a : Act} {w : World} {v : Value} (hd : a.defers = []) (hr : (results fn a.tmps).run Tryz.prog w = .ok v w) (h : R (.returned v) w) : bodyPostD Tryz.prog fn R Exit.ret a w := by
 show Leaves _ _ _ _ a.defers _ _
 rw [hd]
 exact ⟨v, hr, h⟩
theorem nilSync (w : World) : Calls Tryz.prog 16 #[.pointer none] w fun e w' => e = .returned (.int .i64 1) ∧ Kp No w w' := by
 go_enter_defers Tryz.func16, Tryz.ntmps16
 go_wp2_with fail
 refine bodyD_none (v := .int .i64 1) rfl (by simp [results, Tryz.results16, go_sem]) ⟨rfl, (((Kp.refl _ _).alloc _).alloc _)⟩
theorem nilAppend (a : Option Addr) (n c : Nat) (w : World) : Calls Tryz.prog 14 #[.pointer none, .slice a n c] w fun e w' => e = .returned (.tuple #[.int .i64 0, .int .i64 1]) ∧ Kp No w w' := by
 go_enter_defers Tryz.func14, Tryz.ntmps14
 go_wp2_with fail
 refine bodyD_none (v := .tuple #[.int .i64 0, .int .i64 1]) rfl (by simp [results, Tryz.results14, go_sem]) ⟨rfl, ((((Kp.refl _ _).alloc _).alloc _).alloc _)⟩
theorem nilOpen (B : ByteArray) (w : World) : Calls Tryz.prog 20 #[.pointer none, .string B] w fun e w' => e = .returned (.tuple #[.pointer none, .int .i64 1]) ∧ Kp No w w' := by
 go_enter_defers Tryz.func20, Tryz.ntmps20
 go_wp2_with fail
 refine bodyD_none (v := .tuple #[.pointer none, .int .i64 1]) rfl (by simp [results, Tryz.results20, go_sem]) ⟨rfl, (((Kp.refl _ _).alloc _).alloc _)⟩
theorem badOpen (a : Addr) (B : ByteArray) (w : World) (h : B.size < 1 ∨ 50 < B.size) (hB : B.size ≤ 1000000) : Calls Tryz.prog 20 #[.pointer (some a), .string B] w fun e w' => e = .returned (.tuple #[.pointer none, .int .i64 1]) ∧ Kp No w w' := by
 go_enter_defers Tryz.func20, Tryz.ntmps20
 rcases Nat.lt_or_ge B.size 1 with h1 | h1
 ·have e1 : decide ((B.size : Int) < 1) = true := by rw [decide_eq_true_iff]; omega
  have h0 : B.size = 0 := by omega
  clear h
  go_wp2_with fail
  refine bodyD_none (v := .tuple #[.pointer none, .int .i64 1]) rfl (by simp [results, Tryz.results20, go_sem]) ⟨rfl, (((Kp.refl _ _).alloc _).alloc _)⟩
 ·have e1 : decide ((B.size : Int) < 1) = false := by rw [decide_eq_false_iff_not]; omega
  have h2 : 50 < B.size := by omega
  have e2 : decide ((50 : Int) < (B.size : Int)) = true := by rw [decide_eq_true_iff]; omega
  clear h
  go_wp2_with fail
  refine bodyD_none (v := .tuple #[.pointer none, .int .i64 1]) rfl (by simp [results, Tryz.results20, go_sem]) ⟨rfl, (((Kp.refl _ _).alloc _).alloc _)⟩
end Go.Proofs.YtdibkdgafidjgaaGreatDoor
namespace Go.Proofs.YtdibkdgafidjgaaGreatDoor
open Go.RowKit Go.Mer
theorem gate_ok (w : World) : Calls Tryz.prog 45 #[.int .i64 0] w fun e w' => e = .returned (.tuple #[]) ∧ w = w' := by
 go_enter Tryz.func45, Tryz.ntmps45
 go_wp2_with fail
 refine bodyPost_end (results_none rfl _ _ _) rfl ⟨rfl, rfl⟩
theorem caught_nil (p : Addr) (w : World) : Calls Tryz.prog 39 #[.nilIface, .pointer (some p)] w fun e w' => e = .returned (.bool false) ∧ w = w' := by
 go_enter Tryz.func39, Tryz.ntmps39
 go_wp2_with fail
 go_ret
 exact ⟨rfl, rfl⟩
theorem gate_bad (k : Nat) (hk : 0 < k) (hk2 : k < 100) (w : World) : Calls Tryz.prog 45 #[.int .i64 (k : Int)] w fun e w' => e = .panicked [{ v := .iface 130 (.agg #[.int .i64 (k : Int)]), recovered := false }] ∧ w = w' := by
 have e1 : ((k : Int) == 0) = false := by rw [beq_eq_false_iff_ne]; omega
 have e2 : ((k : Int) != 0) = true := by rw [bne, e1]; rfl
 have hk0 : ¬ k = 0 := by omega
 go_enter Tryz.func45, Tryz.ntmps45
 go_wp2_with fail
 first | exact ⟨rfl, rfl, rfl⟩ | exact ⟨rfl, rfl⟩
theorem close_idle (p q : Addr) (w : World) : CallsD Tryz.prog 53 #[.pointer (some p), .pointer (some q)] .returning w fun e u' w' => e = .returned (.tuple #[]) ∧ u' = .returning ∧ w' = w := by
 refine callsD_of_wpS Tryz.func53 rfl fun c₀ cs hu => ?_
 apply wpS_seq
 apply wpS_region
 simp [wpOpsS, go_sem, recoverD, hu, Tryz.ntmps53, Exit.thenS]
 refine (caught_nil p w).mono ?_
 rintro e w' ⟨rfl, rfl⟩
 refine wpS_cond (t := false) (by simp [Act.eval, Array.replicate]) ?_
 simp only [Bool.false_eq_true, if_false]
 refine wpS_of_wp (wp_skip ?_)
 cases c₀
 simp_all [bodyPostS, results, Tryz.results53]
end Go.Proofs.YtdibkdgafidjgaaGreatDoor
namespace Go.Proofs.YtdibkdgafidjgaaGreatDoor
open Go.RowKit Go.Mer
theorem fail_is (v : Value) (xT : TypeId) (w : World) : (Instr.typeAssert (.iface 130 v) xT 130 true).run Tryz.prog w = .ok (.tuple #[v, .bool true]) w := by
 simp [Instr.typeAssert, run_underlying Tryz.underlying130, go_sem, Result.andThen]
set_option maxRecDepth 100000 in
theorem caught_fail (b i k : Nat) (x : Value) (w : World) (hc : w.cell? ⟨b, i, none⟩ = some x) (hf : w.frozen? ⟨b, i, none⟩ = false) (hb : b < w.heap.size) : Calls Tryz.prog 39 #[.iface 130 (.agg #[.int .i64 (k : Int)]), .pointer (some ⟨b, i, none⟩)] w fun e w' => e = .returned (.bool true) ∧ ∃ o, w' = (w.setCell ⟨b, i, none⟩ (.int .i64 (k : Int))).alloc o := by
 have hta := fail_is
 go_enter Tryz.func39, Tryz.ntmps39
 go_wp2_with fail
 go_ret
 exact ⟨rfl, _, rfl⟩
theorem close_panic (b i k : Nat) (q : Addr) (x y : Value) (older : List PanicEntry) (w : World) (hc : w.cell? ⟨b, i, none⟩ = some x) (hf : w.frozen? ⟨b, i, none⟩ = false) (hb : b < w.heap.size) (hq : w.cell? q = some y) (hqf : w.frozen? q = false) (hqb : q.block < w.heap.size) (hne : ¬ q.block = b) :
  CallsD Tryz.prog 53 #[.pointer (some ⟨b, i, none⟩), .pointer (some q)] (.panicking ({ v := .iface 130 (.agg #[.int .i64 (k : Int)]), recovered := false } :: older)) w fun e u' w' =>
   e = .returned (.tuple #[]) ∧ u' = .panicking ({ v := .iface 130 (.agg #[.int .i64 (k : Int)]), recovered := true } :: older) ∧ ∃ o, w' = ((w.setCell ⟨b, i, none⟩ (.int .i64 (k : Int))).alloc o).setCell q (.pointer none) := by
 refine callsD_of_wpS Tryz.func53 rfl fun c₀ cs hu => ?_
 apply wpS_seq
 apply wpS_region
 simp [wpOpsS, go_sem, recoverD, hu, Tryz.ntmps53, Exit.thenS]
 refine (caught_fail b i k x w hc hf hb).mono ?_
 rintro e w' ⟨rfl, o, rfl⟩
 refine wpS_cond (t := true) (by simp [Act.eval, Array.replicate]) ?_
 simp only [if_true]
 have hk : Kp (fun j => j = b) w ((w.setCell ⟨b, i, none⟩ (.int .i64 (k : Int))).alloc o) := ((Kp.refl (fun j => j = b) w).setCell (p := ⟨b, i, none⟩) (.inl rfl) _).alloc _
 have hq2 := (hk.cell hqb hne).trans hq
 have hqf2 := (hk.frozen hqb hne).trans hqf
 obtain ⟨W, hW⟩ : ∃ W, W = (w.setCell ⟨b, i, none⟩ (.int .i64 (k : Int))).alloc o := ⟨_, rfl⟩
 rw [← hW] at hq2 hqf2 ⊢
 apply wpS_region
 simp [wpOpsS, go_sem, hq2, hqf2, bodyPostS, results, Tryz.results53, Array.replicate]
 exact ⟨o, by rw [hW]⟩
end Go.Proofs.YtdibkdgafidjgaaGreatDoor
namespace Go.Proofs.YtdibkdgafidjgaaGreatDoor
open Go.RowKit Go.Mer
theorem app_idle (p q r : Addr) (w : World) : CallsD Tryz.prog 38 #[.pointer (some p), .pointer (some q), .pointer (some r)] .returning w fun e u' w' => e = .returned (.tuple #[]) ∧ u' = .returning ∧ w' = w := by
 refine callsD_of_wpS Tryz.func38 rfl fun c₀ cs hu => ?_
 apply wpS_seq
 apply wpS_region
 simp [wpOpsS, go_sem, recoverD, hu, Tryz.ntmps38, Exit.thenS]
 refine (caught_nil p w).mono ?_
 rintro e w' ⟨rfl, rfl⟩
 refine wpS_cond (t := false) (by simp [Act.eval, Array.replicate]) ?_
 simp only [Bool.false_eq_true, if_false]
 refine wpS_of_wp (wp_skip ?_)
 cases c₀
 simp_all [bodyPostS, results, Tryz.results38]
set_option maxRecDepth 100000 in
set_option maxHeartbeats 1000000 in
theorem app_panic (b i k l : Nat) (q r : Addr) (x y z : Value) (older : List PanicEntry) (w : World) (hc : w.cell? ⟨b, i, none⟩ = some x) (hf : w.frozen? ⟨b, i, none⟩ = false) (hb : b < w.heap.size) (hq : w.cell? q = some y) (hqf : w.frozen? q = false) (hqb : q.block < w.heap.size) (hne : ¬ q.block = b)
  (hr : w.cell? r = some (.pointer (some ⟨l, 0, none⟩))) (hrb : r.block < w.heap.size) (hrn : ¬ r.block = b) (hl : w.cell? ⟨l, 5, none⟩ = some z) (hlf : w.frozen? ⟨l, 5, none⟩ = false) (hlb : l < w.heap.size) (hln : ¬ l = b) (hlq : ¬ l = q.block) :
  CallsD Tryz.prog 38 #[.pointer (some ⟨b, i, none⟩), .pointer (some q), .pointer (some r)] (.panicking ({ v := .iface 130 (.agg #[.int .i64 (k : Int)]), recovered := false } :: older)) w fun e u' w' =>
   e = .returned (.tuple #[]) ∧ u' = .panicking ({ v := .iface 130 (.agg #[.int .i64 (k : Int)]), recovered := true } :: older) ∧ ∃ o, w' = (((w.setCell ⟨b, i, none⟩ (.int .i64 (k : Int))).alloc o).setCell q (.int .i64 0)).setCell ⟨l, 5, none⟩ (.bool ((k : Int) != 6)) := by
 refine callsD_of_wpS Tryz.func38 rfl fun c₀ cs hu => ?_
 apply wpS_seq
 apply wpS_region
 simp [wpOpsS, go_sem, recoverD, hu, Tryz.ntmps38, Exit.thenS]
 refine (caught_fail b i k x w hc hf hb).mono ?_
 rintro e w' ⟨rfl, o, rfl⟩
 refine wpS_cond (t := true) (by simp [Act.eval, Array.replicate]) ?_
 simp only [if_true]
 have hk : Kp (fun j => j = b) w ((w.setCell ⟨b, i, none⟩ (.int .i64 (k : Int))).alloc o) := ((Kp.refl (fun j => j = b) w).setCell (p := ⟨b, i, none⟩) (.inl rfl) _).alloc _
 have hk0 : Kp No (w.setCell ⟨b, i, none⟩ (.int .i64 (k : Int))) ((w.setCell ⟨b, i, none⟩ (.int .i64 (k : Int))).alloc o) := (Kp.refl _ _).alloc _
 have hq2 := (hk.cell hqb hne).trans hq
 have hqf2 := (hk.frozen hqb hne).trans hqf
 have hr2 := (hk.cell hrb hrn).trans hr
 have hl2 := (hk.cell (p := ⟨l, 5, none⟩) hlb hln).trans hl
 have hlf2 := (hk.frozen (p := ⟨l, 5, none⟩) hlb hln).trans hlf
 have he2 : ((w.setCell ⟨b, i, none⟩ (.int .i64 (k : Int))).alloc o).cell? ⟨b, i, none⟩ = some (.int .i64 (k : Int)) := by
  rw [hk0.cell (p := ⟨b, i, none⟩) (by simpa using hb) (fun x => x)]
  simp [go_sem, hc]
 obtain ⟨W, hW⟩ : ∃ W, W = (w.setCell ⟨b, i, none⟩ (.int .i64 (k : Int))).alloc o := ⟨_, rfl⟩
 rw [← hW] at hq2 hqf2 hr2 hl2 hlf2 he2 ⊢
 have hkq : Kp (fun j => j = q.block) W (W.setCell q (.int .i64 0)) := (Kp.refl (fun j => j = q.block) W).setCell (.inl rfl) _
 have hWs : w.heap.size ≤ W.heap.size := by rw [hW]; exact hk.size
 have hl3 := (hkq.cell (p := ⟨l, 5, none⟩) (by show l < _; omega) hlq).trans hl2
 have hlf3 := (hkq.frozen (p := ⟨l, 5, none⟩) (by show l < _; omega) hlq).trans hlf2
 have HW := Lib.hid hW
 clear hW hk hk0 hkq
 refine wpS_of_wp ?_
 go_wp2_with fail
 exact ⟨rfl, _, rfl, _, results_none rfl _ _ _, rfl, rfl, o, by rw [← HW.out]⟩
end Go.Proofs.YtdibkdgafidjgaaGreatDoor

