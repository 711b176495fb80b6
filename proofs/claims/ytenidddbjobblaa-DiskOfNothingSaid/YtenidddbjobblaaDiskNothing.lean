/-
  disk: a nil Disk; the law DiskOfNothing, walked: it answers true.
-/
import Derived.Test.YtenidddbjobblaaDiskKnown
namespace Go.Proofs.Ytenidddbjobblaa
open Go.RowKit Go.Mer

theorem Write_nil (w : World) (name : ByteArray) (pa : Option Addr) (pn pc : Nat) : Calls Try.prog 11 #[.pointer none, .string name, .slice pa pn pc] w fun e w' => e = .returned (.int .i64 1) ∧ Kp No w w' := by
  go_enter Try.func11, Try.ntmps11
  go_wp2_with fail
  refine (gate_nil _ _ _ ⟨_, _, _, rfl⟩).mono ?_
  rintro e w' ⟨rfl, hk⟩
  have hk' := ((Kp.refl No w).alloc _).trans_same hk
  go_wp2_with fail
  go_ret
  exact ⟨rfl, hk'⟩
theorem Sync_nil (w : World) (name : ByteArray) : Calls Try.prog 12 #[.pointer none, .string name] w fun e w' => e = .returned (.int .i64 1) ∧ Kp No w w' := by
  go_enter Try.func12, Try.ntmps12
  go_wp2_with fail
  refine (gate_nil _ _ _ ⟨_, _, _, rfl⟩).mono ?_
  rintro e w' ⟨rfl, hk⟩
  have hk' := ((Kp.refl No w).alloc _).trans_same hk
  go_wp2_with fail
  go_ret
  exact ⟨rfl, hk'⟩
theorem Remove_nil (w : World) (name : ByteArray) : Calls Try.prog 18 #[.pointer none, .string name] w fun e w' => e = .returned (.int .i64 1) ∧ Kp No w w' := by
  go_enter Try.func18, Try.ntmps18
  go_wp2_with fail
  refine (gate_nil _ _ _ ⟨_, _, _, rfl⟩).mono ?_
  rintro e w' ⟨rfl, hk⟩
  have hk' := ((Kp.refl No w).alloc _).trans_same hk
  go_wp2_with fail
  go_ret
  exact ⟨rfl, hk'⟩
theorem Cut_nil (w : World) (name : ByteArray) (n : Int) : Calls Try.prog 28 #[.pointer none, .string name, .int .i64 n] w fun e w' => e = .returned (.int .i64 1) ∧ Kp No w w' := by
  go_enter Try.func28, Try.ntmps28
  go_wp2_with fail
  refine (gate_nil _ _ _ ⟨_, _, _, rfl⟩).mono ?_
  rintro e w' ⟨rfl, hk⟩
  have hk' := ((Kp.refl No w).alloc _).trans_same hk
  go_wp2_with fail
  go_ret
  exact ⟨rfl, hk'⟩
theorem Rename_nil (w : World) (a b : ByteArray) : Calls Try.prog 19 #[.pointer none, .string a, .string b] w fun e w' => e = .returned (.int .i64 1) ∧ Kp No w w' := by
  go_enter Try.func19, Try.ntmps19
  go_wp2_with fail
  refine (gate_nil _ _ _ ⟨_, _, _, rfl⟩).mono ?_
  rintro e w' ⟨rfl, hk⟩
  have hk' := ((Kp.refl No w).alloc _).trans_same hk
  go_wp2_with fail
  go_ret
  exact ⟨rfl, hk'⟩
theorem Fuse_nil (w : World) (n : Int) : Calls Try.prog 17 #[.pointer none, .int .i64 n] w fun e w' => e = .returned (.tuple #[]) ∧ w' = w := by
  go_enter Try.func17, Try.ntmps17
  go_wp2_with fail
  go_end0
  exact ⟨rfl, rfl⟩
theorem Crash_nil (w : World) (n : Int) (t : Int) : Calls Try.prog 13 #[.pointer none, .int .i64 n, .int .u8 t] w fun e w' => e = .returned (.tuple #[]) ∧ w' = w := by
  go_enter Try.func13, Try.ntmps13
  go_wp2_with fail
  exact bodyPost_ret (results_none rfl _ _ _) rfl ⟨rfl, rfl⟩
theorem Read_nil (w : World) (name : ByteArray) : Calls Try.prog 14 #[.pointer none, .string name] w fun e w' => e = .returned (.tuple #[.slice none 0 0, .int .i64 7]) ∧ w' = w := by
  go_enter Try.func14, Try.ntmps14
  go_wp2_with fail
  go_ret2
  exact ⟨rfl, rfl⟩
theorem Names_nil (w : World) : Calls Try.prog 21 #[.pointer none] w fun e w' => e = .returned (.slice none 0 0) ∧ w' = w := by
  go_enter Try.func21, Try.ntmps21
  go_wp2_with fail
  go_ret
  exact ⟨rfl, rfl⟩
theorem Used_nil (w : World) : Calls Try.prog 15 #[.pointer none] w fun e w' => e = .returned (.int .i64 0) ∧ w' = w := by
  go_enter Try.func15, Try.ntmps15
  go_wp2_with fail
  go_ret
  exact ⟨rfl, rfl⟩
theorem Copy_nil (w : World) : Calls Try.prog 24 #[.pointer none] w fun e w' => e = .returned (.pointer none) ∧ w' = w := by
  go_enter Try.func24, Try.ntmps24
  go_wp2_with fail
  go_ret
  exact ⟨rfl, rfl⟩

set_option maxRecDepth 100000 in
set_option maxHeartbeats 1000000 in
theorem nothing_any (w : World) (name : ByteArray) (a : Option Addr) (n c : Nat) (k : Int) (h1 : name.size ≤ 140737488351232) (h2 : n ≤ 140737488351232) :
    Calls Try.prog 8 #[.string name, .slice a n c, .int .i64 k] w fun e w' => e = .returned (.bool true) ∧ Kp No w w' := by
  by_cases hn : name.size + n ≤ 8000
  · have hdec : decide ((8000 : Int) < (name.size : Int) + (n : Int)) = false := by simp only [decide_eq_false_iff_not]; omega
    go_enter Try.func8, Try.ntmps8
    go_wp2_with fail
    refine (Fuse_nil _ _).mono ?_
    rintro e w1 ⟨rfl, rfl⟩
    go_wp2_with fail
    refine (Crash_nil _ _ _).mono ?_
    rintro e w2 ⟨rfl, rfl⟩
    go_wp2_with fail
    refine (Read_nil _ _).mono ?_
    rintro e w3 ⟨rfl, rfl⟩
    go_wp2_with fail
    refine (Write_nil _ _ _ _ _).mono ?_
    rintro e w4 ⟨rfl, k4⟩
    go_wp2_with fail
    refine (Sync_nil _ _).mono ?_
    rintro e w5 ⟨rfl, k5⟩
    go_wp2_with fail
    refine (Cut_nil _ _ _).mono ?_
    rintro e w6 ⟨rfl, k6⟩
    go_wp2_with fail
    refine (Rename_nil _ _ _).mono ?_
    rintro e w7 ⟨rfl, k7⟩
    go_wp2_with fail
    refine (Remove_nil _ _).mono ?_
    rintro e w8 ⟨rfl, k8⟩
    have k9 := (((k4.trans_same k5).trans_same k6).trans_same k7).trans_same k8
    clear k4 k5 k6 k7 k8
    go_wp2_with fail
    refine (Names_nil _).mono ?_
    rintro e w10 ⟨rfl, rfl⟩
    go_wp2_with fail
    refine (Used_nil _).mono ?_
    rintro e w11 ⟨rfl, rfl⟩
    go_wp2_with fail
    refine (Copy_nil _).mono ?_
    rintro e w12 ⟨rfl, rfl⟩
    go_wp2_with fail
    refine (known_any _).mono ?_
    rintro e w13 ⟨rfl, k13⟩
    go_wp2_with fail
    go_ret
    exact ⟨rfl, k9.trans_same k13⟩
  · have hdec : decide ((8000 : Int) < (name.size : Int) + (n : Int)) = true := by simp only [decide_eq_true_eq]; omega
    go_enter Try.func8, Try.ntmps8
    go_wp2_with fail
    go_ret
    exact ⟨rfl, Kp.refl _ _⟩
end Go.Proofs.Ytenidddbjobblaa
