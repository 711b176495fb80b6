/-
  Texts laid together: WSegR, WNil, WNilD, WGate.
-/
import Derived.Test.YtgnkmjeoaoongaaGreatDoorSa9
import Derived.Deep.CutRange
import Derived.Defers
import Derived.Recover
import Derived.WalkSmall
namespace Go.Proofs.YtgnkmjeoaoongaaGreatDoor
open Go.RowKit Go.Mer
end Go.Proofs.YtgnkmjeoaoongaaGreatDoor
namespace Go.Proofs.YtgnkmjeoaoongaaGreatDoor
open Go.RowKit Go.Mer
end Go.Proofs.YtgnkmjeoaoongaaGreatDoor
namespace Go.Proofs.YtgnkmjeoaoongaaGreatDoor
open Go.RowKit Go.Mer
theorem bodyD_none {fn : Func} {R : Ending → World → Prop} {a : Act} {w : World} {v : Value} (hd : a.defers = []) (hr : (results fn a.tmps).run Tryz.prog w = .ok v w) (h : R (.returned v) w) : bodyPostD Tryz.prog fn R Exit.ret a w := by
 show Leaves _ _ _ _ a.defers _ _
 rw [hd]
 exact ⟨v, hr, h⟩
end Go.Proofs.YtgnkmjeoaoongaaGreatDoor
namespace Go.Proofs.YtgnkmjeoaoongaaGreatDoor
open Go.RowKit Go.Mer
theorem gate_ok (w : World) : Calls Tryz.prog 160 #[.int .i64 0] w fun e w' => e = .returned (.tuple #[]) ∧ w = w' := by
 go_enter Tryz.func160, Tryz.ntmps160
 go_wp2_with fail
 refine bodyPost_end (results_none rfl _ _ _) rfl ⟨rfl, rfl⟩
theorem caught_nil (p : Addr) (w : World) : Calls Tryz.prog 156 #[.nilIface, .pointer (some p)] w fun e w' => e = .returned (.bool false) ∧ w = w' := by
 go_enter Tryz.func156, Tryz.ntmps156
 go_wp2_with fail
 go_ret
 exact ⟨rfl, rfl⟩
theorem gate_bad (k : Nat) (hk : 0 < k) (hk2 : k < 100) (w : World) : Calls Tryz.prog 160 #[.int .i64 (k : Int)] w fun e w' => e = .panicked [{ v := .iface 280 (.agg #[.int .i64 (k : Int)]), recovered := false }] ∧ w = w' := by
 have e1 : ((k : Int) == 0) = false := by rw [beq_eq_false_iff_ne]; omega
 have e2 : ((k : Int) != 0) = true := by rw [bne, e1]; rfl
 have hk0 : ¬ k = 0 := by omega
 go_enter Tryz.func160, Tryz.ntmps160
 go_wp2_with fail
 first | exact ⟨rfl, rfl, rfl⟩ | exact ⟨rfl, rfl⟩
theorem close_idle (p q : Addr) (w : World) : CallsD Tryz.prog 155 #[.pointer (some p), .pointer (some q)] .returning w fun e u' w' => e = .returned (.tuple #[]) ∧ u' = .returning ∧ w' = w := by
 refine callsD_of_wpS Tryz.func155 rfl fun c₀ cs hu => ?_
 apply wpS_seq
 apply wpS_region
 simp [wpOpsS, go_sem, recoverD, hu, Tryz.ntmps155, Exit.thenS]
 refine (caught_nil p w).mono ?_
 rintro e w' ⟨rfl, rfl⟩
 refine wpS_cond (t := false) (by simp [Act.eval, Array.replicate]) ?_
 simp only [Bool.false_eq_true, if_false]
 refine wpS_of_wp (wp_skip ?_)
 cases c₀
 simp_all [bodyPostS, results, Tryz.results155]
end Go.Proofs.YtgnkmjeoaoongaaGreatDoor

