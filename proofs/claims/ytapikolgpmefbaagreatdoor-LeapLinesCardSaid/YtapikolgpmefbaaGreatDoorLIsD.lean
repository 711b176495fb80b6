/-
  Is it a date: cal's Is and the reference's.
-/
import Derived.Test.YtapikolgpmefbaaGreatDoorLMon
import Derived.Test.YtapikolgpmefbaaGreatDoorLTab
import Derived.Test.YtapikolgpmefbaaGreatDoorLRIs
namespace Go.Proofs.YtapikolgpmefbaaGreatDoor
open Go.RowKit Go.Mer

def isD (y m d : Int) : Bool := decide (1 ≤ y) && decide (y ≤ 9999) && decide (1 ≤ m) && decide (m ≤ 12) && decide (1 ≤ d) && decide (d ≤ (monF y.toNat m.toNat : Int))
def dvI (y m d : Int) : Value := .agg #[.int .i64 y, .int .i64 m, .int .i64 d]
set_option maxHeartbeats 4000000 in
theorem cIs_any (y m d : Int) (w : World) : Calls Tryz.prog 51 #[dvI y m d] w fun e w' => e = .returned (.bool (isD y m d)) ∧ Kp No w w' := by
  unfold dvI
  obtain ⟨r, hr⟩ : ∃ r, r = isD y m d := ⟨_, rfl⟩
  rw [← hr]
  unfold isD at hr
  obtain ⟨W0, hW0⟩ : ∃ W0, W0 = w.alloc (.cells #[.int .i64 y, .int .i64 m, .int .i64 d] 66 (0, 0)) := ⟨_, rfl⟩
  have hb : W0.heap[w.heap.size]? = some (.cells #[.int .i64 y, .int .i64 m, .int .i64 d] 66 (0, 0)) := by rw [hW0]; exact heap_alloc_new w _
  have HK0 := Lib.hid (show Kp No w W0 by rw [hW0]; exact (Kp.refl _ _).alloc _)
  have HW := Lib.hid hW0
  have b0 : ∀ W, Kp No W0 W → W.cell? ⟨w.heap.size, 0, none⟩ = some (.int .i64 y) := fun W h => by rw [cell_at (h.get hb fun x => x)]; rfl
  have b1 : ∀ W, Kp No W0 W → W.cell? ⟨w.heap.size, 1, none⟩ = some (.int .i64 m) := fun W h => by rw [cell_at (h.get hb fun x => x)]; rfl
  have b2 : ∀ W, Kp No W0 W → W.cell? ⟨w.heap.size, 2, none⟩ = some (.int .i64 d) := fun W h => by rw [cell_at (h.get hb fun x => x)]; rfl
  clear hb hW0
  rcases Int.lt_or_le y 1 with h1 | h1
  · have d1 : decide (1 ≤ y) = false := by rw [decide_eq_false_iff_not]; omega
    have HR := Lib.hid (show r = false by rw [hr, d1]; rfl)
    clear hr h1
    go_enter Tryz.func51, Tryz.ntmps51
    go_wp2_with fail
    rw [← HW.out]
    refine wp_region_held' (Kp No _) [0,0,0,0,0,0,0,0,0,0,0,0,0,0,0,0,0,0,0,0,0,0,0,0,0,0,0,0,0,0,2,0,0,0] [0,1,2,3,4,5,6,7,8,9,10,11,12,13,14,15,16,17,18,19,20,21,22,23,24,26,28,25,27,29,30,31,32,33] (by kernel_rfl) (by kernel_rfl) (fun _ n h => h.drewN n) (Kp.refl _ _) ?_
    repeat (first
      | (apply wpOrd_skip rfl (by decide) rfl; (focus (go_simp; rfl)))
      | (apply wpOrd_pure rfl rfl rfl; (focus (intro _ _; go_simp; (try go_ints); rfl)); (focus (go_simp; rfl)))
      | (apply wpOrd_read rfl rfl rfl; (focus (intro _; go_simp; (try go_ints); rfl)); (focus (go_simp; rfl))))
    refine wpOrd_shutr rfl rfl rfl (by go_simp; try rfl) (fun ns => ?_)
    refine ⟨(Kp.refl _ _).drewN _, ?_⟩
    repeat (first
      | (apply wpOrd_skip rfl (by decide) rfl; (focus (go_simp; rfl)))
      | (apply wpOrd_pure rfl rfl rfl; (focus (intro _ _; go_simp; (try go_ints); rfl)); (focus (go_simp; rfl)))
      | (apply wpOrd_read rfl rfl rfl; (focus (intro _; go_simp; (try go_ints); rfl)); (focus (go_simp; rfl))))
    refine wpOrd_nil (fun nq => ?_)
    go_wp2_with fail
    go_ret
    refine ⟨?_, (HK0.out.drewN _).drewN _⟩
    rw [HR.out]
    rfl
  · have d1 : decide (1 ≤ y) = true := decide_eq_true h1
    rcases Int.lt_or_le 9999 y with h2 | h2
    · have d2 : decide (y ≤ 9999) = false := by rw [decide_eq_false_iff_not]; omega
      have HR := Lib.hid (show r = false by rw [hr, d1, d2]; rfl)
      clear hr h1 h2
      go_enter Tryz.func51, Tryz.ntmps51
      go_wp2_with fail
      rw [← HW.out]
      refine wp_region_held' (Kp No _) [0,0,0,0,0,0,0,0,0,0,0,0,0,0,0,0,0,0,0,0,0,0,0,0,0,0,0,0,0,0,2,0,0,0] [0,1,2,3,4,5,6,7,8,9,10,11,12,13,14,15,16,17,18,19,20,21,22,23,24,26,28,25,27,29,30,31,32,33] (by kernel_rfl) (by kernel_rfl) (fun _ n h => h.drewN n) (Kp.refl _ _) ?_
      repeat (first
        | (apply wpOrd_skip rfl (by decide) rfl; (focus (go_simp; rfl)))
        | (apply wpOrd_pure rfl rfl rfl; (focus (intro _ _; go_simp; (try go_ints); rfl)); (focus (go_simp; rfl)))
        | (apply wpOrd_read rfl rfl rfl; (focus (intro _; go_simp; (try go_ints); rfl)); (focus (go_simp; rfl))))
      refine wpOrd_shutr rfl rfl rfl (by go_simp; try rfl) (fun ns => ?_)
      refine ⟨(Kp.refl _ _).drewN _, ?_⟩
      repeat (first
        | (apply wpOrd_skip rfl (by decide) rfl; (focus (go_simp; rfl)))
        | (apply wpOrd_pure rfl rfl rfl; (focus (intro _ _; go_simp; (try go_ints); rfl)); (focus (go_simp; rfl)))
        | (apply wpOrd_read rfl rfl rfl; (focus (intro _; go_simp; (try go_ints); rfl)); (focus (go_simp; rfl))))
      refine wpOrd_nil (fun nq => ?_)
      go_wp2_with fail
      go_ret
      refine ⟨?_, (HK0.out.drewN _).drewN _⟩
      rw [HR.out]
      rfl
    · have d2 : decide (y ≤ 9999) = true := decide_eq_true h2
      rcases Int.lt_or_le m 1 with h3 | h3
      · have d3 : decide (1 ≤ m) = false := by rw [decide_eq_false_iff_not]; omega
        have HR := Lib.hid (show r = false by rw [hr, d1, d2, d3]; rfl)
        clear hr h1 h2 h3
        go_enter Tryz.func51, Tryz.ntmps51
        go_wp2_with fail
        rw [← HW.out]
        refine wp_region_held' (Kp No _) [0,0,0,0,0,0,0,0,0,0,0,0,0,0,0,0,0,0,0,0,0,0,0,0,0,0,0,0,0,0,2,0,0,0] [0,1,2,3,4,5,6,7,8,9,10,11,12,13,14,15,16,17,18,19,20,21,22,23,24,26,28,25,27,29,30,31,32,33] (by kernel_rfl) (by kernel_rfl) (fun _ n h => h.drewN n) (Kp.refl _ _) ?_
        repeat (first
          | (apply wpOrd_skip rfl (by decide) rfl; (focus (go_simp; rfl)))
          | (apply wpOrd_pure rfl rfl rfl; (focus (intro _ _; go_simp; (try go_ints); rfl)); (focus (go_simp; rfl)))
          | (apply wpOrd_read rfl rfl rfl; (focus (intro _; go_simp; (try go_ints); rfl)); (focus (go_simp; rfl))))
        refine wpOrd_shutr rfl rfl rfl (by go_simp; try rfl) (fun ns => ?_)
        refine ⟨(Kp.refl _ _).drewN _, ?_⟩
        repeat (first
          | (apply wpOrd_skip rfl (by decide) rfl; (focus (go_simp; rfl)))
          | (apply wpOrd_pure rfl rfl rfl; (focus (intro _ _; go_simp; (try go_ints); rfl)); (focus (go_simp; rfl)))
          | (apply wpOrd_read rfl rfl rfl; (focus (intro _; go_simp; (try go_ints); rfl)); (focus (go_simp; rfl))))
        refine wpOrd_nil (fun nq => ?_)
        go_wp2_with fail
        go_ret
        refine ⟨?_, (HK0.out.drewN _).drewN _⟩
        rw [HR.out]
        rfl
      · have d3 : decide (1 ≤ m) = true := decide_eq_true h3
        rcases Int.lt_or_le 12 m with h4 | h4
        · have d4 : decide (m ≤ 12) = false := by rw [decide_eq_false_iff_not]; omega
          have HR := Lib.hid (show r = false by rw [hr, d1, d2, d3, d4]; rfl)
          clear hr h1 h2 h3 h4
          go_enter Tryz.func51, Tryz.ntmps51
          go_wp2_with fail
          rw [← HW.out]
          refine wp_region_held' (Kp No _) [0,0,0,0,0,0,0,0,0,0,0,0,0,0,0,0,0,0,0,0,0,0,0,0,0,0,0,0,0,0,2,0,0,0] [0,1,2,3,4,5,6,7,8,9,10,11,12,13,14,15,16,17,18,19,20,21,22,23,24,26,28,25,27,29,30,31,32,33] (by kernel_rfl) (by kernel_rfl) (fun _ n h => h.drewN n) (Kp.refl _ _) ?_
          repeat (first
            | (apply wpOrd_skip rfl (by decide) rfl; (focus (go_simp; rfl)))
            | (apply wpOrd_pure rfl rfl rfl; (focus (intro _ _; go_simp; (try go_ints); rfl)); (focus (go_simp; rfl)))
            | (apply wpOrd_read rfl rfl rfl; (focus (intro _; go_simp; (try go_ints); rfl)); (focus (go_simp; rfl))))
          refine wpOrd_shutr rfl rfl rfl (by go_simp; try rfl) (fun ns => ?_)
          refine ⟨(Kp.refl _ _).drewN _, ?_⟩
          repeat (first
            | (apply wpOrd_skip rfl (by decide) rfl; (focus (go_simp; rfl)))
            | (apply wpOrd_pure rfl rfl rfl; (focus (intro _ _; go_simp; (try go_ints); rfl)); (focus (go_simp; rfl)))
            | (apply wpOrd_read rfl rfl rfl; (focus (intro _; go_simp; (try go_ints); rfl)); (focus (go_simp; rfl))))
          refine wpOrd_nil (fun nq => ?_)
          go_wp2_with fail
          go_ret
          refine ⟨?_, (HK0.out.drewN _).drewN _⟩
          rw [HR.out]
          rfl
        · have d4 : decide (m ≤ 12) = true := decide_eq_true h4
          rcases Int.lt_or_le d 1 with h5 | h5
          · have d5 : decide (1 ≤ d) = false := by rw [decide_eq_false_iff_not]; omega
            have HR := Lib.hid (show r = false by rw [hr, d1, d2, d3, d4, d5]; rfl)
            clear hr h1 h2 h3 h4 h5
            go_enter Tryz.func51, Tryz.ntmps51
            go_wp2_with fail
            rw [← HW.out]
            refine wp_region_held' (Kp No _) [0,0,0,0,0,0,0,0,0,0,0,0,0,0,0,0,0,0,0,0,0,0,0,0,0,0,0,0,0,0,2,0,0,0] [0,1,2,3,4,5,6,7,8,9,10,11,12,13,14,15,16,17,18,19,20,21,22,23,24,26,28,25,27,29,30,31,32,33] (by kernel_rfl) (by kernel_rfl) (fun _ n h => h.drewN n) (Kp.refl _ _) ?_
            repeat (first
              | (apply wpOrd_skip rfl (by decide) rfl; (focus (go_simp; rfl)))
              | (apply wpOrd_pure rfl rfl rfl; (focus (intro _ _; go_simp; (try go_ints); rfl)); (focus (go_simp; rfl)))
              | (apply wpOrd_read rfl rfl rfl; (focus (intro _; go_simp; (try go_ints); rfl)); (focus (go_simp; rfl))))
            refine wpOrd_shutr rfl rfl rfl (by go_simp; try rfl) (fun ns => ?_)
            refine ⟨(Kp.refl _ _).drewN _, ?_⟩
            repeat (first
              | (apply wpOrd_skip rfl (by decide) rfl; (focus (go_simp; rfl)))
              | (apply wpOrd_pure rfl rfl rfl; (focus (intro _ _; go_simp; (try go_ints); rfl)); (focus (go_simp; rfl)))
              | (apply wpOrd_read rfl rfl rfl; (focus (intro _; go_simp; (try go_ints); rfl)); (focus (go_simp; rfl))))
            refine wpOrd_nil (fun nq => ?_)
            go_wp2_with fail
            go_ret
            refine ⟨?_, (HK0.out.drewN _).drewN _⟩
            rw [HR.out]
            rfl
          · have d5 : decide (1 ≤ d) = true := decide_eq_true h5
            have HR := Lib.hid (show r = decide (d ≤ (monF y.toNat m.toNat : Int)) by rw [hr, d1, d2, d3, d4, d5]; rfl)
            have hmon := month_any y.toNat m.toNat (by omega) (by omega)
            rw [show ((y.toNat : Nat) : Int) = y by omega, show ((m.toNat : Nat) : Int) = m by omega] at hmon
            have HM := Lib.hid hmon
            obtain ⟨L, hL⟩ : ∃ L, L = monF y.toNat m.toNat := ⟨_, rfl⟩
            rw [← hL] at HM HR
            clear hr h1 h2 h3 h4 h5 hmon hL
            go_enter Tryz.func51, Tryz.ntmps51
            go_wp2_with fail
            rw [← HW.out]
            refine wp_region_held' (Kp No _) [0,0,0,0,0,0,0,0,0,0,0,0,0,0,0,0,0,0,0,0,0,0,0,0,0,0,0,0,0,0,2,0,0,0] [0,1,2,3,4,5,6,7,8,9,10,11,12,13,14,15,16,17,18,19,20,21,22,23,24,26,28,25,27,29,30,31,32,33] (by kernel_rfl) (by kernel_rfl) (fun _ n h => h.drewN n) (Kp.refl _ _) ?_
            repeat (first
              | (apply wpOrd_skip rfl (by decide) rfl; (focus (go_simp; rfl)))
              | (apply wpOrd_pure rfl rfl rfl; (focus (intro _ _; go_simp; (try go_ints); rfl)); (focus (go_simp; rfl)))
              | (apply wpOrd_read rfl rfl rfl; (focus (intro _; go_simp; (try go_ints); rfl)); (focus (go_simp; rfl))))
            refine wpOrd_eff rfl rfl (fun n1 => ?_)
            go_wp2_with fail
            refine (HM.out _).mono ?_
            rintro e w2 ⟨rfl, rfl⟩
            go_wp2_with fail
            refine ⟨(Kp.refl _ _).drewN _, ?_⟩
            repeat (first
              | (apply wpOrd_skip rfl (by decide) rfl; (focus (go_simp; rfl)))
              | (apply wpOrd_pure rfl rfl rfl; (focus (intro _ _; go_simp; (try go_ints); rfl)); (focus (go_simp; rfl)))
              | (apply wpOrd_read rfl rfl rfl; (focus (intro _; go_simp; (try go_ints); rfl)); (focus (go_simp; rfl))))
            refine wpOrd_nil (fun nq => ?_)
            go_wp2_with fail
            go_ret
            refine ⟨?_, (HK0.out.drewN _).drewN _⟩
            rw [HR.out]
            rfl
set_option maxHeartbeats 4000000 in
theorem rcIs_any (y m d : Int) (w : World) : Calls Tryz.prog 55 #[dvI y m d] w fun e w' => e = .returned (.bool (isD y m d)) ∧ Kp No w w' := by
  unfold dvI
  obtain ⟨r, hr⟩ : ∃ r, r = isD y m d := ⟨_, rfl⟩
  rw [← hr]
  unfold isD at hr
  obtain ⟨W0, hW0⟩ : ∃ W0, W0 = w.alloc (.cells #[.int .i64 y, .int .i64 m, .int .i64 d] 66 (0, 0)) := ⟨_, rfl⟩
  have hb : W0.heap[w.heap.size]? = some (.cells #[.int .i64 y, .int .i64 m, .int .i64 d] 66 (0, 0)) := by rw [hW0]; exact heap_alloc_new w _
  have HK0 := Lib.hid (show Kp No w W0 by rw [hW0]; exact (Kp.refl _ _).alloc _)
  have HW := Lib.hid hW0
  have b0 : ∀ W, Kp No W0 W → W.cell? ⟨w.heap.size, 0, none⟩ = some (.int .i64 y) := fun W h => by rw [cell_at (h.get hb fun x => x)]; rfl
  have b1 : ∀ W, Kp No W0 W → W.cell? ⟨w.heap.size, 1, none⟩ = some (.int .i64 m) := fun W h => by rw [cell_at (h.get hb fun x => x)]; rfl
  have b2 : ∀ W, Kp No W0 W → W.cell? ⟨w.heap.size, 2, none⟩ = some (.int .i64 d) := fun W h => by rw [cell_at (h.get hb fun x => x)]; rfl
  clear hb hW0
  rcases Int.lt_or_le y 1 with h1 | h1
  · have d1 : decide (1 ≤ y) = false := by rw [decide_eq_false_iff_not]; omega
    have HR := Lib.hid (show r = false by rw [hr, d1]; rfl)
    clear hr h1
    go_enter Tryz.func55, Tryz.ntmps55
    go_wp2_with fail
    rw [← HW.out]
    refine wp_region_held' (Kp No _) [0,0,0,0,0,0,0,0,0,0,0,0,0,0,0,0,0,0,0,0,0,0,0,0,0,0,0,0,0,0,2,0,0,0] [0,1,2,3,4,5,6,7,8,9,10,11,12,13,14,15,16,17,18,19,20,21,22,23,24,26,28,25,27,29,30,31,32,33] (by kernel_rfl) (by kernel_rfl) (fun _ n h => h.drewN n) (Kp.refl _ _) ?_
    repeat (first
      | (apply wpOrd_skip rfl (by decide) rfl; (focus (go_simp; rfl)))
      | (apply wpOrd_pure rfl rfl rfl; (focus (intro _ _; go_simp; (try go_ints); rfl)); (focus (go_simp; rfl)))
      | (apply wpOrd_read rfl rfl rfl; (focus (intro _; go_simp; (try go_ints); rfl)); (focus (go_simp; rfl))))
    refine wpOrd_shutr rfl rfl rfl (by go_simp; try rfl) (fun ns => ?_)
    refine ⟨(Kp.refl _ _).drewN _, ?_⟩
    repeat (first
      | (apply wpOrd_skip rfl (by decide) rfl; (focus (go_simp; rfl)))
      | (apply wpOrd_pure rfl rfl rfl; (focus (intro _ _; go_simp; (try go_ints); rfl)); (focus (go_simp; rfl)))
      | (apply wpOrd_read rfl rfl rfl; (focus (intro _; go_simp; (try go_ints); rfl)); (focus (go_simp; rfl))))
    refine wpOrd_nil (fun nq => ?_)
    go_wp2_with fail
    go_ret
    refine ⟨?_, (HK0.out.drewN _).drewN _⟩
    rw [HR.out]
    rfl
  · have d1 : decide (1 ≤ y) = true := decide_eq_true h1
    rcases Int.lt_or_le 9999 y with h2 | h2
    · have d2 : decide (y ≤ 9999) = false := by rw [decide_eq_false_iff_not]; omega
      have HR := Lib.hid (show r = false by rw [hr, d1, d2]; rfl)
      clear hr h1 h2
      go_enter Tryz.func55, Tryz.ntmps55
      go_wp2_with fail
      rw [← HW.out]
      refine wp_region_held' (Kp No _) [0,0,0,0,0,0,0,0,0,0,0,0,0,0,0,0,0,0,0,0,0,0,0,0,0,0,0,0,0,0,2,0,0,0] [0,1,2,3,4,5,6,7,8,9,10,11,12,13,14,15,16,17,18,19,20,21,22,23,24,26,28,25,27,29,30,31,32,33] (by kernel_rfl) (by kernel_rfl) (fun _ n h => h.drewN n) (Kp.refl _ _) ?_
      repeat (first
        | (apply wpOrd_skip rfl (by decide) rfl; (focus (go_simp; rfl)))
        | (apply wpOrd_pure rfl rfl rfl; (focus (intro _ _; go_simp; (try go_ints); rfl)); (focus (go_simp; rfl)))
        | (apply wpOrd_read rfl rfl rfl; (focus (intro _; go_simp; (try go_ints); rfl)); (focus (go_simp; rfl))))
      refine wpOrd_shutr rfl rfl rfl (by go_simp; try rfl) (fun ns => ?_)
      refine ⟨(Kp.refl _ _).drewN _, ?_⟩
      repeat (first
        | (apply wpOrd_skip rfl (by decide) rfl; (focus (go_simp; rfl)))
        | (apply wpOrd_pure rfl rfl rfl; (focus (intro _ _; go_simp; (try go_ints); rfl)); (focus (go_simp; rfl)))
        | (apply wpOrd_read rfl rfl rfl; (focus (intro _; go_simp; (try go_ints); rfl)); (focus (go_simp; rfl))))
      refine wpOrd_nil (fun nq => ?_)
      go_wp2_with fail
      go_ret
      refine ⟨?_, (HK0.out.drewN _).drewN _⟩
      rw [HR.out]
      rfl
    · have d2 : decide (y ≤ 9999) = true := decide_eq_true h2
      rcases Int.lt_or_le m 1 with h3 | h3
      · have d3 : decide (1 ≤ m) = false := by rw [decide_eq_false_iff_not]; omega
        have HR := Lib.hid (show r = false by rw [hr, d1, d2, d3]; rfl)
        clear hr h1 h2 h3
        go_enter Tryz.func55, Tryz.ntmps55
        go_wp2_with fail
        rw [← HW.out]
        refine wp_region_held' (Kp No _) [0,0,0,0,0,0,0,0,0,0,0,0,0,0,0,0,0,0,0,0,0,0,0,0,0,0,0,0,0,0,2,0,0,0] [0,1,2,3,4,5,6,7,8,9,10,11,12,13,14,15,16,17,18,19,20,21,22,23,24,26,28,25,27,29,30,31,32,33] (by kernel_rfl) (by kernel_rfl) (fun _ n h => h.drewN n) (Kp.refl _ _) ?_
        repeat (first
          | (apply wpOrd_skip rfl (by decide) rfl; (focus (go_simp; rfl)))
          | (apply wpOrd_pure rfl rfl rfl; (focus (intro _ _; go_simp; (try go_ints); rfl)); (focus (go_simp; rfl)))
          | (apply wpOrd_read rfl rfl rfl; (focus (intro _; go_simp; (try go_ints); rfl)); (focus (go_simp; rfl))))
        refine wpOrd_shutr rfl rfl rfl (by go_simp; try rfl) (fun ns => ?_)
        refine ⟨(Kp.refl _ _).drewN _, ?_⟩
        repeat (first
          | (apply wpOrd_skip rfl (by decide) rfl; (focus (go_simp; rfl)))
          | (apply wpOrd_pure rfl rfl rfl; (focus (intro _ _; go_simp; (try go_ints); rfl)); (focus (go_simp; rfl)))
          | (apply wpOrd_read rfl rfl rfl; (focus (intro _; go_simp; (try go_ints); rfl)); (focus (go_simp; rfl))))
        refine wpOrd_nil (fun nq => ?_)
        go_wp2_with fail
        go_ret
        refine ⟨?_, (HK0.out.drewN _).drewN _⟩
        rw [HR.out]
        rfl
      · have d3 : decide (1 ≤ m) = true := decide_eq_true h3
        rcases Int.lt_or_le 12 m with h4 | h4
        · have d4 : decide (m ≤ 12) = false := by rw [decide_eq_false_iff_not]; omega
          have HR := Lib.hid (show r = false by rw [hr, d1, d2, d3, d4]; rfl)
          clear hr h1 h2 h3 h4
          go_enter Tryz.func55, Tryz.ntmps55
          go_wp2_with fail
          rw [← HW.out]
          refine wp_region_held' (Kp No _) [0,0,0,0,0,0,0,0,0,0,0,0,0,0,0,0,0,0,0,0,0,0,0,0,0,0,0,0,0,0,2,0,0,0] [0,1,2,3,4,5,6,7,8,9,10,11,12,13,14,15,16,17,18,19,20,21,22,23,24,26,28,25,27,29,30,31,32,33] (by kernel_rfl) (by kernel_rfl) (fun _ n h => h.drewN n) (Kp.refl _ _) ?_
          repeat (first
            | (apply wpOrd_skip rfl (by decide) rfl; (focus (go_simp; rfl)))
            | (apply wpOrd_pure rfl rfl rfl; (focus (intro _ _; go_simp; (try go_ints); rfl)); (focus (go_simp; rfl)))
            | (apply wpOrd_read rfl rfl rfl; (focus (intro _; go_simp; (try go_ints); rfl)); (focus (go_simp; rfl))))
          refine wpOrd_shutr rfl rfl rfl (by go_simp; try rfl) (fun ns => ?_)
          refine ⟨(Kp.refl _ _).drewN _, ?_⟩
          repeat (first
            | (apply wpOrd_skip rfl (by decide) rfl; (focus (go_simp; rfl)))
            | (apply wpOrd_pure rfl rfl rfl; (focus (intro _ _; go_simp; (try go_ints); rfl)); (focus (go_simp; rfl)))
            | (apply wpOrd_read rfl rfl rfl; (focus (intro _; go_simp; (try go_ints); rfl)); (focus (go_simp; rfl))))
          refine wpOrd_nil (fun nq => ?_)
          go_wp2_with fail
          go_ret
          refine ⟨?_, (HK0.out.drewN _).drewN _⟩
          rw [HR.out]
          rfl
        · have d4 : decide (m ≤ 12) = true := decide_eq_true h4
          rcases Int.lt_or_le d 1 with h5 | h5
          · have d5 : decide (1 ≤ d) = false := by rw [decide_eq_false_iff_not]; omega
            have HR := Lib.hid (show r = false by rw [hr, d1, d2, d3, d4, d5]; rfl)
            clear hr h1 h2 h3 h4 h5
            go_enter Tryz.func55, Tryz.ntmps55
            go_wp2_with fail
            rw [← HW.out]
            refine wp_region_held' (Kp No _) [0,0,0,0,0,0,0,0,0,0,0,0,0,0,0,0,0,0,0,0,0,0,0,0,0,0,0,0,0,0,2,0,0,0] [0,1,2,3,4,5,6,7,8,9,10,11,12,13,14,15,16,17,18,19,20,21,22,23,24,26,28,25,27,29,30,31,32,33] (by kernel_rfl) (by kernel_rfl) (fun _ n h => h.drewN n) (Kp.refl _ _) ?_
            repeat (first
              | (apply wpOrd_skip rfl (by decide) rfl; (focus (go_simp; rfl)))
              | (apply wpOrd_pure rfl rfl rfl; (focus (intro _ _; go_simp; (try go_ints); rfl)); (focus (go_simp; rfl)))
              | (apply wpOrd_read rfl rfl rfl; (focus (intro _; go_simp; (try go_ints); rfl)); (focus (go_simp; rfl))))
            refine wpOrd_shutr rfl rfl rfl (by go_simp; try rfl) (fun ns => ?_)
            refine ⟨(Kp.refl _ _).drewN _, ?_⟩
            repeat (first
              | (apply wpOrd_skip rfl (by decide) rfl; (focus (go_simp; rfl)))
              | (apply wpOrd_pure rfl rfl rfl; (focus (intro _ _; go_simp; (try go_ints); rfl)); (focus (go_simp; rfl)))
              | (apply wpOrd_read rfl rfl rfl; (focus (intro _; go_simp; (try go_ints); rfl)); (focus (go_simp; rfl))))
            refine wpOrd_nil (fun nq => ?_)
            go_wp2_with fail
            go_ret
            refine ⟨?_, (HK0.out.drewN _).drewN _⟩
            rw [HR.out]
            rfl
          · have d5 : decide (1 ≤ d) = true := decide_eq_true h5
            have HR := Lib.hid (show r = decide (d ≤ (monF y.toNat m.toNat : Int)) by rw [hr, d1, d2, d3, d4, d5]; rfl)
            have hmon := (fun _ : y.toNat ≤ 20000 => Length_any y.toNat m.toNat) (by omega) (by omega)
            rw [show ((y.toNat : Nat) : Int) = y by omega, show ((m.toNat : Nat) : Int) = m by omega] at hmon
            have HM := Lib.hid hmon
            obtain ⟨L, hL⟩ : ∃ L, L = monF y.toNat m.toNat := ⟨_, rfl⟩
            rw [← hL] at HM HR
            clear hr h1 h2 h3 h4 h5 hmon hL
            go_enter Tryz.func55, Tryz.ntmps55
            go_wp2_with fail
            rw [← HW.out]
            refine wp_region_held' (Kp No _) [0,0,0,0,0,0,0,0,0,0,0,0,0,0,0,0,0,0,0,0,0,0,0,0,0,0,0,0,0,0,2,0,0,0] [0,1,2,3,4,5,6,7,8,9,10,11,12,13,14,15,16,17,18,19,20,21,22,23,24,26,28,25,27,29,30,31,32,33] (by kernel_rfl) (by kernel_rfl) (fun _ n h => h.drewN n) (Kp.refl _ _) ?_
            repeat (first
              | (apply wpOrd_skip rfl (by decide) rfl; (focus (go_simp; rfl)))
              | (apply wpOrd_pure rfl rfl rfl; (focus (intro _ _; go_simp; (try go_ints); rfl)); (focus (go_simp; rfl)))
              | (apply wpOrd_read rfl rfl rfl; (focus (intro _; go_simp; (try go_ints); rfl)); (focus (go_simp; rfl))))
            refine wpOrd_eff rfl rfl (fun n1 => ?_)
            go_wp2_with fail
            refine (HM.out _).mono ?_
            rintro e w2 ⟨rfl, rfl⟩
            go_wp2_with fail
            refine ⟨(Kp.refl _ _).drewN _, ?_⟩
            repeat (first
              | (apply wpOrd_skip rfl (by decide) rfl; (focus (go_simp; rfl)))
              | (apply wpOrd_pure rfl rfl rfl; (focus (intro _ _; go_simp; (try go_ints); rfl)); (focus (go_simp; rfl)))
              | (apply wpOrd_read rfl rfl rfl; (focus (intro _; go_simp; (try go_ints); rfl)); (focus (go_simp; rfl))))
            refine wpOrd_nil (fun nq => ?_)
            go_wp2_with fail
            go_ret
            refine ⟨?_, (HK0.out.drewN _).drewN _⟩
            rw [HR.out]
            rfl
end Go.Proofs.YtapikolgpmefbaaGreatDoor
