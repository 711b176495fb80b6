/-
  Stamps in order: hlc's Compare.
-/
import Derived.Test.YtojlccligmfcaaaMem
import Derived.Test.YtojlccligmfcaaaRegion
import Derived.Test.YtojlccligmfcaaaProg
namespace Go.Proofs.Ytojlccligmfcaaa
open Go.RowKit Go.Mer

/-- A stamp's value. -/
abbrev stv (m c : Int) : Value := .agg #[.int .i64 m, .int .i64 c]
def cmpI (x y : Int) : Int := if x < y then -1 else if y < x then 1 else 0
def cmpH (m c n d : Int) : Int := if m < n ∨ (m = n ∧ c < d) then -1 else if m = n ∧ c = d then 0 else 1
theorem cmpH_or (m c n d : Int) : cmpH m c n d = if cmpI m n ≠ 0 then cmpI m n else cmpI c d := by
  unfold cmpH cmpI
  repeat' split
  all_goals omega
theorem isNaN_any (x : Int) (w : World) : Calls Try.prog 26 #[.int .i64 x] w fun e w' => e = .returned (.bool false) ∧ w = w' := by
  go_enter Try.func26, Try.ntmps26
  go_wp2_with fail
  go_ret
  exact ⟨by simp, rfl⟩
theorem CmpI_any (x y : Int) (w : World) : Calls Try.prog 20 #[.int .i64 x, .int .i64 y] w fun e w' => e = .returned (.int .i64 (cmpI x y)) ∧ w = w' := by
  have hv : cmpI x y = if x < y then -1 else if y < x then 1 else 0 := rfl
  obtain ⟨r, hr⟩ : ∃ r, r = cmpI x y := ⟨_, rfl⟩
  rw [← hr] at hv ⊢
  have HV := Lib.hid hv
  clear hv hr
  rcases Int.lt_trichotomy x y with h | h | h
  · go_enter Try.func20, Try.ntmps20
    go_wp2_with fail
    refine (isNaN_any _ _).mono ?_
    rintro e w' ⟨rfl, rfl⟩
    go_wp2_with fail
    refine (isNaN_any _ _).mono ?_
    rintro e w' ⟨rfl, rfl⟩
    go_wp2_with fail
    go_ret
    exact ⟨by rw [HV.out, if_pos h]; rfl, rfl⟩
  · subst h
    go_enter Try.func20, Try.ntmps20
    go_wp2_with fail
    refine (isNaN_any _ _).mono ?_
    rintro e w' ⟨rfl, rfl⟩
    go_wp2_with fail
    refine (isNaN_any _ _).mono ?_
    rintro e w' ⟨rfl, rfl⟩
    go_wp2_with fail
    go_ret
    exact ⟨by rw [HV.out, if_neg (by omega), if_neg (by omega)]; rfl, rfl⟩
  · go_enter Try.func20, Try.ntmps20
    go_wp2_with fail
    refine (isNaN_any _ _).mono ?_
    rintro e w' ⟨rfl, rfl⟩
    go_wp2_with fail
    refine (isNaN_any _ _).mono ?_
    rintro e w' ⟨rfl, rfl⟩
    go_wp2_with fail
    go_ret
    exact ⟨by rw [HV.out, if_neg (by omega), if_pos h]; rfl, rfl⟩
theorem Or2_any (a b : Int) (w : World) (g cap : Nat) (hg : w.heap[g]? = some (.cells #[.int .i64 a, .int .i64 b] 3 (0, 0))) :
    Calls Try.prog 19 #[.slice (some ⟨g, 0, none⟩) 2 cap] w fun e w' => e = .returned (.int .i64 (if a ≠ 0 then a else b)) ∧ w = w' := by
  obtain ⟨r, hr⟩ : ∃ r, r = if a ≠ 0 then a else b := ⟨_, rfl⟩
  rw [← hr]
  have c0 := cell_at hg 0
  have c1 := cell_at hg 1
  simp at c0 c1
  have HR := Lib.hid hr
  clear hr hg
  go_enter Try.func19, Try.ntmps19
  go_wp2_with fail
  go_loop [8] (fun i => ∃ k : Nat, k ≤ 2 ∧ i = .int .i64 (k : Int) ∧ (k = 0 ∨ a = 0) ∧ (k ≤ 1 ∨ b = 0)) (fun i => 2 - (intOf i).toNat)
  case atStart => exact ⟨0, by omega, rfl, .inl rfl, .inl (by omega)⟩
  case round =>
    obtain ⟨k, hk, rfl, h0, h1⟩ := hrel
    have hk3 : k = 0 ∨ k = 1 ∨ k = 2 := by omega
    have HH := Lib.hid (And.intro h0 h1)
    clear h0 h1
    rcases hk3 with rfl | rfl | rfl
    · by_cases ha : a = 0
      · subst ha
        go_wp2_with fail
        go_round
        case rel => exact ⟨1, by omega, rfl, .inr trivial, .inl (by omega)⟩
        case measure => simp [intOf]
      · have hb : (a != 0) = true := by rw [bne_iff_ne]; exact ha
        have HA := Lib.hid ha
        clear ha
        go_wp2_with fail
        go_ret
        exact ⟨by rw [HR.out, if_pos HA.out]; rfl, rfl⟩
    · obtain rfl : a = 0 := HH.out.1.resolve_left (by omega)
      by_cases ha : b = 0
      · subst ha
        go_wp2_with fail
        go_round
        case rel => exact ⟨2, by omega, rfl, .inr trivial, .inr trivial⟩
        case measure => simp [intOf]
      · have hb : (b != 0) = true := by rw [bne_iff_ne]; exact ha
        clear ha
        go_wp2_with fail
        go_ret
        exact ⟨by rw [HR.out, if_neg (by omega)]; rfl, rfl⟩
    · obtain rfl : a = 0 := HH.out.1.resolve_left (by omega)
      obtain rfl : b = 0 := HH.out.2.resolve_left (by omega)
      go_wp2_with fail
      go_ret
      exact ⟨by rw [HR.out, if_neg (by omega)]; rfl, rfl⟩
/-- A call that leaves the world alone, in a region that draws. -/
theorem quietC {P : Program} {f : FuncId} {args : Array Value} {w : World} {v : Value} (c : ∀ W : World, Calls P f args W fun e w' => e = .returned v ∧ W = w') (n : Nat) :
    Calls P f args (w.drewN n) fun e w' => e = .returned v ∧ ∃ m, w' = (w.drewN n).drewN m :=
  (c _).mono fun _ _ ⟨h1, h2⟩ => ⟨h1, 0, by rw [← h2]; rfl⟩
theorem Compare_any (m c n d : Int) (w : World) : Calls Try.prog 15 #[stv m c, stv n d] w fun e w' => e = .returned (.int .i64 (cmpH m c n d)) ∧ Kp No w w' := by
  have hv := cmpH_or m c n d
  obtain ⟨r, hr⟩ : ∃ r, r = cmpH m c n d := ⟨_, rfl⟩
  rw [← hr] at hv ⊢
  have HV := Lib.hid hv
  clear hv hr
  go_enter Try.func15, Try.ntmps15
  go_wp2_with fail
  refine wp_region_ord [0,1,0,1,1,0,1,0,1,1,2,2,0] [0,2,5,7,1,3,4,6,8,9,10,11,12] (by kernel_rfl) (by kernel_rfl) ?_
  repeat (first
    | (apply wpOrd_skip rfl (by decide) rfl; (focus (go_simp; rfl)))
    | (apply wpOrd_pure rfl rfl rfl; (focus (intro _ _; go_simp; (try go_ints); rfl)); (focus (go_simp; rfl)))
    | (apply wpOrd_read rfl rfl rfl; (focus (intro _; go_simp; (try go_ints); rfl)); (focus (go_simp; rfl))))
  refine wpOrd_call rfl rfl rfl (fun n => (by go_simp; try rfl)) (quietC fun W => CmpI_any m n W) (by go_simp; try rfl) ?_
  repeat (first
    | (apply wpOrd_skip rfl (by decide) rfl; (focus (go_simp; rfl)))
    | (apply wpOrd_pure rfl rfl rfl; (focus (intro _ _; go_simp; (try go_ints); rfl)); (focus (go_simp; rfl)))
    | (apply wpOrd_read rfl rfl rfl; (focus (intro _; go_simp; (try go_ints); rfl)); (focus (go_simp; rfl))))
  refine wpOrd_call rfl rfl rfl (fun n => (by go_simp; try rfl)) (quietC fun W => CmpI_any c d W) (by go_simp; try rfl) ?_
  repeat (first
    | (apply wpOrd_skip rfl (by decide) rfl; (focus (go_simp; rfl)))
    | (apply wpOrd_pure rfl rfl rfl; (focus (intro _ _; go_simp; (try go_ints); rfl)); (focus (go_simp; rfl)))
    | (apply wpOrd_read rfl rfl rfl; (focus (intro _; go_simp; (try go_ints); rfl)); (focus (go_simp; rfl))))
  refine wpOrd_eff rfl rfl (fun n1 => ?_)
  go_wp2_with fail
  obtain ⟨W1, hW1⟩ : ∃ W, W = ((w.alloc (.cells #[.int .i64 m, .int .i64 c] 32)).alloc (.cells #[.int .i64 n, .int .i64 d] 32)).drewN n1 := ⟨_, rfl⟩
  rw [← hW1]
  have hk1 : Kp No w W1 := by rw [hW1]; exact (((Kp.refl _ _).alloc _).alloc _).drewN _
  have hs1 : W1.heap.size = w.heap.size + 1 + 1 := by rw [hW1]; simp
  have hg := heap_alloc_new W1 (.cells #[.int .i64 (cmpI m n), .int .i64 (cmpI c d)] 3)
  rw [hs1] at hg
  have hk2 : Kp No w (W1.alloc (.cells #[.int .i64 (cmpI m n), .int .i64 (cmpI c d)] 3)) := hk1.alloc _
  have hOr := fun n2 => Or2_any (cmpI m n) (cmpI c d) ((W1.alloc (.cells #[.int .i64 (cmpI m n), .int .i64 (cmpI c d)] 3)).drewN n2) (w.heap.size + 1 + 1) 2 hg
  rw [← HV.out] at hOr
  have HO := Lib.hid hOr
  clear hW1 hg hs1 hOr
  refine wpOrd_eff rfl rfl (fun n2 => ?_)
  go_wp2_with fail
  refine (HO.out n2).mono ?_
  rintro e w' ⟨rfl, rfl⟩
  go_wp2_with fail
  repeat (first
    | (apply wpOrd_skip rfl (by decide) rfl; (focus (go_simp; rfl)))
    | (apply wpOrd_pure rfl rfl rfl; (focus (intro _ _; go_simp; (try go_ints); rfl)); (focus (go_simp; rfl)))
    | (apply wpOrd_read rfl rfl rfl; (focus (intro _; go_simp; (try go_ints); rfl)); (focus (go_simp; rfl))))
  refine wpOrd_nil (fun nq => ?_)
  go_wp2_with fail
  go_ret
  exact ⟨rfl, (hk2.drewN _).drewN _⟩

end Go.Proofs.Ytojlccligmfcaaa
