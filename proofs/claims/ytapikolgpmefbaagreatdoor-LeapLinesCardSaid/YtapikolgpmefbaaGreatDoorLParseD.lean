/-
  A date's text: cal's Parse.
-/
import Derived.Test.YtapikolgpmefbaaGreatDoorLNum
import Derived.Test.YtapikolgpmefbaaGreatDoorLIsD
import Derived.Test.YtapikolgpmefbaaGreatDoorTree
import Derived.Deep.CutRange
namespace Go.Proofs.YtapikolgpmefbaaGreatDoor
open Go.RowKit Go.Mer

/-- The numbers that a date's text names. -/
def numsD (l : List UInt8) : Int × Int × Int := (numF (l.take 4), numF ((l.drop 5).take 2), numF (l.drop 8))
/-- The date that a text is. -/
def parseD (l : List UInt8) : Option (Int × Int × Int) :=
  if l.length = 10 ∧ l[4]? = some 45 ∧ l[7]? = some 45 ∧ isD (numsD l).1 (numsD l).2.1 (numsD l).2.2 = true then some (numsD l) else none
def parseV : Option (Int × Int × Int) → Value
  | none => .tuple #[dvI 0 0 0, .int .i64 10]
  | some x => .tuple #[dvI x.1 x.2.1 x.2.2, .int .i64 0]
theorem wpOrd_name {P : Program} {ops : Array Oper} {ks : List Nat} {S : World → Prop} {Q : Exit → Act → World → Prop} {o : List Nat} {a : Act} {w : World} {F : World → Prop} (h : ∀ V, F V → wpOrd P ops ks S Q o a V) (hw : F w) : wpOrd P ops ks S Q o a w := h w hw
theorem str_index (B : ByteArray) (k : Nat) (c : UInt8) (h : B.data.toList[k]? = some c) (W : World) : (Instr.index 9 (.string B) (.int .i64 (k : Int))).run Tryz.prog W = .ok (.int .u8 (c.toNat : Int)) W := by
  obtain ⟨hc, h2⟩ := List.getElem?_eq_some_iff.1 h
  have hc' : k < B.size := hc
  have e : c = B[k]'hc' := by rw [← h2]; rfl
  rw [run_index_string W 9 B .i64 (k : Int) Tryz.underlying9, dif_pos ⟨by omega, by omega⟩, e]
  rfl
set_option maxRecDepth 10000 in
set_option maxHeartbeats 2000000 in
theorem cParse_any (B : ByteArray) (w : World) : Calls Tryz.prog 46 #[.string B] w fun e w' => e = .returned (parseV (parseD B.data.toList)) ∧ Kp No w w' := by
  obtain ⟨r, hr⟩ : ∃ r, r = parseV (parseD B.data.toList) := ⟨_, rfl⟩
  rw [← hr]
  obtain ⟨W0, hW0⟩ : ∃ W0, W0 = w.alloc (.cells #[.int .i64 0, .int .i64 0, .int .i64 0] 66 (0, 0)) := ⟨_, rfl⟩
  have hb : W0.heap[w.heap.size]? = some (.cells #[.int .i64 0, .int .i64 0, .int .i64 0] 66 (0, 0)) := by rw [hW0]; exact heap_alloc_new w _
  have HK0 := Lib.hid (show Kp No w W0 by rw [hW0]; exact (Kp.refl _ _).alloc _)
  have HB := Lib.hid hb
  have HW := Lib.hid hW0
  clear hb hW0
  by_cases h10 : B.size = 10
  · have e10 : ((B.size : Int) == 10) = true := by rw [h10]; rfl
    have e10' : ((B.size : Int) != 10) = false := by rw [h10]; rfl
    obtain ⟨c4, hc4⟩ : ∃ c, B.data.toList[4]? = some c := ⟨B.data.toList[4]'(show 4 < B.size by omega), by simp⟩
    obtain ⟨c7, hc7⟩ : ∃ c, B.data.toList[7]? = some c := ⟨B.data.toList[7]'(show 7 < B.size by omega), by simp⟩
    have hi4 : ∀ W, (Instr.index 9 (.string B) (.int .i64 4)).run Tryz.prog W = .ok (.int .u8 (c4.toNat : Int)) W := str_index B 4 c4 hc4
    have hi7 : ∀ W, (Instr.index 9 (.string B) (.int .i64 7)).run Tryz.prog W = .ok (.int .u8 (c7.toNat : Int)) W := str_index B 7 c7 hc7
    have H10 := Lib.hid h10
    clear h10
    by_cases h4 : c4 = 45
    · subst h4
      by_cases h7 : c7 = 45
      · subst h7
        obtain ⟨y, hy⟩ : ∃ y, y = numF (B.data.toList.take 4) := ⟨_, rfl⟩
        obtain ⟨m, hm⟩ : ∃ y, y = numF ((B.data.toList.drop 5).take 2) := ⟨_, rfl⟩
        obtain ⟨d, hd⟩ : ∃ y, y = numF (B.data.toList.drop 8) := ⟨_, rfl⟩
        have hpd : parseD B.data.toList = if isD y m d = true then some (y, m, d) else none := by
          unfold parseD numsD
          rw [hc4, hc7, ← hy, ← hm, ← hd]
          have : B.data.toList.length = 10 := H10.out
          simp only [this, true_and]
        rw [hpd] at hr
        have hn1 := number_any (B.extract 0 4)
        have hn2 := number_any (B.extract 5 7)
        have hn3 := number_any (B.extract 8 10)
        rw [extract_list, List.drop_zero, Nat.sub_zero, ← hy] at hn1
        rw [extract_list, ← hm] at hn2
        rw [extract_list, List.take_of_length_le (by rw [List.length_drop]; have : B.data.toList.length = 10 := H10.out; omega), ← hd] at hn3
        have HN1 := Lib.hid (fun W => hn1 W (by rw [ByteArray.size_extract]; have := H10.out; omega))
        have HN2 := Lib.hid (fun W => hn2 W (by rw [ByteArray.size_extract]; have := H10.out; omega))
        have HN3 := Lib.hid (fun W => hn3 W (by rw [ByteArray.size_extract]; have := H10.out; omega))
        obtain ⟨X1, hX1⟩ : ∃ X, X = B.extract 0 4 := ⟨_, rfl⟩
        obtain ⟨X2, hX2⟩ : ∃ X, X = B.extract 5 7 := ⟨_, rfl⟩
        obtain ⟨X3, hX3⟩ : ∃ X, X = B.extract 8 10 := ⟨_, rfl⟩
        rw [← hX1] at HN1
        rw [← hX2] at HN2
        rw [← hX3] at HN3
        have HX := Lib.hid (And.intro hX1 (And.intro hX2 hX3))
        have HRR := Lib.hid hr
        clear hr hc4 hc7 hpd hn1 hn2 hn3 hX1 hX2 hX3 hy hm hd
        go_enter Tryz.func46, Tryz.ntmps46
        go_upto_region 3 with fail
        rw [← HW.out]
        go_cut [4] from 3 to 4 (fun v wx => ∃ g, v = .pointer (some ⟨g, 0, none⟩) ∧ Hid (wx.heap[g]? = some (.cells #[.int .i64 y, .int .i64 m, .int .i64 d] 66 (0, 0)) ∧ Kp No W0 wx))
        case first =>
          refine wp_region_tree (fun _ => True) [0,0,2,0,0,2,0,0,2,0,2,2] (.fork [0,1,3,4,6,7] 2 10 (.fork [] 5 10 (.fork [] 8 10 (.leaf [9,10,11]) (.leaf [8,9,11])) (.leaf [5,8,9,11])) (.leaf [2,5,8,9,11])) (by kernel_rfl) (by kernel_rfl) (fun _ _ _ => trivial) trivial ?_
          refine tree_fork ?_
          repeat (first
            | (apply wpOrd_skip rfl (by decide) rfl; (focus (go_simp; rfl)))
            | (apply wpOrd_pure rfl rfl rfl; (focus (intro _ _; go_simp; (try go_ints); rfl)); (focus (go_simp; rfl)))
            | (apply wpOrd_read rfl rfl rfl; (focus (intro _; go_simp; (try go_ints); rfl)); (focus (go_simp; rfl))))
          refine wpOrd_pure rfl rfl rfl (v := .string X1) ?_ rfl ?_
          · intro _ _
            rw [HX.out.1]
            have hsz := H10.out
            go_simp
            (try (intro h; exact absurd (h (by omega)) (by omega)))
          repeat (first
            | (apply wpOrd_skip rfl (by decide) rfl; (focus (go_simp; rfl)))
            | (apply wpOrd_pure rfl rfl rfl; (focus (intro _ _; go_simp; (try go_ints); rfl)); (focus (go_simp; rfl)))
            | (apply wpOrd_read rfl rfl rfl; (focus (intro _; go_simp; (try go_ints); rfl)); (focus (go_simp; rfl))))
          refine wpOrd_pure rfl rfl rfl (v := .string X2) ?_ rfl ?_
          · intro _ _
            rw [HX.out.2.1]
            have hsz := H10.out
            go_simp
            (try (intro h; exact absurd (h (by omega)) (by omega)))
          repeat (first
            | (apply wpOrd_skip rfl (by decide) rfl; (focus (go_simp; rfl)))
            | (apply wpOrd_pure rfl rfl rfl; (focus (intro _ _; go_simp; (try go_ints); rfl)); (focus (go_simp; rfl)))
            | (apply wpOrd_read rfl rfl rfl; (focus (intro _; go_simp; (try go_ints); rfl)); (focus (go_simp; rfl))))
          refine wpOrd_pure rfl rfl rfl (v := .string X3) ?_ rfl ?_
          · intro _ _
            rw [HX.out.2.2]
            have hsz := H10.out
            go_simp
            (try (intro h; exact absurd (h (by omega)) (by omega)))
          refine tree_both (fun _ => trivial) (fun n0 => ?_) (fun n0 => ?_)
          ·
            refine wpOrd_eff rfl rfl (fun q => ?_)
            go_wp2_with fail
            refine (HN1.out _).mono ?_
            rintro e w' ⟨rfl, rfl⟩
            go_wp2_with fail
            refine tree_next (fun n1 => ?_)
            refine tree_fork ?_
            refine tree_both (fun _ => trivial) (fun n2 => ?_) (fun n2 => ?_)
            ·
              refine wpOrd_eff rfl rfl (fun q => ?_)
              go_wp2_with fail
              refine (HN2.out _).mono ?_
              rintro e w' ⟨rfl, rfl⟩
              go_wp2_with fail
              refine tree_next (fun n3 => ?_)
              refine tree_fork ?_
              refine tree_both (fun _ => trivial) (fun n4 => ?_) (fun n4 => ?_)
              ·
                refine wpOrd_eff rfl rfl (fun q => ?_)
                go_wp2_with fail
                refine (HN3.out _).mono ?_
                rintro e w' ⟨rfl, rfl⟩
                go_wp2_with fail
                refine tree_next (fun n5 => ?_)
                refine tree_leaf ?_
                repeat (first
                  | (apply wpOrd_skip rfl (by decide) rfl; (focus (go_simp; rfl)))
                  | (apply wpOrd_pure rfl rfl rfl; (focus (intro _ _; go_simp; (try go_ints); rfl)); (focus (go_simp; rfl)))
                  | (apply wpOrd_read rfl rfl rfl; (focus (intro _; go_simp; (try go_ints); rfl)); (focus (go_simp; rfl))))
                refine wpOrd_eff rfl rfl (fun q => ?_)
                go_wp2_with fail
                refine wpOrd_name (F := fun V => V.heap[W0.heap.size]? = some (.cells #[.int .i64 0, .int .i64 0, .int .i64 0] 66 (0, 0)) ∧ Kp No W0 V) ?_ ⟨heap_alloc_new (W0.drewN _) _, by first | exact (((Kp.refl No W0).drewN _).alloc _).drewN _ | exact ((Kp.refl No W0).drewN _).alloc _⟩
                rintro V ⟨hv, hkv⟩
                have HV := Lib.hid hv
                have HKV := Lib.hid hkv
                clear hv hkv
                refine wpOrd_eff rfl rfl (fun q => ?_)
                have c0 : (V.drewN q).cell? ⟨W0.heap.size, 0, none⟩ = some (.int .i64 0) := cell_at HV.out 0
                have c1 : (V.drewN q).cell? ⟨W0.heap.size, 1, none⟩ = some (.int .i64 0) := cell_at HV.out 1
                have c2 : (V.drewN q).cell? ⟨W0.heap.size, 2, none⟩ = some (.int .i64 0) := cell_at HV.out 2
                have f0 : (V.drewN q).frozen? ⟨W0.heap.size, 0, none⟩ = false := free_at HV.out 0
                have f1 : (V.drewN q).frozen? ⟨W0.heap.size, 1, none⟩ = false := free_at HV.out 1
                have f2 : (V.drewN q).frozen? ⟨W0.heap.size, 2, none⟩ = false := free_at HV.out 2
                go_wp2_with fail
                refine wpOrd_nil (fun nq => ?_)
                clear c0 c1 c2 f0 f1 f2
                go_wp2_with fail
                go_meet
                case rel =>
                  refine ⟨_, rfl, Lib.hid ⟨?_, ?_⟩⟩
                  · exact set_at (set_at (set_at (w := V.drewN q) HV.out 0 _) 1 _) 2 _
                  · exact ((((HKV.out.drewN q).setCell (p := ⟨W0.heap.size, 0, none⟩) (.inr (Nat.le_refl _)) _).setCell (p := ⟨W0.heap.size, 1, none⟩) (.inr (Nat.le_refl _)) _).setCell (p := ⟨W0.heap.size, 2, none⟩) (.inr (Nat.le_refl _)) _).drewN nq
              ·
                refine wpOrd_eff rfl rfl (fun q => ?_)
                go_wp2_with fail
                refine tree_next (fun n5 => ?_)
                refine tree_leaf ?_
                refine wpOrd_eff rfl rfl (fun q => ?_)
                go_wp2_with fail
                refine (HN3.out _).mono ?_
                rintro e w' ⟨rfl, rfl⟩
                go_wp2_with fail
                repeat (first
                  | (apply wpOrd_skip rfl (by decide) rfl; (focus (go_simp; rfl)))
                  | (apply wpOrd_pure rfl rfl rfl; (focus (intro _ _; go_simp; (try go_ints); rfl)); (focus (go_simp; rfl)))
                  | (apply wpOrd_read rfl rfl rfl; (focus (intro _; go_simp; (try go_ints); rfl)); (focus (go_simp; rfl))))
                refine wpOrd_name (F := fun V => V.heap[W0.heap.size]? = some (.cells #[.int .i64 0, .int .i64 0, .int .i64 0] 66 (0, 0)) ∧ Kp No W0 V) ?_ ⟨heap_alloc_new (W0.drewN _) _, by first | exact (((Kp.refl No W0).drewN _).alloc _).drewN _ | exact ((Kp.refl No W0).drewN _).alloc _⟩
                rintro V ⟨hv, hkv⟩
                have HV := Lib.hid hv
                have HKV := Lib.hid hkv
                clear hv hkv
                refine wpOrd_eff rfl rfl (fun q => ?_)
                have c0 : (V.drewN q).cell? ⟨W0.heap.size, 0, none⟩ = some (.int .i64 0) := cell_at HV.out 0
                have c1 : (V.drewN q).cell? ⟨W0.heap.size, 1, none⟩ = some (.int .i64 0) := cell_at HV.out 1
                have c2 : (V.drewN q).cell? ⟨W0.heap.size, 2, none⟩ = some (.int .i64 0) := cell_at HV.out 2
                have f0 : (V.drewN q).frozen? ⟨W0.heap.size, 0, none⟩ = false := free_at HV.out 0
                have f1 : (V.drewN q).frozen? ⟨W0.heap.size, 1, none⟩ = false := free_at HV.out 1
                have f2 : (V.drewN q).frozen? ⟨W0.heap.size, 2, none⟩ = false := free_at HV.out 2
                go_wp2_with fail
                refine wpOrd_nil (fun nq => ?_)
                clear c0 c1 c2 f0 f1 f2
                go_wp2_with fail
                go_meet
                case rel =>
                  refine ⟨_, rfl, Lib.hid ⟨?_, ?_⟩⟩
                  · exact set_at (set_at (set_at (w := V.drewN q) HV.out 0 _) 1 _) 2 _
                  · exact ((((HKV.out.drewN q).setCell (p := ⟨W0.heap.size, 0, none⟩) (.inr (Nat.le_refl _)) _).setCell (p := ⟨W0.heap.size, 1, none⟩) (.inr (Nat.le_refl _)) _).setCell (p := ⟨W0.heap.size, 2, none⟩) (.inr (Nat.le_refl _)) _).drewN nq
            ·
              refine wpOrd_eff rfl rfl (fun q => ?_)
              go_wp2_with fail
              refine tree_next (fun n3 => ?_)
              refine tree_leaf ?_
              refine wpOrd_eff rfl rfl (fun q => ?_)
              go_wp2_with fail
              refine (HN2.out _).mono ?_
              rintro e w' ⟨rfl, rfl⟩
              go_wp2_with fail
              refine wpOrd_eff rfl rfl (fun q => ?_)
              go_wp2_with fail
              refine (HN3.out _).mono ?_
              rintro e w' ⟨rfl, rfl⟩
              go_wp2_with fail
              repeat (first
                | (apply wpOrd_skip rfl (by decide) rfl; (focus (go_simp; rfl)))
                | (apply wpOrd_pure rfl rfl rfl; (focus (intro _ _; go_simp; (try go_ints); rfl)); (focus (go_simp; rfl)))
                | (apply wpOrd_read rfl rfl rfl; (focus (intro _; go_simp; (try go_ints); rfl)); (focus (go_simp; rfl))))
              refine wpOrd_name (F := fun V => V.heap[W0.heap.size]? = some (.cells #[.int .i64 0, .int .i64 0, .int .i64 0] 66 (0, 0)) ∧ Kp No W0 V) ?_ ⟨heap_alloc_new (W0.drewN _) _, by first | exact (((Kp.refl No W0).drewN _).alloc _).drewN _ | exact ((Kp.refl No W0).drewN _).alloc _⟩
              rintro V ⟨hv, hkv⟩
              have HV := Lib.hid hv
              have HKV := Lib.hid hkv
              clear hv hkv
              refine wpOrd_eff rfl rfl (fun q => ?_)
              have c0 : (V.drewN q).cell? ⟨W0.heap.size, 0, none⟩ = some (.int .i64 0) := cell_at HV.out 0
              have c1 : (V.drewN q).cell? ⟨W0.heap.size, 1, none⟩ = some (.int .i64 0) := cell_at HV.out 1
              have c2 : (V.drewN q).cell? ⟨W0.heap.size, 2, none⟩ = some (.int .i64 0) := cell_at HV.out 2
              have f0 : (V.drewN q).frozen? ⟨W0.heap.size, 0, none⟩ = false := free_at HV.out 0
              have f1 : (V.drewN q).frozen? ⟨W0.heap.size, 1, none⟩ = false := free_at HV.out 1
              have f2 : (V.drewN q).frozen? ⟨W0.heap.size, 2, none⟩ = false := free_at HV.out 2
              go_wp2_with fail
              refine wpOrd_nil (fun nq => ?_)
              clear c0 c1 c2 f0 f1 f2
              go_wp2_with fail
              go_meet
              case rel =>
                refine ⟨_, rfl, Lib.hid ⟨?_, ?_⟩⟩
                · exact set_at (set_at (set_at (w := V.drewN q) HV.out 0 _) 1 _) 2 _
                · exact ((((HKV.out.drewN q).setCell (p := ⟨W0.heap.size, 0, none⟩) (.inr (Nat.le_refl _)) _).setCell (p := ⟨W0.heap.size, 1, none⟩) (.inr (Nat.le_refl _)) _).setCell (p := ⟨W0.heap.size, 2, none⟩) (.inr (Nat.le_refl _)) _).drewN nq
          ·
            refine wpOrd_eff rfl rfl (fun q => ?_)
            go_wp2_with fail
            refine tree_next (fun n3 => ?_)
            refine tree_leaf ?_
            refine wpOrd_eff rfl rfl (fun q => ?_)
            go_wp2_with fail
            refine (HN1.out _).mono ?_
            rintro e w' ⟨rfl, rfl⟩
            go_wp2_with fail
            refine wpOrd_eff rfl rfl (fun q => ?_)
            go_wp2_with fail
            refine (HN2.out _).mono ?_
            rintro e w' ⟨rfl, rfl⟩
            go_wp2_with fail
            refine wpOrd_eff rfl rfl (fun q => ?_)
            go_wp2_with fail
            refine (HN3.out _).mono ?_
            rintro e w' ⟨rfl, rfl⟩
            go_wp2_with fail
            repeat (first
              | (apply wpOrd_skip rfl (by decide) rfl; (focus (go_simp; rfl)))
              | (apply wpOrd_pure rfl rfl rfl; (focus (intro _ _; go_simp; (try go_ints); rfl)); (focus (go_simp; rfl)))
              | (apply wpOrd_read rfl rfl rfl; (focus (intro _; go_simp; (try go_ints); rfl)); (focus (go_simp; rfl))))
            refine wpOrd_name (F := fun V => V.heap[W0.heap.size]? = some (.cells #[.int .i64 0, .int .i64 0, .int .i64 0] 66 (0, 0)) ∧ Kp No W0 V) ?_ ⟨heap_alloc_new (W0.drewN _) _, by first | exact (((Kp.refl No W0).drewN _).alloc _).drewN _ | exact ((Kp.refl No W0).drewN _).alloc _⟩
            rintro V ⟨hv, hkv⟩
            have HV := Lib.hid hv
            have HKV := Lib.hid hkv
            clear hv hkv
            refine wpOrd_eff rfl rfl (fun q => ?_)
            have c0 : (V.drewN q).cell? ⟨W0.heap.size, 0, none⟩ = some (.int .i64 0) := cell_at HV.out 0
            have c1 : (V.drewN q).cell? ⟨W0.heap.size, 1, none⟩ = some (.int .i64 0) := cell_at HV.out 1
            have c2 : (V.drewN q).cell? ⟨W0.heap.size, 2, none⟩ = some (.int .i64 0) := cell_at HV.out 2
            have f0 : (V.drewN q).frozen? ⟨W0.heap.size, 0, none⟩ = false := free_at HV.out 0
            have f1 : (V.drewN q).frozen? ⟨W0.heap.size, 1, none⟩ = false := free_at HV.out 1
            have f2 : (V.drewN q).frozen? ⟨W0.heap.size, 2, none⟩ = false := free_at HV.out 2
            go_wp2_with fail
            refine wpOrd_nil (fun nq => ?_)
            clear c0 c1 c2 f0 f1 f2
            go_wp2_with fail
            go_meet
            case rel =>
              refine ⟨_, rfl, Lib.hid ⟨?_, ?_⟩⟩
              · exact set_at (set_at (set_at (w := V.drewN q) HV.out 0 _) 1 _) 2 _
              · exact ((((HKV.out.drewN q).setCell (p := ⟨W0.heap.size, 0, none⟩) (.inr (Nat.le_refl _)) _).setCell (p := ⟨W0.heap.size, 1, none⟩) (.inr (Nat.le_refl _)) _).setCell (p := ⟨W0.heap.size, 2, none⟩) (.inr (Nat.le_refl _)) _).drewN nq
        obtain ⟨g, rfl, HC⟩ := hcut
        have hc := HC.out.1
        have c0 := cell_at hc 0
        have c1 := cell_at hc 1
        have c2 := cell_at hc 2
        simp at c0 c1 c2
        have HIS := Lib.hid (fun W => cIs_any y m d W)
        unfold dvI at HIS
        cases hd : isD y m d with
        | false =>
          have HIS2 := Lib.hid (show ∀ W, Calls Tryz.prog 51 #[.agg #[.int .i64 y, .int .i64 m, .int .i64 d]] W fun e w' => e = .returned (.bool false) ∧ Kp No W w' from fun W => hd ▸ HIS.out W)
          have HR := Lib.hid (show r = parseV none by rw [HRR.out, hd]; rfl)
          clear hc hd HIS HRR
          go_wp2_with fail
          refine (HIS2.out _).mono ?_
          rintro e wx ⟨rfl, hkx⟩
          have hb2 := hkx.get (HC.out.2.get HB.out fun x => x) fun x => x
          have g2 := hkx.get HC.out.1 fun x => x
          have k0 := cell_at g2 0
          have k1 := cell_at g2 1
          have k2 := cell_at g2 2
          have z0 := cell_at hb2 0
          have z1 := cell_at hb2 1
          have z2 := cell_at hb2 2
          have f0 := free_at hb2 0
          have f1 := free_at hb2 1
          have f2 := free_at hb2 2
          simp at k0 k1 k2 z0 z1 z2
          have HKX := Lib.hid hkx
          have HB2 := Lib.hid hb2
          clear c0 c1 c2 hkx hb2 g2
          go_wp2_with fail
          obtain ⟨wf, hwf⟩ : ∃ W, W = ((wx.setCell ⟨w.heap.size, 0, none⟩ (.int .i64 0)).setCell ⟨w.heap.size, 1, none⟩ (.int .i64 0)).setCell ⟨w.heap.size, 2, none⟩ (.int .i64 0) := ⟨_, rfl⟩
          rw [← hwf]
          have hbf : wf.heap[w.heap.size]? = some (.cells #[.int .i64 0, .int .i64 0, .int .i64 0] 66 (0, 0)) := by rw [hwf]; exact set_at (set_at (set_at HB2.out 0 _) 1 _) 2 _
          have hkf : Kp No w wf := by rw [hwf]; exact (((HK0.out.trans_same HC.out.2).trans_same HKX.out).setCell (p := ⟨w.heap.size, 0, none⟩) (.inr (Nat.le_refl _)) _).setCell (p := ⟨w.heap.size, 1, none⟩) (.inr (Nat.le_refl _)) _ |>.setCell (p := ⟨w.heap.size, 2, none⟩) (.inr (Nat.le_refl _)) _
          have r0 : wf.cell? ⟨w.heap.size, 0, none⟩ = some (.int .i64 0) := cell_at hbf 0
          have r1 : wf.cell? ⟨w.heap.size, 1, none⟩ = some (.int .i64 0) := cell_at hbf 1
          have r2 : wf.cell? ⟨w.heap.size, 2, none⟩ = some (.int .i64 0) := cell_at hbf 2
          clear hwf
          exact bodyPost_ret (v := .tuple #[dvI 0 0 0, .int .i64 10]) (by simp [results, Tryz.results46, go_sem, dvI, r0, r1, r2]) rfl ⟨by rw [HR.out]; rfl, hkf⟩
        | true =>
          have HIS2 := Lib.hid (show ∀ W, Calls Tryz.prog 51 #[.agg #[.int .i64 y, .int .i64 m, .int .i64 d]] W fun e w' => e = .returned (.bool true) ∧ Kp No W w' from fun W => hd ▸ HIS.out W)
          have HR := Lib.hid (show r = parseV (some (y, m, d)) by rw [HRR.out, hd]; rfl)
          clear hc hd HIS HRR
          go_wp2_with fail
          refine (HIS2.out _).mono ?_
          rintro e wx ⟨rfl, hkx⟩
          have hb2 := hkx.get (HC.out.2.get HB.out fun x => x) fun x => x
          have g2 := hkx.get HC.out.1 fun x => x
          have k0 := cell_at g2 0
          have k1 := cell_at g2 1
          have k2 := cell_at g2 2
          have z0 := cell_at hb2 0
          have z1 := cell_at hb2 1
          have z2 := cell_at hb2 2
          have f0 := free_at hb2 0
          have f1 := free_at hb2 1
          have f2 := free_at hb2 2
          simp at k0 k1 k2 z0 z1 z2
          have HKX := Lib.hid hkx
          have HB2 := Lib.hid hb2
          clear c0 c1 c2 hkx hb2 g2
          go_wp2_with fail
          obtain ⟨wf, hwf⟩ : ∃ W, W = ((wx.setCell ⟨w.heap.size, 0, none⟩ (.int .i64 y)).setCell ⟨w.heap.size, 1, none⟩ (.int .i64 m)).setCell ⟨w.heap.size, 2, none⟩ (.int .i64 d) := ⟨_, rfl⟩
          rw [← hwf]
          have hbf : wf.heap[w.heap.size]? = some (.cells #[.int .i64 y, .int .i64 m, .int .i64 d] 66 (0, 0)) := by rw [hwf]; exact set_at (set_at (set_at HB2.out 0 _) 1 _) 2 _
          have hkf : Kp No w wf := by rw [hwf]; exact (((HK0.out.trans_same HC.out.2).trans_same HKX.out).setCell (p := ⟨w.heap.size, 0, none⟩) (.inr (Nat.le_refl _)) _).setCell (p := ⟨w.heap.size, 1, none⟩) (.inr (Nat.le_refl _)) _ |>.setCell (p := ⟨w.heap.size, 2, none⟩) (.inr (Nat.le_refl _)) _
          have r0 : wf.cell? ⟨w.heap.size, 0, none⟩ = some (.int .i64 y) := cell_at hbf 0
          have r1 : wf.cell? ⟨w.heap.size, 1, none⟩ = some (.int .i64 m) := cell_at hbf 1
          have r2 : wf.cell? ⟨w.heap.size, 2, none⟩ = some (.int .i64 d) := cell_at hbf 2
          clear hwf
          exact bodyPost_ret (v := .tuple #[dvI y m d, .int .i64 0]) (by simp [results, Tryz.results46, go_sem, dvI, r0, r1, r2]) rfl ⟨by rw [HR.out]; rfl, hkf⟩
      · have HR := Lib.hid (show r = parseV none by rw [hr, parseD, if_neg]; rintro ⟨_, _, h, _⟩; rw [hc7] at h; exact h7 (by simpa using h))
        have e7 : ((c7.toNat : Int) == 45) = false := by
          rw [beq_eq_false_iff_ne]; intro h; exact h7 (UInt8.toNat_inj.1 (show c7.toNat = 45 by omega))
        have e7' : ((c7.toNat : Int) != 45) = true := by rw [bne, e7]; rfl
        clear hr hc4 hc7 h7 
        go_enter Tryz.func46, Tryz.ntmps46
        go_wp2_with fail
        refine bodyPost_ret (v := .tuple #[dvI 0 0 0, .int .i64 10]) (by simp [results, Tryz.results46, go_sem, dvI]) rfl ⟨?_, (Kp.refl _ _).alloc _⟩
        rw [HR.out]
        rfl
    · have HR := Lib.hid (show r = parseV none by rw [hr, parseD, if_neg]; rintro ⟨_, h, _⟩; rw [hc4] at h; exact h4 (by simpa using h))
      have e7 : ((c4.toNat : Int) == 45) = false := by
        rw [beq_eq_false_iff_ne]; intro h; exact h4 (UInt8.toNat_inj.1 (show c4.toNat = 45 by omega))
      have e7' : ((c4.toNat : Int) != 45) = true := by rw [bne, e7]; rfl
      clear hr hc4 hc7 h4
      go_enter Tryz.func46, Tryz.ntmps46
      go_wp2_with fail
      refine bodyPost_ret (v := .tuple #[dvI 0 0 0, .int .i64 10]) (by simp [results, Tryz.results46, go_sem, dvI]) rfl ⟨?_, (Kp.refl _ _).alloc _⟩
      rw [HR.out]
      rfl
  · have HR := Lib.hid (show r = parseV none by rw [hr, parseD, if_neg]; rintro ⟨h, _⟩; exact h10 h)
    have e10 : ((B.size : Int) == 10) = false := by rw [beq_eq_false_iff_ne]; omega
    have e10' : ((B.size : Int) != 10) = true := by rw [bne, e10]; rfl
    have H10 := Lib.hid h10
    clear hr h10
    go_enter Tryz.func46, Tryz.ntmps46
    go_wp2_with fail
    refine bodyPost_ret (v := .tuple #[dvI 0 0 0, .int .i64 10]) (by simp [results, Tryz.results46, go_sem, dvI]) rfl ⟨?_, (Kp.refl _ _).alloc _⟩
    rw [HR.out]
    rfl
end Go.Proofs.YtapikolgpmefbaaGreatDoor
