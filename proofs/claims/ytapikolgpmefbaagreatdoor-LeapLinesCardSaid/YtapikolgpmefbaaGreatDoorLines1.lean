/-
  What strings.Lines hands back, as an iterator: line by line.
-/
import Derived.Test.YtapikolgpmefbaaGreatDoorLnPlain
import Derived.Test.YtapikolgpmefbaaGreatDoorRange
import Derived.Test.YtapikolgpmefbaaGreatDoorRegion
import Derived.Test.YtapikolgpmefbaaGreatDoorShelf
import Derived.Test.YtapikolgpmefbaaGreatDoorLTab
import Derived.Deep.CutRange
namespace Go.Proofs.YtapikolgpmefbaaGreatDoor
open Go.RowKit Go.Mer

def szAt (b : Nat) (W : World) : Nat := match W.cell? ⟨b, 0, none⟩ with
  | some (.string s) => s.size
  | _ => 0
theorem Lines1_iter (b : Nat) (s : List UInt8) (hs : s.length ≤ 1000000) : IterAt Tryz.prog 39 b 9 ((linesOf s).map strV) (fun k => strV (restL s k)) := by
  intro l J Jx W hJ hJx hY h0 hb0
  have HS := Lib.hid hs
  have HJ := Lib.hid hJ
  have HJX := Lib.hid hJx
  have HY := Lib.hid hY
  have H0 := Lib.hid h0
  have HB0 := Lib.hid hb0
  clear hs hJ hJx hY h0 hb0
  go_enter Tryz.func39, Tryz.ntmps39
  go_wp2_with fail
  go_loopw [3] (fun _ wr => ∃ k : Nat, Hid (wr.heap[b]? = some (.cells #[strV (restL s k)] 9 (0, 0)) ∧ k ≤ (linesOf s).length ∧ J k wr)) (fun _ wr => szAt b wr)
  case atStart => exact ⟨0, Lib.hid ⟨HB0.out, Nat.zero_le _, H0.out⟩⟩
  case round =>
    obtain ⟨k, HK⟩ := hrel
    obtain ⟨B, hB⟩ : ∃ B : ByteArray, B = ⟨(restL s k).toArray⟩ := ⟨_, rfl⟩
    have c0 := cell_at HK.out.1 0
    rw [show strV (restL s k) = .string B by rw [hB]; rfl] at c0
    simp at c0
    have f0 := free_at HK.out.1 0
    rcases Nat.eq_zero_or_pos B.size with hz | hz
    · have he : restL s k = [] := by
        have : (restL s k).length = 0 := by rw [hB] at hz; simpa [ByteArray.size] using hz
        exact List.length_eq_zero_iff.1 this
      have HE := Lib.hid he
      have bz : decide (0 < B.size) = false := by rw [decide_eq_false_iff_not]; omega
      clear he hz hB
      go_wp2_with fail
      go_end0
      refine ⟨⟨_, rfl⟩, .inl ?_⟩
      rw [List.length_map, ← linesOf_end s k HK.out.2.1 HE.out]
      exact HK.out.2.2
    · have he : restL s k ≠ [] := by
        intro h
        rw [hB, h] at hz
        simp [ByteArray.size] at hz
      have HE := Lib.hid he
      have HBl := Lib.hid (show B.data.toList = restL s k by rw [hB])
      have hss : B.size ≤ 1000000 := by
        have : ∀ k, (restL s k).length ≤ s.length := by
          intro k
          induction k with
          | zero => exact Nat.le_refl _
          | succ k ih => 
            rw [restL]
            by_cases h : restL s k = []
            · rw [h]; exact Nat.zero_le _
            · have := lnTl_lt _ h; omega
        have h1 := this k
        have h2 := HS.out
        rw [hB]
        simp only [ByteArray.size, List.size_toArray]
        omega
      have bz : decide (0 < B.size) = true := decide_eq_true hz
      have hidx := Tryz.strings_IndexByte B 10 wr
      obtain ⟨i, hi⟩ : ∃ i, i = Lib.indexByte B.data.toList 10 := ⟨_, rfl⟩
      rw [show (10 : Int).toNat.toUInt8 = 10 from rfl, ← hi] at hidx
      have HI := Lib.hid hi
      have HX := Lib.hid hidx
      clear hi hidx he hB
      rcases Int.lt_or_le i 0 with hn | hn
      · have bi : decide (0 ≤ i) = false := by rw [decide_eq_false_iff_not]; omega
        go_wp2_with fail
        refine HX.out.mono ?_
        rintro e w' ⟨rfl, rfl⟩
        go_upto_region 6 with fail
        obtain ⟨W3, hW3⟩ : ∃ W, W = w'.setCell ⟨b, 0, none⟩ (.string { data := #[] }) := ⟨_, rfl⟩
        rw [← hW3]
        have h1 : i = -1 := by have := Lib.indexByte_ge B.data.toList 10; have := HI.out; omega
        obtain ⟨e1, e2⟩ := lnHd_none (restL s k) (by rw [← HBl.out, ← HI.out, h1])
        have hkk : Kp (Mer.One b) w' W3 := by rw [hW3]; exact (Kp.refl (Mer.One b) _).setCell (p := ⟨b, 0, none⟩) (.inl rfl) _
        have hb3 : W3.heap[b]? = some (.cells #[strV (restL s (k + 1))] 9 (0, 0)) := by
          rw [hW3, set_at HK.out.1, restL, e2]; rfl
        have hx : ((linesOf s).map strV)[k]? = some (.string B) := by
          rw [List.getElem?_map, linesOf_get s k HE.out, e1]
          rw [ba_eq B _ HBl.out]; rfl
        clear hW3 e1 e2 h1
        obtain ⟨fn, tmps, assign, body, hy, hR⟩ := HY.out k _ W3 hx (HJ.out _ _ _ HK.out.2.2 hkk) hb3
        have HR := Lib.hid hR
        have HKK := Lib.hid HK.out.2.1
        have HM := Lib.hid (show B.size = szAt b w' by unfold szAt; rw [c0])
        clear hx hb3 hkk hR c0 f0
        refine (wpIn_wide (n := 1)).1 ?_
        gi_wp2_with fail
        refine HR.out.mono ?_
        rintro e W4 (⟨rfl, hJ4, hb4⟩ | ⟨rfl, hJx4⟩)
        · have HB4 := Lib.hid hb4
          have HJ4 := Lib.hid hJ4
          clear hb4 hJ4
          gi_wp2_with fail
          go_wp2_with fail
          go_round
          · refine ⟨k + 1, Lib.hid ⟨HB4.out, restL_ne s k HE.out, HJ4.out⟩⟩
          · rw [← HM.out]
            unfold szAt
            rw [cell_at HB4.out 0]
            show (ByteArray.mk (restL s (k + 1)).toArray).size < B.size
            have := lnTl_lt _ HE.out
            have h2 : B.size = (restL s k).length := by rw [← HBl.out]; rfl
            rw [h2]
            exact this
        · have HJ4 := Lib.hid hJx4
          clear hJx4
          gi_wp2_with fail
          go_wp2_with fail
          refine bodyPost_ret (results_none rfl _ _ _) rfl ?_
          exact ⟨⟨_, rfl⟩, .inr HJ4.out⟩
      · have bi : decide (0 ≤ i) = true := decide_eq_true hn
        go_wp2_with fail
        refine HX.out.mono ?_
        rintro e w' ⟨rfl, rfl⟩
        go_wp2_with fail
        obtain ⟨j, hj⟩ : ∃ j : Nat, i = (j : Int) := ⟨i.toNat, by omega⟩
        subst hj
        obtain ⟨e1, e2⟩ := lnHd_index (restL s k) j (by rw [← HBl.out, ← HI.out])
        have hjl : j < B.size := by
          have := (Lib.indexByte_some HI.out.symm).1
          have := (List.getElem?_eq_some_iff.1 this).1
          exact this
        have hw : wrap64 ((j : Int) + 1) = ((j + 1 : Nat) : Int) := by rw [IntWalk.wrap64_in _ (by omega)]; push_cast; rfl
        have hl1 : j + 1 ≤ B.size := hjl
        have E1 := Lib.hid e1
        have E2 := Lib.hid e2
        have HJL := Lib.hid hjl
        clear e1 e2 hjl
        refine wp_region_ord [1,0,0,0,1,0,0,0,0,2] [1,2,5,6,0,3,8,4,7,9] (by kernel_rfl) (by kernel_rfl) ?_
        repeat (first
          | (apply wpOrd_skip rfl (by decide) rfl; (focus (go_simp; rfl)))
          | (apply wpOrd_pure rfl rfl rfl; (focus (intro _ _; go_simp; (try go_ints); rfl)); (focus (go_simp; rfl)))
          | (apply wpOrd_read rfl rfl rfl; (focus (intro _; go_simp; (try go_ints); rfl)); (focus (go_simp; rfl))))
        refine wpOrd_pure rfl rfl rfl (v := .string (B.extract 0 (j + 1))) ?_ rfl ?_
        · intro _ _
          go_simp
          intro h
          exact absurd (h (by omega)) (by omega)
        repeat (first
          | (apply wpOrd_skip rfl (by decide) rfl; (focus (go_simp; rfl)))
          | (apply wpOrd_pure rfl rfl rfl; (focus (intro _ _; go_simp; (try go_ints); rfl)); (focus (go_simp; rfl)))
          | (apply wpOrd_read rfl rfl rfl; (focus (intro _; go_simp; (try go_ints); rfl)); (focus (go_simp; rfl))))
        refine wpOrd_pure rfl rfl rfl (v := .string (B.extract (j + 1) B.size)) ?_ rfl ?_
        · intro _ _
          go_simp
          intro h
          exact absurd (h (by omega)) (by omega)
        repeat (first
          | (apply wpOrd_skip rfl (by decide) rfl; (focus (go_simp; rfl)))
          | (apply wpOrd_pure rfl rfl rfl; (focus (intro _ _; go_simp; (try go_ints); rfl)); (focus (go_simp; rfl)))
          | (apply wpOrd_read rfl rfl rfl; (focus (intro _; go_simp; (try go_ints); rfl)); (focus (go_simp; rfl))))
        obtain ⟨X, hX⟩ : ∃ X, X = B.extract 0 (j + 1) := ⟨_, rfl⟩
        obtain ⟨Y, hY⟩ : ∃ Y, Y = B.extract (j + 1) B.size := ⟨_, rfl⟩
        rw [← hX, ← hY]
        have hXl : X.data.toList = lnHd (restL s k) := by rw [hX, extract_list, HBl.out, E1.out, List.drop_zero, Nat.sub_zero]
        have hYl : Y.data.toList = lnTl (restL s k) := by
          rw [hY, extract_list, HBl.out, E2.out, List.take_of_length_le]
          rw [List.length_drop, ← HBl.out]
          exact Nat.le_refl _
        have HX' := Lib.hid hXl
        have HY' := Lib.hid hYl
        clear hX hY hXl hYl
        refine wpOrd_eff rfl rfl (fun m => ?_)
        go_wp2_with fail
        refine wpOrd_nil (fun nq => ?_)
        go_upto_region 6 with fail
        obtain ⟨W3, hW3⟩ : ∃ W, W = ((w'.drewN m).setCell ⟨b, 0, none⟩ (.string Y)).drewN nq := ⟨_, rfl⟩
        rw [← hW3]
        have hkk : Kp (Mer.One b) w' W3 := by rw [hW3]; exact (((Kp.refl (Mer.One b) w').drewN m).setCell (p := ⟨b, 0, none⟩) (.inl rfl) _).drewN nq
        have hb3 : W3.heap[b]? = some (.cells #[strV (restL s (k + 1))] 9 (0, 0)) := by
          rw [hW3]
          refine (set_at (w := w'.drewN m) HK.out.1 0 (.string Y)).trans ?_
          rw [restL, ba_eq Y _ HY'.out]; rfl
        have hx : ((linesOf s).map strV)[k]? = some (.string X) := by
          rw [List.getElem?_map, linesOf_get s k HE.out, ba_eq X _ HX'.out]; rfl
        clear hW3
        obtain ⟨fn, tmps, assign, body, hy, hR⟩ := HY.out k _ W3 hx (HJ.out _ _ _ HK.out.2.2 hkk) hb3
        have HR := Lib.hid hR
        have HKK := Lib.hid HK.out.2.1
        have HM := Lib.hid (show B.size = szAt b w' by unfold szAt; rw [c0])
        clear hx hb3 hkk hR c0 f0
        refine (wpIn_wide (n := 1)).1 ?_
        gi_wp2_with fail
        refine HR.out.mono ?_
        rintro e W4 (⟨rfl, hJ4, hb4⟩ | ⟨rfl, hJx4⟩)
        · have HB4 := Lib.hid hb4
          have HJ4 := Lib.hid hJ4
          clear hb4 hJ4
          gi_wp2_with fail
          go_wp2_with fail
          go_round
          · refine ⟨k + 1, Lib.hid ⟨HB4.out, restL_ne s k HE.out, HJ4.out⟩⟩
          · rw [← HM.out]
            unfold szAt
            rw [cell_at HB4.out 0]
            show (ByteArray.mk (restL s (k + 1)).toArray).size < B.size
            have := lnTl_lt _ HE.out
            have h2 : B.size = (restL s k).length := by rw [← HBl.out]; rfl
            rw [h2]
            exact this
        · have HJ4 := Lib.hid hJx4
          clear hJx4
          gi_wp2_with fail
          go_wp2_with fail
          refine bodyPost_ret (results_none rfl _ _ _) rfl ?_
          exact ⟨⟨_, rfl⟩, .inr HJ4.out⟩
end Go.Proofs.YtapikolgpmefbaaGreatDoor
