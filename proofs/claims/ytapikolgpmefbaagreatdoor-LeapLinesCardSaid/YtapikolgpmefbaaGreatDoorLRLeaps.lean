/-
  May leaps be a table's: the reference's leaps.
-/
import Derived.Test.YtapikolgpmefbaaGreatDoorLRows
import Derived.Test.YtapikolgpmefbaaGreatDoorLFollows2
namespace Go.Proofs.YtapikolgpmefbaaGreatDoor
open Go.RowKit Go.Mer

theorem followF_bad {L : List (Int × Int)} {x : Int × Int} (h : 100 ≤ L.length ∨ inF x.1 = false ∨ x.2 < 0 ∨ 1000 < x.2) : followF L x = false := by
  unfold followF
  rcases h with h | h | h | h
  · rw [show decide (L.length < 100) = false by rw [decide_eq_false_iff_not]; omega]; simp
  · simp [h]
  · rw [show decide (0 ≤ x.2) = false by rw [decide_eq_false_iff_not]; omega]; simp
  · rw [show decide (x.2 ≤ 1000) = false by rw [decide_eq_false_iff_not]; omega]; simp
theorem followF_good {L : List (Int × Int)} {x y : Int × Int} {k : Nat} (hy : L[k]? = some y) (hk : k + 1 < 100) (hi : inF x.1 = true) (h0 : 0 ≤ x.2) (h1 : x.2 ≤ 1000) : followF (L.take (k + 1)) x = followG x.1 x.2 y.1 y.2 := by
  have hlt := (List.getElem?_eq_some_iff.1 hy).1
  have hl : (L.take (k + 1)).getLast? = some y := by
    rw [List.getLast?_eq_getElem?, List.length_take, Nat.min_eq_left (by omega), Nat.add_sub_cancel, List.getElem?_take, if_pos (by omega), hy]
  have hn : (L.take (k + 1)).length = k + 1 := by rw [List.length_take]; omega
  unfold followF followG
  rw [hl, hn]
  simp only [hi, h0, h1, hk, decide_true, Bool.and_true, Bool.true_and]
set_option maxRecDepth 4000 in
set_option maxHeartbeats 4000000 in
theorem rleaps_any (L : List (Int × Int)) (w : World) (a : Option Addr) (cap B : Nat) (hR : Rd w B a (tbV L)) (hl : L.length ≤ 1000000) :
    Calls Tryz.prog 29 #[.slice a L.length cap] w fun e w' => e = .returned (.bool (leapsF [] L)) ∧ Kp No w w' := by
  have HI := Lib.hid rIn_any
  obtain ⟨r, hr⟩ : ∃ r, r = leapsF [] L := ⟨_, rfl⟩
  rw [← hr]
  have HRV := Lib.hid hr
  have HRD := Lib.hid hR
  have HLN := Lib.hid hl
  clear hr hR hl
  obtain ⟨K, hK⟩ : ∃ K, K = L.length := ⟨_, rfl⟩
  rw [← hK]
  have HK := Lib.hid hK
  clear hK
  go_enter Tryz.func29, Tryz.ntmps29
  go_wp2_with fail
  go_loopw [3] (fun i wr => ∃ k : Nat, k ≤ K ∧ i = .int .i64 (k : Int) ∧ Hid (Fol L k) ∧ Hid (Kp No w wr)) (fun i _ => K - (intOf i).toNat)
  case atStart => exact ⟨0, by omega, rfl, Lib.hid (Fol.zero L), Lib.hid (Kp.refl _ _)⟩
  case round =>
    obtain ⟨k, hk, rfl, HF, HKW⟩ := hrel
    rcases Nat.lt_or_ge k K with hc | hc
    · obtain ⟨x, hx⟩ : ∃ x, L[k]? = some x := ⟨L[k]'(by rw [← HK.out]; exact hc), by simp⟩
      obtain ⟨t1, t2⟩ := tbV_at _ _ _ hx
      have hRw := HRD.out.keep HKW.out fun _ _ x => x
      obtain ⟨g, off, rfl, hgB, hB, q0⟩ := hRw.at_ t1
      obtain ⟨g', off', hg', _, _, q1⟩ := hRw.at_ t2
      obtain ⟨rfl, rfl⟩ : g = g' ∧ off = off' := by simpa using hg'
      rw [Nat.mul_comm 2] at q0 q1
      rw [← Nat.add_assoc] at q1
      have HX := Lib.hid (And.intro hk hx)
      have hkc : decide (k < K) = true := by rw [decide_eq_true_iff]; exact hc
      have HGB := Lib.hid (Nat.lt_of_lt_of_le hgB hB)
      have HTL := Lib.hid (show (L.take k).length = k by rw [List.length_take]; have := HK.out; omega)
      have hRD := hRw
      clear hk hx t1 t2 hRw hg' hgB hB
      rcases Nat.lt_or_ge k 100 with h1 | h1
      · have b1 : decide ((100 : Int) ≤ (k : Int)) = false := by rw [decide_eq_false_iff_not]; omega
        have b1' : decide (100 ≤ k) = false := by rw [decide_eq_false_iff_not]; omega
        have H1 := Lib.hid h1
        clear h1
        cases h2 : inF x.1 with
        | false =>
          have HFF := Lib.hid (followF_bad (L := L.take k) (.inr (.inl h2)))
          have H2 := Lib.hid h2
          clear h2
          go_wp2_with fail
          refine (HI.out _ _).mono ?_
          rintro e w' ⟨rfl, rfl⟩
          rw [H2.out]
          go_wp2_with fail
          go_ret
          refine ⟨?_, HKW.out⟩
          rw [HRV.out, Fol.no HX.out.2 HFF.out]
          rfl
        | true =>
          have H2 := Lib.hid h2
          clear h2
          rcases Int.lt_or_le x.2 0 with h3 | h3
          · have HFF := Lib.hid (followF_bad (L := L.take k) (x := x) (.inr (.inr (.inl h3))))
            have b3 : decide (x.2 < 0) = true := by rw [decide_eq_true_iff]; exact h3
            clear h3
            go_wp2_with fail
            refine (HI.out _ _).mono ?_
            rintro e w' ⟨rfl, rfl⟩
            rw [H2.out]
            go_wp2_with fail
            go_ret
            refine ⟨?_, HKW.out⟩
            rw [HRV.out, Fol.no HX.out.2 HFF.out]
            rfl
          · have b3 : decide (x.2 < 0) = false := by rw [decide_eq_false_iff_not]; omega
            have H3 := Lib.hid h3
            clear h3
            rcases Int.lt_or_le 1000 x.2 with h4 | h4
            · have HFF := Lib.hid (followF_bad (L := L.take k) (x := x) (.inr (.inr (.inr h4))))
              have b4 : decide (1000 < x.2) = true := by rw [decide_eq_true_iff]; exact h4
              clear h4
              go_wp2_with fail
              refine (HI.out _ _).mono ?_
              rintro e w' ⟨rfl, rfl⟩
              rw [H2.out]
              go_wp2_with fail
              go_ret
              refine ⟨?_, HKW.out⟩
              rw [HRV.out, Fol.no HX.out.2 HFF.out]
              rfl
            · have b4 : decide (1000 < x.2) = false := by rw [decide_eq_false_iff_not]; omega
              have H4 := Lib.hid h4
              clear h4
              rcases Nat.eq_zero_or_pos k with rfl | hkp
              · have HFF := Lib.hid (show followF (L.take 0) x = true by simp [followF, H2.out, H3.out, H4.out])
                have HL := Lib.hid (HF.out.succ HX.out.2 HFF.out)
                simp only [Nat.zero_mul, Nat.add_zero] at q0 q1
                go_wp2_with fail
                refine (HI.out _ _).mono ?_
                rintro e w' ⟨rfl, rfl⟩
                rw [H2.out]
                go_wp2_with fail
                go_round
                · exact ⟨1, by omega, rfl, HL, HKW⟩
                · simp only [intOf, Int.toNat_natCast]; omega
              · obtain ⟨j, hj⟩ : ∃ j, j = k - 1 := ⟨_, rfl⟩
                have hkj : k = j + 1 := by omega
                obtain ⟨y, hy⟩ : ∃ y, L[j]? = some y := ⟨L[j]'(by rw [← HK.out]; omega), by simp⟩
                have HFG := Lib.hid (show followF (L.take k) x = followG x.1 x.2 y.1 y.2 by rw [hkj]; exact followF_good hy (by rw [← hkj]; exact H1.out) H2.out H3.out H4.out)
                obtain ⟨t1, t2⟩ := tbV_at _ _ _ hy
                have hRw := hRD
                obtain ⟨g', off', hg', hgB, hB, p0⟩ := hRw.at_ t1
                obtain ⟨rfl, rfl⟩ : g = g' ∧ off = off' := by simpa using hg'
                obtain ⟨g', off', hg', _, _, p1⟩ := hRw.at_ t2
                obtain ⟨rfl, rfl⟩ : g = g' ∧ off = off' := by simpa using hg'
                rw [Nat.mul_comm 2] at p0 p1
                rw [← Nat.add_assoc] at p1
                have bz : ((k : Int) == 0) = false := by simpa using (show ¬ ((k : Int) = 0) by omega)
                have hw : wrap64 ((k : Int) - 1) = (j : Int) := by rw [IntWalk.wrap64_in _ (by have := HLN.out; have := HK.out; omega)]; omega
                have hjk : decide (j < K) = true := by rw [decide_eq_true_iff]; omega
                have hjK : j < K := by omega
                have HD := Lib.hid (rDate_any x.1)
                have HKJ := Lib.hid hkj
                clear hg' hgB hB hRw t1 t2 hkj hj
                go_wp2_with fail
                refine (HI.out _ _).mono ?_
                rintro e w' ⟨rfl, rfl⟩
                rw [H2.out]
                go_wp2_with fail
                have hdv : dateV x.1 = .tuple #[dtv (ymdF (x.1 + 719162).toNat).1 (ymdF (x.1 + 719162).toNat).2.1 (ymdF (x.1 + 719162).toNat).2.2, .int .i64 0] := if_pos H2.out
                rw [hdv] at HD
                clear hdv
                obtain ⟨y1, hy1⟩ : ∃ v, v = (ymdF (x.1 + 719162).toNat).1 := ⟨_, rfl⟩
                obtain ⟨y2, hy2⟩ : ∃ v, v = (ymdF (x.1 + 719162).toNat).2.1 := ⟨_, rfl⟩
                obtain ⟨y3, hy3⟩ : ∃ v, v = (ymdF (x.1 + 719162).toNat).2.2 := ⟨_, rfl⟩
                obtain ⟨r', hr'⟩ : ∃ r', r' = followG x.1 x.2 y.1 y.2 := ⟨_, rfl⟩
                rw [← hr'] at HFG
                unfold followG at hr'
                rw [← hy1, ← hy2, ← hy3] at HD
                rw [← hy3] at hr'
                obtain ⟨D, hD⟩ : ∃ D, D = x.2 - y.2 := ⟨_, rfl⟩
                have hy0 : 0 ≤ y.2 ∧ y.2 ≤ 1000 := by
                  refine HF.out.last y ?_
                  rw [List.getLast?_eq_getElem?, HTL.out, List.getElem?_take, if_pos (by omega), show k - 1 = j by have := HKJ.out; omega]
                  exact hy
                have hw2 : wrap64 (x.2 - y.2) = D := by rw [hD]; exact IntWalk.wrap64_in _ (by have := H3.out; have := H4.out; omega)
                rw [show (decide (x.2 = y.2 + 1) || decide (x.2 = y.2 - 1)) = (decide (D = 1) || decide (D = -1)) by rw [show decide (x.2 = y.2 + 1) = decide (D = 1) by rw [decide_eq_decide]; omega, show decide (x.2 = y.2 - 1) = decide (D = -1) by rw [decide_eq_decide]; omega]] at hr'
                have HR' := Lib.hid hr'
                clear hr' hy1 hy2 hy3 hD hy0 hy
                refine (HD.out _).mono ?_
                rintro e w2 ⟨rfl, hk2⟩
                have kp0 := hk2.cell HGB.out (fun x => x) |>.trans p0
                have kp1 := hk2.cell (p := ⟨g, off + j * 2 + 1, none⟩) HGB.out (fun x => x) |>.trans p1
                have kq0 := hk2.cell (p := ⟨g, off + k * 2, none⟩) HGB.out (fun x => x) |>.trans q0
                have kq1 := hk2.cell (p := ⟨g, off + k * 2 + 1, none⟩) HGB.out (fun x => x) |>.trans q1
                have hgs := Nat.lt_of_lt_of_le HGB.out hk2.size
                have HK2 := Lib.hid (HKW.out.trans_same hk2)
                clear hk2 p0 p1 q0 q1
                go_wp2_with fail
                obtain ⟨W2, hW2⟩ : ∃ W, W = w2.alloc (.cells #[.int .i64 y1, .int .i64 y2, .int .i64 y3] 66 (0, 0)) := ⟨_, rfl⟩
                rw [← hW2]
                have hk2 : Kp No w2 W2 := by rw [hW2]; exact (Kp.refl _ _).alloc _
                have p0 := hk2.cell hgs (fun x => x) |>.trans kp0
                have p1 := hk2.cell (p := ⟨g, off + j * 2 + 1, none⟩) hgs (fun x => x) |>.trans kp1
                have q0 := hk2.cell (p := ⟨g, off + k * 2, none⟩) hgs (fun x => x) |>.trans kq0
                have q1 := hk2.cell (p := ⟨g, off + k * 2 + 1, none⟩) hgs (fun x => x) |>.trans kq1
                have d2 := cell_at (show W2.heap[w2.heap.size]? = some (.cells #[.int .i64 y1, .int .i64 y2, .int .i64 y3] 66 (0, 0)) by rw [hW2]; exact heap_alloc_new w2 _) 2
                simp at d2
                have HK3 := Lib.hid (HK2.out.trans_same hk2)
                clear hk2 kp0 kp1 kq0 kq1 hgs hW2
                have key : r' = false ∨ r' = true := by cases r' <;> simp
                have HN0 := Lib.hid (show followF (L.take k) x = false → leapsF [] L = false from fun h => Fol.no HX.out.2 h)
                have HN1 := Lib.hid (show followF (L.take k) x = true → Fol L (k + 1) from fun h => HF.out.succ HX.out.2 h)
                rw [HFG.out] at HN0 HN1
                rcases Int.lt_or_le y.1 x.1 with p | p
                · have c1 : decide (x.1 ≤ y.1) = false := by rw [decide_eq_false_iff_not]; omega
                  have c1' : decide (y.1 < x.1) = true := by rw [decide_eq_true_iff]; omega
                  rw [c1'] at HR'
                  clear p c1'
                  rcases Nat.decEq y3 1 with q | q
                  · have c2 : ((y3 : Int) == 1) = false := by simpa using (show ¬ (y3 : Int) = 1 by omega)
                    have c2n : ((y3 : Int) != 1) = true := by rw [bne, c2]; rfl
                    have c2' : decide (y3 = 1) = false := by rw [decide_eq_false_iff_not]; exact q
                    rw [c2'] at HR'
                    clear q c2'
                    refine wp_region_ord [0,0,0,0,1,0,0,0,0,0,1,0,0] [0,1,2,3,5,6,7,8,9,4,10,11,12] (by kernel_rfl) (by kernel_rfl) ?_
                    repeat (first
                      | (apply wpOrd_skip rfl (by decide) rfl; (focus (go_simp; rfl)))
                      | (apply wpOrd_pure rfl rfl rfl; (focus (intro _ _; go_simp; (try go_ints); rfl)); (focus (go_simp; rfl)))
                      | (apply wpOrd_read rfl rfl rfl; (focus (intro _; go_simp; (try go_ints); rfl)); (focus (go_simp; rfl))))
                    refine wpOrd_nil (fun nq => ?_)
                    go_wp2_with fail
                    refine wp_region_ord [0,0,0,0,1,0,0,0,0,0,1,0,0,0,1,0,0,0,0,0,0,0,0,0,0] [0,1,2,3,5,6,7,8,9,4,10,11,12,13,14,15,16,17,18,19,20,21,22,23,24] (by kernel_rfl) (by kernel_rfl) ?_
                    repeat (first
                      | (apply wpOrd_skip rfl (by decide) rfl; (focus (go_simp; rfl)))
                      | (apply wpOrd_pure rfl rfl rfl; (focus (intro _ _; go_simp; (try go_ints); rfl)); (focus (go_simp; rfl)))
                      | (apply wpOrd_read rfl rfl rfl; (focus (intro _; go_simp; (try go_ints); rfl)); (focus (go_simp; rfl))))
                    refine wpOrd_nil (fun nq => ?_)
                    go_wp2_with fail
                    have HZ := Lib.hid (show r' = false by rw [HR'.out]; rfl)
                    go_ret
                    refine ⟨?_, (HK3.out.drewN _).drewN _⟩
                    rw [HRV.out, HN0.out HZ.out]
                    rfl
                  · subst q
                    rcases Int.decEq D 1 with e | e
                    · rcases Int.decEq D (-1) with e' | e'
                      · have c3 : (D == 1) = false := by simpa using e
                        have c4 : (D == -1) = false := by simpa using e'
                        have c3n : (D != 1) = true := by rw [bne, c3]; rfl
                        have c4n : (D != -1) = true := by rw [bne, c4]; rfl
                        have HZ := Lib.hid (show r' = false by rw [HR'.out, show decide (D = 1) = false from decide_eq_false e, show decide (D = -1) = false from decide_eq_false e']; rfl)
                        clear e e'
                        refine wp_region_ord [0,0,0,0,1,0,0,0,0,0,1,0,0] [0,1,2,3,5,6,7,8,9,4,10,11,12] (by kernel_rfl) (by kernel_rfl) ?_
                        repeat (first
                          | (apply wpOrd_skip rfl (by decide) rfl; (focus (go_simp; rfl)))
                          | (apply wpOrd_pure rfl rfl rfl; (focus (intro _ _; go_simp; (try go_ints); rfl)); (focus (go_simp; rfl)))
                          | (apply wpOrd_read rfl rfl rfl; (focus (intro _; go_simp; (try go_ints); rfl)); (focus (go_simp; rfl))))
                        refine wpOrd_nil (fun nq => ?_)
                        go_wp2_with fail
                        refine wp_region_ord [0,0,0,0,1,0,0,0,0,0,1,0,0,0,1,0,0,0,0,0,0,0,0,0,0] [0,1,2,3,5,6,7,8,9,4,10,11,12,13,14,15,16,17,18,19,20,21,22,23,24] (by kernel_rfl) (by kernel_rfl) ?_
                        repeat (first
                          | (apply wpOrd_skip rfl (by decide) rfl; (focus (go_simp; rfl)))
                          | (apply wpOrd_pure rfl rfl rfl; (focus (intro _ _; go_simp; (try go_ints); rfl)); (focus (go_simp; rfl)))
                          | (apply wpOrd_read rfl rfl rfl; (focus (intro _; go_simp; (try go_ints); rfl)); (focus (go_simp; rfl))))
                        refine wpOrd_nil (fun nq => ?_)
                        go_wp2_with fail
                        go_ret
                        refine ⟨?_, (HK3.out.drewN _).drewN _⟩
                        rw [HRV.out, HN0.out HZ.out]
                        rfl
                      · subst e'
                        refine wp_region_ord [0,0,0,0,1,0,0,0,0,0,1,0,0] [0,1,2,3,5,6,7,8,9,4,10,11,12] (by kernel_rfl) (by kernel_rfl) ?_
                        repeat (first
                          | (apply wpOrd_skip rfl (by decide) rfl; (focus (go_simp; rfl)))
                          | (apply wpOrd_pure rfl rfl rfl; (focus (intro _ _; go_simp; (try go_ints); rfl)); (focus (go_simp; rfl)))
                          | (apply wpOrd_read rfl rfl rfl; (focus (intro _; go_simp; (try go_ints); rfl)); (focus (go_simp; rfl))))
                        refine wpOrd_nil (fun nq => ?_)
                        go_wp2_with fail
                        refine wp_region_ord [0,0,0,0,1,0,0,0,0,0,1,0,0,0,1,0,0,0,0,0,0,0,0,0,0] [0,1,2,3,5,6,7,8,9,4,10,11,12,13,14,15,16,17,18,19,20,21,22,23,24] (by kernel_rfl) (by kernel_rfl) ?_
                        repeat (first
                          | (apply wpOrd_skip rfl (by decide) rfl; (focus (go_simp; rfl)))
                          | (apply wpOrd_pure rfl rfl rfl; (focus (intro _ _; go_simp; (try go_ints); rfl)); (focus (go_simp; rfl)))
                          | (apply wpOrd_read rfl rfl rfl; (focus (intro _; go_simp; (try go_ints); rfl)); (focus (go_simp; rfl))))
                        refine wpOrd_nil (fun nq => ?_)
                        go_wp2_with fail
                        have HZ := Lib.hid (show r' = true by rw [HR'.out]; rfl)
                        have HWK := Lib.hid (show wrap64 ((k : Int) + 1) = ((k + 1 : Nat) : Int) by rw [IntWalk.wrap64_in _ (by have := HLN.out; have := HK.out; omega)]; push_cast; rfl)
                        rw [HWK.out]
                        go_round
                        · exact ⟨k + 1, by omega, rfl, Lib.hid (HN1.out HZ.out), Lib.hid (HK3.out.drewN _)⟩
                        · simp only [intOf, Int.toNat_natCast]; omega
                    · subst e
                      refine wp_region_ord [0,0,0,0,1,0,0,0,0,0,1,0,0] [0,1,2,3,5,6,7,8,9,4,10,11,12] (by kernel_rfl) (by kernel_rfl) ?_
                      repeat (first
                        | (apply wpOrd_skip rfl (by decide) rfl; (focus (go_simp; rfl)))
                        | (apply wpOrd_pure rfl rfl rfl; (focus (intro _ _; go_simp; (try go_ints); rfl)); (focus (go_simp; rfl)))
                        | (apply wpOrd_read rfl rfl rfl; (focus (intro _; go_simp; (try go_ints); rfl)); (focus (go_simp; rfl))))
                      refine wpOrd_nil (fun nq => ?_)
                      go_wp2_with fail
                      refine wp_region_ord [0,0,0,0,1,0,0,0,0,0,1,0,0,0,1,0,0,0,0,0,0,0,0,0,0] [0,1,2,3,5,6,7,8,9,4,10,11,12,13,14,15,16,17,18,19,20,21,22,23,24] (by kernel_rfl) (by kernel_rfl) ?_
                      repeat (first
                        | (apply wpOrd_skip rfl (by decide) rfl; (focus (go_simp; rfl)))
                        | (apply wpOrd_pure rfl rfl rfl; (focus (intro _ _; go_simp; (try go_ints); rfl)); (focus (go_simp; rfl)))
                        | (apply wpOrd_read rfl rfl rfl; (focus (intro _; go_simp; (try go_ints); rfl)); (focus (go_simp; rfl))))
                      refine wpOrd_nil (fun nq => ?_)
                      go_wp2_with fail
                      have HZ := Lib.hid (show r' = true by rw [HR'.out]; rfl)
                      have HWK := Lib.hid (show wrap64 ((k : Int) + 1) = ((k + 1 : Nat) : Int) by rw [IntWalk.wrap64_in _ (by have := HLN.out; have := HK.out; omega)]; push_cast; rfl)
                      rw [HWK.out]
                      go_round
                      · exact ⟨k + 1, by omega, rfl, Lib.hid (HN1.out HZ.out), Lib.hid (HK3.out.drewN _)⟩
                      · simp only [intOf, Int.toNat_natCast]; omega
                · have c1 : decide (x.1 ≤ y.1) = true := by rw [decide_eq_true_iff]; omega
                  have c1' : decide (y.1 < x.1) = false := by rw [decide_eq_false_iff_not]; omega
                  rw [c1'] at HR'
                  clear p c1'
                  refine wp_region_ord [0,0,0,0,1,0,0,0,0,0,1,0,0] [0,1,2,3,5,6,7,8,9,4,10,11,12] (by kernel_rfl) (by kernel_rfl) ?_
                  repeat (first
                    | (apply wpOrd_skip rfl (by decide) rfl; (focus (go_simp; rfl)))
                    | (apply wpOrd_pure rfl rfl rfl; (focus (intro _ _; go_simp; (try go_ints); rfl)); (focus (go_simp; rfl)))
                    | (apply wpOrd_read rfl rfl rfl; (focus (intro _; go_simp; (try go_ints); rfl)); (focus (go_simp; rfl))))
                  refine wpOrd_nil (fun nq => ?_)
                  go_wp2_with fail
                  refine wp_region_ord [0,0,0,0,1,0,0,0,0,0,1,0,0,0,1,0,0,0,0,0,0,0,0,0,0] [0,1,2,3,5,6,7,8,9,4,10,11,12,13,14,15,16,17,18,19,20,21,22,23,24] (by kernel_rfl) (by kernel_rfl) ?_
                  repeat (first
                    | (apply wpOrd_skip rfl (by decide) rfl; (focus (go_simp; rfl)))
                    | (apply wpOrd_pure rfl rfl rfl; (focus (intro _ _; go_simp; (try go_ints); rfl)); (focus (go_simp; rfl)))
                    | (apply wpOrd_read rfl rfl rfl; (focus (intro _; go_simp; (try go_ints); rfl)); (focus (go_simp; rfl))))
                  refine wpOrd_nil (fun nq => ?_)
                  go_wp2_with fail
                  have HZ := Lib.hid (show r' = false by rw [HR'.out]; rfl)
                  go_ret
                  refine ⟨?_, (HK3.out.drewN _).drewN _⟩
                  rw [HRV.out, HN0.out HZ.out]
                  rfl
      · have HFF := Lib.hid (followF_bad (L := L.take k) (x := x) (.inl (by rw [HTL.out]; exact h1)))
        have b1 : decide ((100 : Int) ≤ (k : Int)) = true := by rw [decide_eq_true_iff]; omega
        have b1' : decide (100 ≤ k) = true := by rw [decide_eq_true_iff]; omega
        clear h1
        go_wp2_with fail
        go_ret
        refine ⟨?_, HKW.out⟩
        rw [HRV.out, Fol.no HX.out.2 HFF.out]
        rfl
    · obtain rfl : k = K := by omega
      clear hk hc
      go_wp2_with fail
      go_ret
      refine ⟨?_, HKW.out⟩
      rw [HRV.out, Fol.all (HK.out ▸ HF.out)]
      rfl
end Go.Proofs.YtapikolgpmefbaaGreatDoor
