/-
  May a leap stand behind a table that holds some: leap's follows.
-/
import Derived.Test.YtapikolgpmefbaaGreatDoorLTab
namespace Go.Proofs.YtapikolgpmefbaaGreatDoor
open Go.RowKit Go.Mer

def followG (x1 x2 v1 v2 : Int) : Bool := decide (v1 < x1) && decide ((ymdF (x1 + 719162).toNat).2.2 = 1) && (decide (x2 = v2 + 1) || decide (x2 = v2 - 1))
set_option maxRecDepth 4000 in
theorem follows_more (x1 x2 v1 v2 : Int) (K g off cap : Nat) (w : World) (hi : inF x1 = true) (h0 : 0 ≤ x2) (h1 : x2 ≤ 1000) (h2 : 0 ≤ v2) (h3 : v2 ≤ 1000) (hK : K < 99) (hg : g < w.heap.size)
    (c0 : w.cell? ⟨g, off + K * 2, none⟩ = some (.int .i64 v1)) (c1 : w.cell? ⟨g, off + K * 2 + 1, none⟩ = some (.int .i64 v2)) :
    Calls Tryz.prog 28 #[.slice (some ⟨g, off, none⟩) (K + 1) cap, .agg #[.int .i64 x1, .int .i64 x2]] w fun e w' => e = .returned (.bool (followG x1 x2 v1 v2)) ∧ Kp No w w' := by
  have HD := Lib.hid (Date_any x1)
  obtain ⟨W1, hW1⟩ : ∃ W1, W1 = w.alloc (.cells #[.int .i64 x1, .int .i64 x2] 38 (0, 0)) := ⟨_, rfl⟩
  have hdv : dateV x1 = .tuple #[dtv (ymdF (x1 + 719162).toNat).1 (ymdF (x1 + 719162).toNat).2.1 (ymdF (x1 + 719162).toNat).2.2, .int .i64 0] := if_pos hi
  rw [hdv] at HD
  clear hdv hi
  obtain ⟨r, hr⟩ : ∃ r, r = followG x1 x2 v1 v2 := ⟨_, rfl⟩
  rw [← hr]
  unfold followG at hr
  obtain ⟨y1, hy1⟩ : ∃ x, x = (ymdF (x1 + 719162).toNat).1 := ⟨_, rfl⟩
  obtain ⟨y2, hy2⟩ : ∃ x, x = (ymdF (x1 + 719162).toNat).2.1 := ⟨_, rfl⟩
  obtain ⟨y3, hy3⟩ : ∃ x, x = (ymdF (x1 + 719162).toNat).2.2 := ⟨_, rfl⟩
  rw [← hy1, ← hy2, ← hy3] at HD
  rw [← hy3] at hr
  clear hy1 hy2 hy3
  have b0 : decide (x2 < 0) = false := by rw [decide_eq_false_iff_not]; omega
  have b1 : decide (1000 < x2) = false := by rw [decide_eq_false_iff_not]; omega
  have b2 : decide ((100 : Int) ≤ (K : Int) + 1) = false := by rw [decide_eq_false_iff_not]; omega
  have b3 : decide (100 ≤ K + 1) = false := by rw [decide_eq_false_iff_not]; omega
  have hw : wrap64 (K : Int) = K := IntWalk.wrap64_in _ (by omega)
  obtain ⟨U1, hU1⟩ : ∃ U, U = v2 + 1 := ⟨_, rfl⟩
  obtain ⟨U2, hU2⟩ : ∃ U, U = v2 - 1 := ⟨_, rfl⟩
  have hw1 : wrap64 (v2 + 1) = U1 := by rw [hU1]; exact IntWalk.wrap64_in _ (by omega)
  have hw2 : wrap64 (v2 - 1) = U2 := by rw [hU2]; exact IntWalk.wrap64_in _ (by omega)
  rw [← hU1, ← hU2] at hr
  have HR := Lib.hid hr
  have HG := Lib.hid hg
  have hne : U1 = U2 → False := by omega
  have HC := Lib.hid (And.intro c0 c1)
  clear hr hg h0 h1 h2 h3 hK c0 c1 hU1 hU2
  rcases (show decide (v1 < x1) = false ∨ decide (v1 < x1) = true by cases decide (v1 < x1) <;> simp) with p | p
  · clear hne
    have HP := Lib.hid p
    go_enter Tryz.func28, Tryz.ntmps28
    go_wp2_with fail
    refine (HD.out _).mono ?_
    rintro e w' ⟨rfl, hk⟩
    rw [← hW1] at hk
    have hb : W1.heap[w.heap.size]? = some (.cells #[.int .i64 x1, .int .i64 x2] 38 (0, 0)) := by rw [hW1]; exact heap_alloc_new w _
    have hb' := hk.get hb fun x => x
    have hkw : Kp No w w' := ((hW1 ▸ (Kp.refl No w).alloc _ : Kp No w W1)).trans_same hk
    have hgw := Nat.lt_of_lt_of_le HG.out hkw.size
    have g0 := (hkw.cell HG.out fun x => x).trans HC.out.1
    have g1 := (hkw.cell (p := ⟨g, off + K * 2 + 1, none⟩) HG.out fun x => x).trans HC.out.2
    have d1 := fun (p q r : Int) => cell_at (alloc_far hb' (.cells #[.int .i64 p, .int .i64 q, .int .i64 r] 66 (0, 0))) 1
    have d0 := fun (p q r : Int) => cell_at (alloc_far hb' (.cells #[.int .i64 p, .int .i64 q, .int .i64 r] 66 (0, 0))) 0
    have k0 := fun (p q r : Int) => ((((Kp.refl No w').alloc (.cells #[.int .i64 p, .int .i64 q, .int .i64 r] 66 (0, 0))).cell (p := ⟨g, off + K * 2, none⟩) hgw) fun x => x).trans g0
    have k1 := fun (p q r : Int) => ((((Kp.refl No w').alloc (.cells #[.int .i64 p, .int .i64 q, .int .i64 r] 66 (0, 0))).cell (p := ⟨g, off + K * 2 + 1, none⟩) hgw) fun x => x).trans g1
    have m0 := fun (p q r s t : Int) => cell_at (alloc_far (alloc_far hb' (.cells #[.int .i64 p, .int .i64 q, .int .i64 r] 66 (0, 0))) (.cells #[.int .i64 s, .int .i64 t] 38 (0, 0))) 0
    have m1 := fun (p q r s t : Int) => cell_at (alloc_far (alloc_far hb' (.cells #[.int .i64 p, .int .i64 q, .int .i64 r] 66 (0, 0))) (.cells #[.int .i64 s, .int .i64 t] 38 (0, 0))) 1
    have n2 := fun (p q r s t : Int) => cell_at (alloc_far (heap_alloc_new w' (.cells #[.int .i64 p, .int .i64 q, .int .i64 r] 66 (0, 0))) (.cells #[.int .i64 s, .int .i64 t] 38 (0, 0))) 2
    simp at d1 d0 m0 m1 n2
    have HKW := Lib.hid hkw
    clear hk hkw hb hb' hW1 hgw g0 g1
    go_wp2_with fail
    go_ret
    refine ⟨?_, (HKW.out.alloc _).alloc _⟩
    rw [HR.out]
    simp [HP.out]
  · have HP := Lib.hid p
    rcases Nat.decEq y3 1 with q | q
    · have q' : ((y3 : Int) == 1) = false := by simpa using (show ¬ (y3 : Int) = 1 by omega)
      have q2 : (y3 == 1) = false := by simpa using q
      have HQ := Lib.hid q
      clear hne q
      go_enter Tryz.func28, Tryz.ntmps28
      go_wp2_with fail
      refine (HD.out _).mono ?_
      rintro e w' ⟨rfl, hk⟩
      rw [← hW1] at hk
      have hb : W1.heap[w.heap.size]? = some (.cells #[.int .i64 x1, .int .i64 x2] 38 (0, 0)) := by rw [hW1]; exact heap_alloc_new w _
      have hb' := hk.get hb fun x => x
      have hkw : Kp No w w' := ((hW1 ▸ (Kp.refl No w).alloc _ : Kp No w W1)).trans_same hk
      have hgw := Nat.lt_of_lt_of_le HG.out hkw.size
      have g0 := (hkw.cell HG.out fun x => x).trans HC.out.1
      have g1 := (hkw.cell (p := ⟨g, off + K * 2 + 1, none⟩) HG.out fun x => x).trans HC.out.2
      have d1 := fun (p q r : Int) => cell_at (alloc_far hb' (.cells #[.int .i64 p, .int .i64 q, .int .i64 r] 66 (0, 0))) 1
      have d0 := fun (p q r : Int) => cell_at (alloc_far hb' (.cells #[.int .i64 p, .int .i64 q, .int .i64 r] 66 (0, 0))) 0
      have k0 := fun (p q r : Int) => ((((Kp.refl No w').alloc (.cells #[.int .i64 p, .int .i64 q, .int .i64 r] 66 (0, 0))).cell (p := ⟨g, off + K * 2, none⟩) hgw) fun x => x).trans g0
      have k1 := fun (p q r : Int) => ((((Kp.refl No w').alloc (.cells #[.int .i64 p, .int .i64 q, .int .i64 r] 66 (0, 0))).cell (p := ⟨g, off + K * 2 + 1, none⟩) hgw) fun x => x).trans g1
      have m0 := fun (p q r s t : Int) => cell_at (alloc_far (alloc_far hb' (.cells #[.int .i64 p, .int .i64 q, .int .i64 r] 66 (0, 0))) (.cells #[.int .i64 s, .int .i64 t] 38 (0, 0))) 0
      have m1 := fun (p q r s t : Int) => cell_at (alloc_far (alloc_far hb' (.cells #[.int .i64 p, .int .i64 q, .int .i64 r] 66 (0, 0))) (.cells #[.int .i64 s, .int .i64 t] 38 (0, 0))) 1
      have n2 := fun (p q r s t : Int) => cell_at (alloc_far (heap_alloc_new w' (.cells #[.int .i64 p, .int .i64 q, .int .i64 r] 66 (0, 0))) (.cells #[.int .i64 s, .int .i64 t] 38 (0, 0))) 2
      simp at d1 d0 m0 m1 n2
      have HKW := Lib.hid hkw
      clear hk hkw hb hb' hW1 hgw g0 g1
      go_wp2_with fail
      go_ret
      refine ⟨?_, (HKW.out.alloc _).alloc _⟩
      rw [HR.out]
      simp [HP.out, HQ.out]
    · subst q
      by_cases e1 : x2 = U1
      · have e2 : (x2 == U1) = true := by simpa using e1
        have HE := Lib.hid e1
        clear hne e1
        go_enter Tryz.func28, Tryz.ntmps28
        go_wp2_with fail
        refine (HD.out _).mono ?_
        rintro e w' ⟨rfl, hk⟩
        rw [← hW1] at hk
        have hb : W1.heap[w.heap.size]? = some (.cells #[.int .i64 x1, .int .i64 x2] 38 (0, 0)) := by rw [hW1]; exact heap_alloc_new w _
        have hb' := hk.get hb fun x => x
        have hkw : Kp No w w' := ((hW1 ▸ (Kp.refl No w).alloc _ : Kp No w W1)).trans_same hk
        have hgw := Nat.lt_of_lt_of_le HG.out hkw.size
        have g0 := (hkw.cell HG.out fun x => x).trans HC.out.1
        have g1 := (hkw.cell (p := ⟨g, off + K * 2 + 1, none⟩) HG.out fun x => x).trans HC.out.2
        have d1 := fun (p q r : Int) => cell_at (alloc_far hb' (.cells #[.int .i64 p, .int .i64 q, .int .i64 r] 66 (0, 0))) 1
        have d0 := fun (p q r : Int) => cell_at (alloc_far hb' (.cells #[.int .i64 p, .int .i64 q, .int .i64 r] 66 (0, 0))) 0
        have k0 := fun (p q r : Int) => ((((Kp.refl No w').alloc (.cells #[.int .i64 p, .int .i64 q, .int .i64 r] 66 (0, 0))).cell (p := ⟨g, off + K * 2, none⟩) hgw) fun x => x).trans g0
        have k1 := fun (p q r : Int) => ((((Kp.refl No w').alloc (.cells #[.int .i64 p, .int .i64 q, .int .i64 r] 66 (0, 0))).cell (p := ⟨g, off + K * 2 + 1, none⟩) hgw) fun x => x).trans g1
        have m0 := fun (p q r s t : Int) => cell_at (alloc_far (alloc_far hb' (.cells #[.int .i64 p, .int .i64 q, .int .i64 r] 66 (0, 0))) (.cells #[.int .i64 s, .int .i64 t] 38 (0, 0))) 0
        have m1 := fun (p q r s t : Int) => cell_at (alloc_far (alloc_far hb' (.cells #[.int .i64 p, .int .i64 q, .int .i64 r] 66 (0, 0))) (.cells #[.int .i64 s, .int .i64 t] 38 (0, 0))) 1
        have n2 := fun (p q r s t : Int) => cell_at (alloc_far (heap_alloc_new w' (.cells #[.int .i64 p, .int .i64 q, .int .i64 r] 66 (0, 0))) (.cells #[.int .i64 s, .int .i64 t] 38 (0, 0))) 2
        simp at d1 d0 m0 m1 n2
        have HKW := Lib.hid hkw
        clear hk hkw hb hb' hW1 hgw g0 g1
        go_wp2_with fail
        go_ret
        refine ⟨?_, (HKW.out.alloc _).alloc _⟩
        rw [HR.out]
        simp [HP.out, HE.out]
      · by_cases e3 : x2 = U2
        · have e2 : (x2 == U1) = false := by simpa using e1
          have e4 : (x2 == U2) = true := by simpa using e3
          have HE := Lib.hid e3
          clear hne e1 e3
          go_enter Tryz.func28, Tryz.ntmps28
          go_wp2_with fail
          refine (HD.out _).mono ?_
          rintro e w' ⟨rfl, hk⟩
          rw [← hW1] at hk
          have hb : W1.heap[w.heap.size]? = some (.cells #[.int .i64 x1, .int .i64 x2] 38 (0, 0)) := by rw [hW1]; exact heap_alloc_new w _
          have hb' := hk.get hb fun x => x
          have hkw : Kp No w w' := ((hW1 ▸ (Kp.refl No w).alloc _ : Kp No w W1)).trans_same hk
          have hgw := Nat.lt_of_lt_of_le HG.out hkw.size
          have g0 := (hkw.cell HG.out fun x => x).trans HC.out.1
          have g1 := (hkw.cell (p := ⟨g, off + K * 2 + 1, none⟩) HG.out fun x => x).trans HC.out.2
          have d1 := fun (p q r : Int) => cell_at (alloc_far hb' (.cells #[.int .i64 p, .int .i64 q, .int .i64 r] 66 (0, 0))) 1
          have d0 := fun (p q r : Int) => cell_at (alloc_far hb' (.cells #[.int .i64 p, .int .i64 q, .int .i64 r] 66 (0, 0))) 0
          have k0 := fun (p q r : Int) => ((((Kp.refl No w').alloc (.cells #[.int .i64 p, .int .i64 q, .int .i64 r] 66 (0, 0))).cell (p := ⟨g, off + K * 2, none⟩) hgw) fun x => x).trans g0
          have k1 := fun (p q r : Int) => ((((Kp.refl No w').alloc (.cells #[.int .i64 p, .int .i64 q, .int .i64 r] 66 (0, 0))).cell (p := ⟨g, off + K * 2 + 1, none⟩) hgw) fun x => x).trans g1
          have m0 := fun (p q r s t : Int) => cell_at (alloc_far (alloc_far hb' (.cells #[.int .i64 p, .int .i64 q, .int .i64 r] 66 (0, 0))) (.cells #[.int .i64 s, .int .i64 t] 38 (0, 0))) 0
          have m1 := fun (p q r s t : Int) => cell_at (alloc_far (alloc_far hb' (.cells #[.int .i64 p, .int .i64 q, .int .i64 r] 66 (0, 0))) (.cells #[.int .i64 s, .int .i64 t] 38 (0, 0))) 1
          have n2 := fun (p q r s t : Int) => cell_at (alloc_far (heap_alloc_new w' (.cells #[.int .i64 p, .int .i64 q, .int .i64 r] 66 (0, 0))) (.cells #[.int .i64 s, .int .i64 t] 38 (0, 0))) 2
          simp at d1 d0 m0 m1 n2
          have HKW := Lib.hid hkw
          clear hk hkw hb hb' hW1 hgw g0 g1
          go_wp2_with fail
          go_ret
          refine ⟨?_, (HKW.out.alloc _).alloc _⟩
          rw [HR.out]
          simp [HP.out, HE.out]
        · have e2 : (x2 == U1) = false := by simpa using e1
          have e4 : (x2 == U2) = false := by simpa using e3
          have HE := Lib.hid (And.intro e1 e3)
          clear hne e1 e3
          go_enter Tryz.func28, Tryz.ntmps28
          go_wp2_with fail
          refine (HD.out _).mono ?_
          rintro e w' ⟨rfl, hk⟩
          rw [← hW1] at hk
          have hb : W1.heap[w.heap.size]? = some (.cells #[.int .i64 x1, .int .i64 x2] 38 (0, 0)) := by rw [hW1]; exact heap_alloc_new w _
          have hb' := hk.get hb fun x => x
          have hkw : Kp No w w' := ((hW1 ▸ (Kp.refl No w).alloc _ : Kp No w W1)).trans_same hk
          have hgw := Nat.lt_of_lt_of_le HG.out hkw.size
          have g0 := (hkw.cell HG.out fun x => x).trans HC.out.1
          have g1 := (hkw.cell (p := ⟨g, off + K * 2 + 1, none⟩) HG.out fun x => x).trans HC.out.2
          have d1 := fun (p q r : Int) => cell_at (alloc_far hb' (.cells #[.int .i64 p, .int .i64 q, .int .i64 r] 66 (0, 0))) 1
          have d0 := fun (p q r : Int) => cell_at (alloc_far hb' (.cells #[.int .i64 p, .int .i64 q, .int .i64 r] 66 (0, 0))) 0
          have k0 := fun (p q r : Int) => ((((Kp.refl No w').alloc (.cells #[.int .i64 p, .int .i64 q, .int .i64 r] 66 (0, 0))).cell (p := ⟨g, off + K * 2, none⟩) hgw) fun x => x).trans g0
          have k1 := fun (p q r : Int) => ((((Kp.refl No w').alloc (.cells #[.int .i64 p, .int .i64 q, .int .i64 r] 66 (0, 0))).cell (p := ⟨g, off + K * 2 + 1, none⟩) hgw) fun x => x).trans g1
          have m0 := fun (p q r s t : Int) => cell_at (alloc_far (alloc_far hb' (.cells #[.int .i64 p, .int .i64 q, .int .i64 r] 66 (0, 0))) (.cells #[.int .i64 s, .int .i64 t] 38 (0, 0))) 0
          have m1 := fun (p q r s t : Int) => cell_at (alloc_far (alloc_far hb' (.cells #[.int .i64 p, .int .i64 q, .int .i64 r] 66 (0, 0))) (.cells #[.int .i64 s, .int .i64 t] 38 (0, 0))) 1
          have n2 := fun (p q r s t : Int) => cell_at (alloc_far (heap_alloc_new w' (.cells #[.int .i64 p, .int .i64 q, .int .i64 r] 66 (0, 0))) (.cells #[.int .i64 s, .int .i64 t] 38 (0, 0))) 2
          simp at d1 d0 m0 m1 n2
          have HKW := Lib.hid hkw
          clear hk hkw hb hb' hW1 hgw g0 g1
          go_wp2_with fail
          go_ret
          refine ⟨?_, (HKW.out.alloc _).alloc _⟩
          rw [HR.out]
          simp [HP.out, HE.out.1, HE.out.2]
end Go.Proofs.YtapikolgpmefbaaGreatDoor
