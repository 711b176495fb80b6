/-
  The law LeapBad, of any table.
-/
import Derived.Test.YtapikolgpmefbaaGreatDoorLKnown
import Derived.Test.YtapikolgpmefbaaGreatDoorLBad0
import Derived.Test.YtapikolgpmefbaaGreatDoorLOwn
import Derived.Test.YtapikolgpmefbaaGreatDoorChunk
import Derived.Test.YtapikolgpmefbaaGreatDoorLast
import Derived.Deep.CutRange
namespace Go.Proofs.YtapikolgpmefbaaGreatDoor
open Go.RowKit Go.Mer

set_option maxRecDepth 100000 in
theorem low_bitsM (x : Int) : (∃ v : Nat, v ≤ 65535 ∧ bits .and .i64 x 65535 = (v : Int)) ∧ ∃ v : Nat, v ≤ 3 ∧ bits .and .i64 x 3 = (v : Int) := by
  have go : ∀ (M : Int) (n : Nat), (BitVec.ofInt 64 M).toNat = n → n ≤ 65535 → ∃ v : Nat, v ≤ n ∧ bits .and .i64 x M = (v : Int) := by
    intro M n hM hn
    have h : ((BitVec.ofInt 64 x) &&& (BitVec.ofInt 64 M)).toNat ≤ n := by
      rw [BitVec.toNat_and, hM]
      exact Nat.and_le_right
    refine ⟨_, h, ?_⟩
    simp only [bits]
    unfold IntKind.wrap
    have e : (2 ^ IntKind.i64.bits : Int) = 18446744073709551616 := by decide
    have e2 : IntKind.i64.bits = 64 := rfl
    rw [e2] at e ⊢
    rw [e]
    have h2 : ((((BitVec.ofInt 64 x) &&& (BitVec.ofInt 64 M)).toNat : Nat) : Int) ≤ 65535 := Int.ofNat_le.2 (Nat.le_trans h hn)
    have h3 : (0 : Int) ≤ ((((BitVec.ofInt 64 x) &&& (BitVec.ofInt 64 M)).toNat : Nat) : Int) := Int.natCast_nonneg _
    rw [Int.emod_eq_of_lt h3 (by omega)]
    rw [if_neg]
    simp only [Bool.and_eq_true, decide_eq_true_eq, not_and]
    intro _
    have e3 : (2 ^ (64 - 1) : Int) = 9223372036854775808 := by decide
    rw [e3]
    omega
  exact ⟨go 65535 65535 (by decide) (by decide), go 3 3 (by decide) (by decide)⟩
theorem bdG {k K off s : Nat} (h : k < K) (hf : off + K * 2 ≤ s) : k * 2 + 1 < K * 2 ∧ off + k * 2 + 1 < s ∧ off + k * 2 < s ∧ k * 2 < K * 2 := by omega
theorem wrapG {j K : Nat} (h : j < K) (hK : K ≤ 1000000) : wrap64 (j : Int) = (j : Int) := IntWalk.wrap64_in _ (by omega)
theorem posG {j K : Nat} (hj : K = j + 1) (h : 2 ≤ K) : 0 < j := by omega
theorem wrapD {d : Int} (h : -719162 ≤ d) (h' : d < 2932897) : wrap64 (d + 1) = d + 1 := IntWalk.wrap64_in _ (by omega)
theorem Print_no (L : List (Int × Int)) (n : Int) (w : World) (a : Option Addr) (cap B : Nat) (hR : Rd w B a (tbV L)) (hl : L.length ≤ 1000000) (hcap : L.length ≤ cap) (h : isF L n = false) :
    Calls Tryz.prog 6 #[.agg #[.slice a L.length cap, .int .i64 n]] w fun e w' => e = .returned (.tuple #[.string ⟨#[]⟩, .int .i64 1]) ∧ Kp No w w' := by
  obtain ⟨W0, hW0⟩ : ∃ W0, W0 = w.alloc (.cells #[.slice a L.length cap, .int .i64 n] 24 (0, 0)) := ⟨_, rfl⟩
  have hk0 : Kp No w W0 := by rw [hW0]; exact (Kp.refl _ _).alloc _
  have hi := Is_any L n W0 a cap B (hR.keep hk0 fun _ _ x => x) hl hcap
  rw [h] at hi
  have HI := Lib.hid hi
  have HK := Lib.hid hk0
  have HW := Lib.hid hW0
  clear hW0 hk0 hi hR hl hcap h
  go_enter Tryz.func6, Tryz.ntmps6
  go_wp2_with fail
  rw [← HW.out]
  refine HI.out.mono ?_
  rintro e' w2 ⟨rfl, hk2⟩
  have HK2 := Lib.hid (HK.out.trans_same hk2)
  clear hk2
  go_wp2_with fail
  exact bodyPost_ret (v := .tuple #[.string ⟨#[]⟩, .int .i64 1]) (by simp [results, Tryz.results6, go_sem]) rfl ⟨rfl, HK2.out⟩
set_option maxRecDepth 10000 in
set_option maxHeartbeats 4000000 in
theorem Bad_law (w : World) (a : Option Addr) (cap : Nat) (L : List (Int × Int)) (e m v : Int) (hR : Rd w w.heap.size a (tbV L)) (_ : L.length ≤ cap) :
    Calls Tryz.prog 5 #[.agg #[.slice a L.length cap, .int .i64 e], .int .i64 m, .int .i64 v] w fun e' w' => e' = .returned (.bool true) ∧ Kp No w w' := by
  obtain ⟨W0, hW0⟩ : ∃ W0, W0 = w.alloc (.cells #[.slice a L.length cap, .int .i64 e] 24 (0, 0)) := ⟨_, rfl⟩
  have hb : W0.heap[w.heap.size]? = some (.cells #[.slice a L.length cap, .int .i64 e] 24 (0, 0)) := by rw [hW0]; exact heap_alloc_new w _
  have hk0 : Kp No w W0 := by rw [hW0]; exact (Kp.refl _ _).alloc _
  have HK := Lib.hid hk0
  obtain ⟨K, hK⟩ : ∃ K, K = L.length := ⟨_, rfl⟩
  rcases Nat.lt_or_ge 300 K with h | h
  · have h1 : decide (300 < K) = true := decide_eq_true h
    have h2 : decide ((300 : Int) < (K : Int)) = true := by rw [decide_eq_true_iff]; omega
    rw [← hK] at hW0
    rw [← hK]
    have HW := Lib.hid hW0
    clear hW0 hk0 hR hb hK h
    go_enter Tryz.func5, Tryz.ntmps5
    go_wp2_with fail
    rw [← HW.out]
    refine (known_any _).mono ?_
    rintro e' w3 ⟨rfl, hk3⟩
    have HK3 := Lib.hid (HK.out.trans_same hk3)
    clear hk3
    go_wp2_with fail
    go_ret
    exact ⟨rfl, HK3.out⟩
  · have h1 : decide (300 < K) = false := by rw [decide_eq_false_iff_not]; omega
    have h2 : decide ((300 : Int) < (K : Int)) = false := by rw [decide_eq_false_iff_not]; omega
    have his := rIs_any L e W0 a cap w.heap.size (hR.keep hk0 fun _ _ x => x) (by omega)
    have how := fun W (h' : Kp No W0 W) => own_any W L e a cap w.heap.size (hR.keep (hk0.trans_same h') fun _ _ x => x) (by omega)
    have c0 : ∀ W, Kp No W0 W → W.cell? ⟨w.heap.size, 0, none⟩ = some (.slice a L.length cap) := fun W h => by rw [cell_at (h.get hb fun x => x)]; rfl
    have c1 : ∀ W, Kp No W0 W → W.cell? ⟨w.heap.size, 1, none⟩ = some (.int .i64 e) := fun W h => by rw [cell_at (h.get hb fun x => x)]; rfl
    cases hif : isF L e with
    | false =>
      rw [hif] at his
      rw [← hK] at his hW0 c0
      rw [← hK]
      have HIS := Lib.hid his
      have HW := Lib.hid hW0
      clear hif his how hW0 hb hk0 hR hK c0 c1
      go_enter Tryz.func5, Tryz.ntmps5
      go_wp2_with fail
      rw [← HW.out]
      refine HIS.out.mono ?_
      rintro e' w2 ⟨rfl, hk2⟩
      have HK2 := Lib.hid (HK.out.trans_same hk2)
      clear hk2
      go_wp2_with fail
      refine (known_any _).mono ?_
      rintro e' w3 ⟨rfl, hk3⟩
      have HK3 := Lib.hid (HK2.out.trans_same hk3)
      clear hk3
      go_wp2_with fail
      go_ret
      exact ⟨rfl, HK3.out⟩
    | true =>
      have hp := isF_pos hif
      rw [hif] at his
      rw [← hK] at his how hW0 c0 hp
      rw [← hK]
      obtain ⟨⟨v1, hv1, hv2⟩, _⟩ := low_bitsM m
      obtain ⟨_, v3, hv3, hv4⟩ := low_bitsM v
      have HIS := Lib.hid his
      have HOWN := Lib.hid how
      have HW := Lib.hid hW0
      have HKL := Lib.hid hK
      have HIF := Lib.hid hif
      have HC0 := Lib.hid c0
      have HC1 := Lib.hid c1
      have HV := Lib.hid (And.intro hv1 (And.intro hv3 h))
      clear his how hW0 hb hk0 hR hK c0 c1 hif hv1 hv3 h
      go_enter Tryz.func5, Tryz.ntmps5
      go_wp2_with fail
      rw [← HW.out]
      refine HIS.out.mono ?_
      rintro e' w1 ⟨rfl, hk1⟩
      have c0 := HC0.out w1 hk1
      have c1 := HC1.out w1 hk1
      have HO1 := Lib.hid (HOWN.out w1 hk1)
      have HK1 := Lib.hid (HK.out.trans_same hk1)
      clear HIS HOWN HC0 HC1 hk1
      go_wp2_with fail
      refine HO1.out.mono ?_
      rintro e' w2 ⟨a', c', rfl, ho, hg, hk, hc⟩
      clear c0 c1
      obtain ⟨g, off, cur, rfl, hgb, hfit⟩ : ∃ g off cur, a' = some ⟨g, off, none⟩ ∧ w2.heap[g]? = some (.cells cur 38 (0, 0)) ∧ off + K * 2 ≤ cur.size := by
        obtain ⟨_, a9, c9, hv, q1, _, q3, q4⟩ := id ho
        injection hv with e1 e2 e3
        cases a' with
        | none => have := q3 e1.symm; omega
        | some ad =>
          obtain ⟨g, off, cur, r1, r2, r3, _⟩ := q4 ad e1.symm
          exact ⟨g, off, cur, by rw [r1], r2, by omega⟩
      obtain ⟨W3, hW3⟩ : ∃ W, W = w2.alloc (.cells #[.slice (some ⟨g, off, none⟩) K c', .int .i64 e] 24 (0, 0)) := ⟨_, rfl⟩
      have hk3 : Kp No w2 W3 := by rw [hW3]; exact (Kp.refl _ _).alloc _
      have b3 : W3.heap[w2.heap.size]? = some (.cells #[.slice (some ⟨g, off, none⟩) K c', .int .i64 e] 24 (0, 0)) := by rw [hW3]; exact heap_alloc_new w2 _
      obtain ⟨B7, hB7⟩ : ∃ B, B = w2.heap.size := ⟨_, rfl⟩
      rw [← hB7] at b3
      have hgw : w.heap.size ≤ g := Nat.le_trans HK1.out.size (hg g rfl)
      have hgl := get_lt hgb
      have hB7w : w.heap.size ≤ B7 := by omega
      have HW3 := Lib.hid hW3
      have HB7 := Lib.hid hB7
      have HB3 := Lib.hid b3
      have HK3 := Lib.hid ((HK1.out.trans_same hk).trans_same hk3)
      have HO3 := Lib.hid (ho.keep hk3 fun _ _ x => x)
      have HG3 := Lib.hid (hk3.get hgb fun x => x)
      have HP := Lib.hid (And.intro hgw (And.intro hB7w (And.intro (show g ≠ B7 by omega) (And.intro hfit hc))))
      have d0 := cell_at b3 0
      have d1 := cell_at b3 1
      clear HO1 ho hg hk hc hgb hfit hk3 hW3 b3 hB7 hgw hgl hB7w
      obtain ⟨k, hk⟩ : ∃ k, k = v1 % K := ⟨_, rfl⟩
      have hkK : k < K := by rw [hk]; exact Nat.mod_lt _ hp
      have hq : (v1 : Int).tmod (K : Int) = (k : Int) := by rw [hk, Int.tmod_eq_emod_of_nonneg (by omega)]; exact (Int.natCast_emod v1 K).symm
      have hq2 : (v1 : Int) % (K : Int) = (k : Int) := by rw [hk]; exact (Int.natCast_emod v1 K).symm
      have hKz : ((K : Int) == 0) = false := by rw [beq_eq_false_iff_ne]; omega
      have hKz' : ¬ (K : Int) = 0 := by omega
      have hwk : wrap64 (k : Int) = (k : Int) := IntWalk.wrap64_in _ (by have := HV.out.2.2; omega)
      have HKM := Lib.hid (show K ≤ 1000000 by have := HV.out.2.2; omega)
      clear hk
      go_upto_region 5 with fail
      rw [← HW3.out, ← HB7.out]
      have hfit := HP.out.2.2.2.1
      have hgne := HP.out.2.2.1
      rcases (show v3 = 0 ∨ v3 = 1 ∨ v3 = 2 ∨ v3 = 3 by have := HV.out.2.1; omega) with rfl | rfl | rfl | rfl
      · have hv5 : bits .and .i64 v 3 = 0 := hv4
        obtain ⟨x, hx⟩ : ∃ x, L[k]? = some x := ⟨L[k]'(by rw [← HKL.out]; exact hkK), by simp⟩
        have hlk : k < L.length := by rw [← HKL.out]; exact hkK
        have HN := Lib.hid (bad_off (e := e) hlk x.1)
        have hbd := bdG hkK hfit
        have hown := own_set HO3.out (k * 2 + 1) hbd.1 (.int .i64 1001)
        rw [← tbV_off L k x 1001 hx, ← Nat.add_assoc] at hown
        have p0 : W3.cell? ⟨g, off + k * 2 + 1, none⟩ = some (cur[off + k * 2 + 1]'hbd.2.1) := by rw [cell_at HG3.out]; exact Array.getElem?_eq_getElem hbd.2.1
        have f0 : W3.frozen? ⟨g, off + k * 2 + 1, none⟩ = false := free_at HG3.out _
        have hgl := get_lt HG3.out
        obtain ⟨W4, hW4⟩ : ∃ W, W = W3.setCell ⟨g, off + k * 2 + 1, none⟩ (.int .i64 1001) := ⟨_, rfl⟩
        have hb4 : W4.heap[B7]? = some (.cells #[.slice (some ⟨g, off, none⟩) K c', .int .i64 (e)] 24 (0, 0)) := by rw [hW4]; exact (set_far HB3.out (p := ⟨g, off + k * 2 + 1, none⟩) (fun h => hgne h.symm) _)
        rw [← hW4] at hown
        have hll : (L.set k (x.1, 1001)).length = K := by simpa using HKL.out.symm
        have hof := Of_any W4 (L.set k (x.1, 1001)) (e) ⟨g, off, none⟩ c' _ hown.rd' (by rw [hll]; exact HKM.out)
        rw [show ofF (L.set k (x.1, 1001)) (e) = ([], 0, 12) by unfold ofF; rw [HN.out]; rfl, hll] at hof
        have hpr := fun W (h' : Kp No W4 W) => Print_no (L.set k (x.1, 1001)) (e) W (some ⟨g, off, none⟩) c' _ (hown.rd'.keep h' fun _ _ x => x) (by rw [hll]; exact HKM.out) (by rw [hll]; exact HP.out.2.2.2.2) HN.out
        have his4 := fun W (h' : Kp No W4 W) => Is_any (L.set k (x.1, 1001)) (e) W (some ⟨g, off, none⟩) c' _ (hown.rd'.keep h' fun _ _ x => x) (by rw [hll]; exact HKM.out) (by rw [hll]; exact HP.out.2.2.2.2)
        simp only [hll] at hpr his4
        simp only [HN.out] at his4
        have hE0 : ∀ W, Kp No W4 W → W.cell? ⟨B7, 0, none⟩ = some (.slice (some ⟨g, off, none⟩) K c') := fun W h => by rw [cell_at (h.get hb4 fun x => x)]; rfl
        have hE1 : ∀ W, Kp No W4 W → W.cell? ⟨B7, 1, none⟩ = some (.int .i64 (e)) := fun W h => by rw [cell_at (h.get hb4 fun x => x)]; rfl
        have e0 := hE0 W4 (Kp.refl _ _)
        have e1 := hE1 W4 (Kp.refl _ _)
        rw [hW4] at e0 e1
        have HOF := Lib.hid hof
        have HPR := Lib.hid hpr
        have HIS := Lib.hid his4
        have HE0 := Lib.hid hE0
        have HE1 := Lib.hid hE1
        have HW4 := Lib.hid hW4
        have HK4 : Hid (Kp No w W4) := Lib.hid (by
          rw [hW4]
          exact Kp.setCell HK3.out (.inr HP.out.1) _)
        clear hof hpr his4 hE0 hE1 hW4 hb4 hown hll
        go_wp2_with fail
        rw [← HW4.out]
        refine HOF.out.mono ?_
        clear HOF e0 e1 d0 d1
        rintro e' w5 ⟨a9, c9, rfl, _, _, hk5, _⟩
        obtain ⟨W6, hW6⟩ : ∃ W, W = w5.alloc (.cells #[.slice a9 0 c9, .int .i64 0] 24 (0, 0)) := ⟨_, rfl⟩
        have k6 : Kp No W4 W6 := by rw [hW6]; exact hk5.alloc _
        have e0 := HE0.out W6 k6
        have e1 := HE1.out W6 k6
        rw [hW6] at e0 e1
        have HP6 := Lib.hid (HPR.out W6 k6)
        have HK6 := Lib.hid k6
        have HW6 := Lib.hid hW6
        clear hW6 k6 hk5 HPR
        simp only [List.length_nil]
        go_wp2_with fail
        rw [← HW6.out]
        refine HP6.out.mono ?_
        clear HP6 e0 e1
        rintro e' w7 ⟨rfl, hk7⟩
        have k7 : Kp No W4 w7 := HK6.out.trans_same hk7
        have e0 := HE0.out w7 k7
        have e1 := HE1.out w7 k7
        have HI7 := Lib.hid (HIS.out w7 k7)
        have HK7 := Lib.hid k7
        clear k7 hk7 HIS HE0 HE1
        go_wp2_with fail
        refine HI7.out.mono ?_
        clear HI7 e0 e1
        rintro e' w8 ⟨rfl, hk8⟩
        have HK8 := Lib.hid (HK7.out.trans_same hk8)
        clear hk8
        go_wp2_with fail
        refine (known_any _).mono ?_
        rintro e' w9 ⟨rfl, hk9⟩
        have HK9 := Lib.hid (HK4.out.trans_same (HK8.out.trans_same hk9))
        clear hk9
        go_wp2_with fail
        go_ret
        exact ⟨rfl, HK9.out⟩
      · have hv5 : bits .and .i64 v 3 = 1 := hv4
        obtain ⟨j, hj⟩ : ∃ j, K = j + 1 := ⟨K - 1, (Nat.sub_add_cancel hp).symm⟩
        have hjK : j < K := hj ▸ Nat.lt_succ_self j
        have hkj2 : (K : Int) - 1 = (j : Int) := by rw [hj]; simp
        have hwj : wrap64 (j : Int) = (j : Int) := wrapG hjK HKM.out
        obtain ⟨x, hx⟩ : ∃ x, L[j]? = some x := ⟨L[j]'(by rw [← HKL.out]; exact hjK), by simp⟩
        have HN := Lib.hid (bad_end hx (HKL.out.symm.trans hj))
        obtain ⟨t1, _⟩ := tbV_at _ _ _ hx
        obtain ⟨g', off', hg', _, _, r0⟩ := HO3.out.rd'.at_ t1
        obtain ⟨rfl, rfl⟩ : g = g' ∧ off = off' := by simpa using hg'
        rw [Nat.mul_comm 2] at r0
        have hown : Mer.Own (W3.setCell ⟨B7, 1, none⟩ (.int .i64 x.1)) 38 2 (.slice (some ⟨g, off, none⟩) K c') K (tbV L) :=
          HO3.out.keep (Kp.setCell (S := Mer.One B7) (p := ⟨B7, 1, none⟩) (Kp.refl _ _) (.inl rfl) _) (fun g' hg hx => hgne ((Option.some.inj hg).trans hx))
        have p0 : W3.cell? ⟨B7, 1, none⟩ = some (.int .i64 e) := cell_at HB3.out 1
        have f0 : W3.frozen? ⟨B7, 1, none⟩ = false := free_at HB3.out _
        have hgl := get_lt HB3.out
        clear hj hg' t1
        obtain ⟨W4, hW4⟩ : ∃ W, W = W3.setCell ⟨B7, 1, none⟩ (.int .i64 x.1) := ⟨_, rfl⟩
        have hb4 : W4.heap[B7]? = some (.cells #[.slice (some ⟨g, off, none⟩) K c', .int .i64 (x.1)] 24 (0, 0)) := by rw [hW4]; exact (set_at HB3.out 1 (.int .i64 x.1))
        rw [← hW4] at hown
        have hll : (L).length = K := by simpa using HKL.out.symm
        have hof := Of_any W4 (L) (x.1) ⟨g, off, none⟩ c' _ hown.rd' (by rw [hll]; exact HKM.out)
        rw [show ofF (L) (x.1) = ([], 0, 12) by unfold ofF; rw [HN.out]; rfl, hll] at hof
        have hpr := fun W (h' : Kp No W4 W) => Print_no (L) (x.1) W (some ⟨g, off, none⟩) c' _ (hown.rd'.keep h' fun _ _ x => x) (by rw [hll]; exact HKM.out) (by rw [hll]; exact HP.out.2.2.2.2) HN.out
        have his4 := fun W (h' : Kp No W4 W) => Is_any (L) (x.1) W (some ⟨g, off, none⟩) c' _ (hown.rd'.keep h' fun _ _ x => x) (by rw [hll]; exact HKM.out) (by rw [hll]; exact HP.out.2.2.2.2)
        simp only [hll] at hpr his4
        simp only [HN.out] at his4
        have hE0 : ∀ W, Kp No W4 W → W.cell? ⟨B7, 0, none⟩ = some (.slice (some ⟨g, off, none⟩) K c') := fun W h => by rw [cell_at (h.get hb4 fun x => x)]; rfl
        have hE1 : ∀ W, Kp No W4 W → W.cell? ⟨B7, 1, none⟩ = some (.int .i64 (x.1)) := fun W h => by rw [cell_at (h.get hb4 fun x => x)]; rfl
        have e0 := hE0 W4 (Kp.refl _ _)
        have e1 := hE1 W4 (Kp.refl _ _)
        rw [hW4] at e0 e1
        have HOF := Lib.hid hof
        have HPR := Lib.hid hpr
        have HIS := Lib.hid his4
        have HE0 := Lib.hid hE0
        have HE1 := Lib.hid hE1
        have HW4 := Lib.hid hW4
        have HK4 : Hid (Kp No w W4) := Lib.hid (by
          rw [hW4]
          exact Kp.setCell HK3.out (.inr HP.out.2.1) _)
        clear hof hpr his4 hE0 hE1 hW4 hb4 hown hll
        go_wp2_with fail
        rw [← HW4.out]
        refine HOF.out.mono ?_
        clear HOF e0 e1 d0 d1
        rintro e' w5 ⟨a9, c9, rfl, _, _, hk5, _⟩
        obtain ⟨W6, hW6⟩ : ∃ W, W = w5.alloc (.cells #[.slice a9 0 c9, .int .i64 0] 24 (0, 0)) := ⟨_, rfl⟩
        have k6 : Kp No W4 W6 := by rw [hW6]; exact hk5.alloc _
        have e0 := HE0.out W6 k6
        have e1 := HE1.out W6 k6
        rw [hW6] at e0 e1
        have HP6 := Lib.hid (HPR.out W6 k6)
        have HK6 := Lib.hid k6
        have HW6 := Lib.hid hW6
        clear hW6 k6 hk5 HPR
        simp only [List.length_nil]
        go_wp2_with fail
        rw [← HW6.out]
        refine HP6.out.mono ?_
        clear HP6 e0 e1
        rintro e' w7 ⟨rfl, hk7⟩
        have k7 : Kp No W4 w7 := HK6.out.trans_same hk7
        have e0 := HE0.out w7 k7
        have e1 := HE1.out w7 k7
        have HI7 := Lib.hid (HIS.out w7 k7)
        have HK7 := Lib.hid k7
        clear k7 hk7 HIS HE0 HE1
        go_wp2_with fail
        refine HI7.out.mono ?_
        clear HI7 e0 e1
        rintro e' w8 ⟨rfl, hk8⟩
        have HK8 := Lib.hid (HK7.out.trans_same hk8)
        clear hk8
        go_wp2_with fail
        refine (known_any _).mono ?_
        rintro e' w9 ⟨rfl, hk9⟩
        have HK9 := Lib.hid (HK4.out.trans_same (HK8.out.trans_same hk9))
        clear hk9
        go_wp2_with fail
        go_ret
        exact ⟨rfl, HK9.out⟩
      · have hv5 : bits .and .i64 v 3 = 2 := hv4
        rcases Nat.lt_or_ge K 2 with hK2 | hK2
        ·
          have g1 : decide (K < 2) = true := decide_eq_true hK2
          have g2 : decide ((K : Int) < 2) = true := by rw [decide_eq_true_iff]; exact Int.ofNat_lt.2 hK2
          go_wp2_with fail
          refine (known_any _).mono ?_
          rintro e' w9 ⟨rfl, hk9⟩
          have HK9 := Lib.hid (HK3.out.trans_same hk9)
          clear hk9
          go_wp2_with fail
          go_ret
          exact ⟨rfl, HK9.out⟩
        ·
          have g1 : decide (K < 2) = false := by rw [decide_eq_false_iff_not]; exact Nat.not_lt.2 hK2
          have g2 : decide ((K : Int) < 2) = false := by rw [decide_eq_false_iff_not]; intro h; exact Nat.not_lt.2 hK2 (Int.ofNat_lt.1 h)
          obtain ⟨j, hj⟩ : ∃ j, K = j + 1 := ⟨K - 1, (Nat.sub_add_cancel hp).symm⟩
          have hj0 : 0 < j := posG hj hK2
          have hkj2 : (K : Int) - 1 = (j : Int) := by rw [hj]; simp
          have hwj : wrap64 (j : Int) = (j : Int) := wrapG (hj ▸ Nat.lt_succ_self j) HKM.out
          obtain ⟨i, hi⟩ : ∃ i, i = v1 % j := ⟨_, rfl⟩
          have hij : i < j := by rw [hi]; exact Nat.mod_lt _ hj0
          have hr1 : (v1 : Int).tmod (j : Int) = (i : Int) := by rw [hi, Int.tmod_eq_emod_of_nonneg (Int.natCast_nonneg _)]; exact (Int.natCast_emod v1 j).symm
          have hr2 : (v1 : Int) % (j : Int) = (i : Int) := by rw [hi]; exact (Int.natCast_emod v1 j).symm
          have hjz : ((j : Int) == 0) = false := by rw [beq_eq_false_iff_ne]; intro h; exact Nat.ne_of_gt hj0 (Int.natCast_eq_zero.1 h)
          have hjz' : ¬ (j : Int) = 0 := fun h => Nat.ne_of_gt hj0 (Int.natCast_eq_zero.1 h)
          obtain ⟨kk, hkk⟩ : ∃ kk, kk = i + 1 := ⟨_, rfl⟩
          have hkkK : kk < K := by rw [hkk, hj]; exact Nat.succ_lt_succ hij
          have ha1 : 1 + (i : Int) = (kk : Int) := by rw [hkk]; push_cast; exact Int.add_comm _ _
          have hwkk : wrap64 (kk : Int) = (kk : Int) := wrapG hkkK HKM.out
          have hwi : wrap64 (i : Int) = (i : Int) := wrapG (Nat.lt_trans (hkk ▸ Nat.lt_succ_self i) hkkK) HKM.out
          obtain ⟨x, hx⟩ : ∃ x, L[kk]? = some x := ⟨L[kk]'(by rw [← HKL.out]; exact hkkK), by simp⟩
          obtain ⟨y, hy⟩ : ∃ y, L[i]? = some y := ⟨L[i]'(by rw [← HKL.out]; exact Nat.lt_trans (hkk ▸ Nat.lt_succ_self i) hkkK), by simp⟩
          have HKK := Lib.hid hkk
          have hs : wrap64 ((K : Int) - 1) = (j : Int) := by rw [hkj2]; exact hwj
          clear hi hj hK2 hkk hkj2 hwj hwi
          go_upto_region 18 with fail
          have hbd := bdG hkkK hfit
          obtain ⟨t1, _⟩ := tbV_at _ _ _ hx
          obtain ⟨_, t2⟩ := tbV_at _ _ _ hy
          have q1 : ∀ W, Kp No W3 W → W.cell? ⟨B7, 0, none⟩ = some (.slice (some ⟨g, off, none⟩) K c') := fun W h => by rw [cell_at (h.get HB3.out fun x => x)]; rfl
          have bx := isF_day HIF.out hx
          have hwx : wrap64 (x.1 + 1) = x.1 + 1 := wrapD bx.1 bx.2.1
          have hnot := (by rw [HKK.out]; exact bad_day HIF.out (HKK.out ▸ hx) : isF (L.set kk (x.1 + 1, x.2)) e = false)
          clear bx
          have q2 : ∀ W, Kp No W3 W → W.cell? ⟨g, off + kk * 2, none⟩ = some (.int .i64 x.1) := fun W h => by
            obtain ⟨g', off', hg', _, _, r0⟩ := ((HO3.out.keep h fun _ _ x => x).rd'.at_ t1)
            obtain ⟨rfl, rfl⟩ : g = g' ∧ off = off' := by simpa using hg'
            rw [Nat.mul_comm 2] at r0
            exact r0
          clear t1 t2
          refine wp_region_last (Kp No W3) [0,0,0,0,0,0,0,0,0,0,0,0,2] [0,1,2,3,4,5,6,7,8,9,10,11] 12 (by kernel_rfl) (by kernel_rfl) (fun _ n h => h.drewN n) (Kp.refl _ _) ?_
          repeat (first
            | (apply wpOrd_skip rfl (by decide) rfl; (focus (go_simp; rfl)))
            | (apply wpOrd_pure rfl rfl rfl; (focus (intro _ _; go_simp; (try go_ints); rfl)); (focus (go_simp; rfl)))
            | (apply wpOrd_read rfl rfl rfl; (focus (intro _; go_simp; (try go_ints); rfl)); (focus (go_simp; rfl))))
          refine last_now (fun n4 => ?_)
          refine wpOrd_eff rfl rfl (fun n5 => ?_)
          obtain ⟨W9, hW9⟩ : ∃ W, W = (W3.drewN n4).drewN n5 := ⟨_, rfl⟩
          have k9 : Kp No W3 W9 := by rw [hW9]; exact ((Kp.refl _ _).drewN n4).drewN n5
          rw [← hW9]
          have hb9 := k9.get HB3.out fun x => x
          have hg9 := k9.get HG3.out fun x => x
          have HN := Lib.hid hnot
          have hown := own_set (HO3.out.keep k9 fun _ _ x => x) (kk * 2) hbd.2.2.2 (.int .i64 (x.1 + 1))
          rw [← tbV_day L kk x (x.1 + 1) hx] at hown
          have p0 : W9.cell? ⟨g, off + kk * 2, none⟩ = some (cur[off + kk * 2]'hbd.2.2.1) := by rw [cell_at hg9]; exact Array.getElem?_eq_getElem hbd.2.2.1
          have f0 : W9.frozen? ⟨g, off + kk * 2, none⟩ = false := free_at hg9 _
          have hgl := get_lt hg9
          have HK9 := Lib.hid k9
          have HB9 := Lib.hid hb9
          clear hW9 k9 hb9 hg9 q1 q2 hx hy
          go_wp2_with fail
          intro nr
          have hown := hown.drewN nr
          obtain ⟨W4, hW4⟩ : ∃ W, W = (W9.setCell ⟨g, off + kk * 2, none⟩ (.int .i64 (x.1 + 1))).drewN nr := ⟨_, rfl⟩
          have hb4 : W4.heap[B7]? = some (.cells #[.slice (some ⟨g, off, none⟩) K c', .int .i64 (e)] 24 (0, 0)) := by rw [hW4]; exact (set_far HB9.out (p := ⟨g, off + kk * 2, none⟩) (fun h => hgne h.symm) _)
          rw [← hW4] at hown
          have hll : (L.set kk (x.1 + 1, x.2)).length = K := by simpa using HKL.out.symm
          have hof := Of_any W4 (L.set kk (x.1 + 1, x.2)) (e) ⟨g, off, none⟩ c' _ hown.rd' (by rw [hll]; exact HKM.out)
          rw [show ofF (L.set kk (x.1 + 1, x.2)) (e) = ([], 0, 12) by unfold ofF; rw [HN.out]; rfl, hll] at hof
          have hpr := fun W (h' : Kp No W4 W) => Print_no (L.set kk (x.1 + 1, x.2)) (e) W (some ⟨g, off, none⟩) c' _ (hown.rd'.keep h' fun _ _ x => x) (by rw [hll]; exact HKM.out) (by rw [hll]; exact HP.out.2.2.2.2) HN.out
          have his4 := fun W (h' : Kp No W4 W) => Is_any (L.set kk (x.1 + 1, x.2)) (e) W (some ⟨g, off, none⟩) c' _ (hown.rd'.keep h' fun _ _ x => x) (by rw [hll]; exact HKM.out) (by rw [hll]; exact HP.out.2.2.2.2)
          simp only [hll] at hpr his4
          simp only [HN.out] at his4
          have hE0 : ∀ W, Kp No W4 W → W.cell? ⟨B7, 0, none⟩ = some (.slice (some ⟨g, off, none⟩) K c') := fun W h => by rw [cell_at (h.get hb4 fun x => x)]; rfl
          have hE1 : ∀ W, Kp No W4 W → W.cell? ⟨B7, 1, none⟩ = some (.int .i64 (e)) := fun W h => by rw [cell_at (h.get hb4 fun x => x)]; rfl
          have e0 := hE0 W4 (Kp.refl _ _)
          have e1 := hE1 W4 (Kp.refl _ _)
          rw [hW4] at e0 e1
          have HOF := Lib.hid hof
          have HPR := Lib.hid hpr
          have HIS := Lib.hid his4
          have HE0 := Lib.hid hE0
          have HE1 := Lib.hid hE1
          have HW4 := Lib.hid hW4
          have HK4 : Hid (Kp No w W4) := Lib.hid (by
            rw [hW4]
            exact (Kp.setCell (HK3.out.trans_same HK9.out) (.inr HP.out.1) _).drewN nr)
          clear hof hpr his4 hE0 hE1 hW4 hb4 hown hll
          go_wp2_with fail
          rw [← HW4.out]
          refine HOF.out.mono ?_
          clear HOF e0 e1 d0 d1
          rintro e' w5 ⟨a9, c9, rfl, _, _, hk5, _⟩
          obtain ⟨W6, hW6⟩ : ∃ W, W = w5.alloc (.cells #[.slice a9 0 c9, .int .i64 0] 24 (0, 0)) := ⟨_, rfl⟩
          have k6 : Kp No W4 W6 := by rw [hW6]; exact hk5.alloc _
          have e0 := HE0.out W6 k6
          have e1 := HE1.out W6 k6
          rw [hW6] at e0 e1
          have HP6 := Lib.hid (HPR.out W6 k6)
          have HK6 := Lib.hid k6
          have HW6 := Lib.hid hW6
          clear hW6 k6 hk5 HPR
          simp only [List.length_nil]
          go_wp2_with fail
          rw [← HW6.out]
          refine HP6.out.mono ?_
          clear HP6 e0 e1
          rintro e' w7 ⟨rfl, hk7⟩
          have k7 : Kp No W4 w7 := HK6.out.trans_same hk7
          have e0 := HE0.out w7 k7
          have e1 := HE1.out w7 k7
          have HI7 := Lib.hid (HIS.out w7 k7)
          have HK7 := Lib.hid k7
          clear k7 hk7 HIS HE0 HE1
          go_wp2_with fail
          refine HI7.out.mono ?_
          clear HI7 e0 e1
          rintro e' w8 ⟨rfl, hk8⟩
          have HK8 := Lib.hid (HK7.out.trans_same hk8)
          clear hk8
          go_wp2_with fail
          refine (known_any _).mono ?_
          rintro e' w9 ⟨rfl, hk9⟩
          have HK9 := Lib.hid (HK4.out.trans_same (HK8.out.trans_same hk9))
          clear hk9
          go_wp2_with fail
          go_ret
          exact ⟨rfl, HK9.out⟩
      · have hv5 : bits .and .i64 v 3 = 3 := hv4
        rcases Nat.lt_or_ge K 2 with hK2 | hK2
        ·
          have g1 : decide (K < 2) = true := decide_eq_true hK2
          have g2 : decide ((K : Int) < 2) = true := by rw [decide_eq_true_iff]; exact Int.ofNat_lt.2 hK2
          go_wp2_with fail
          refine (known_any _).mono ?_
          rintro e' w9 ⟨rfl, hk9⟩
          have HK9 := Lib.hid (HK3.out.trans_same hk9)
          clear hk9
          go_wp2_with fail
          go_ret
          exact ⟨rfl, HK9.out⟩
        ·
          have g1 : decide (K < 2) = false := by rw [decide_eq_false_iff_not]; exact Nat.not_lt.2 hK2
          have g2 : decide ((K : Int) < 2) = false := by rw [decide_eq_false_iff_not]; intro h; exact Nat.not_lt.2 hK2 (Int.ofNat_lt.1 h)
          obtain ⟨j, hj⟩ : ∃ j, K = j + 1 := ⟨K - 1, (Nat.sub_add_cancel hp).symm⟩
          have hj0 : 0 < j := posG hj hK2
          have hkj2 : (K : Int) - 1 = (j : Int) := by rw [hj]; simp
          have hwj : wrap64 (j : Int) = (j : Int) := wrapG (hj ▸ Nat.lt_succ_self j) HKM.out
          obtain ⟨i, hi⟩ : ∃ i, i = v1 % j := ⟨_, rfl⟩
          have hij : i < j := by rw [hi]; exact Nat.mod_lt _ hj0
          have hr1 : (v1 : Int).tmod (j : Int) = (i : Int) := by rw [hi, Int.tmod_eq_emod_of_nonneg (Int.natCast_nonneg _)]; exact (Int.natCast_emod v1 j).symm
          have hr2 : (v1 : Int) % (j : Int) = (i : Int) := by rw [hi]; exact (Int.natCast_emod v1 j).symm
          have hjz : ((j : Int) == 0) = false := by rw [beq_eq_false_iff_ne]; intro h; exact Nat.ne_of_gt hj0 (Int.natCast_eq_zero.1 h)
          have hjz' : ¬ (j : Int) = 0 := fun h => Nat.ne_of_gt hj0 (Int.natCast_eq_zero.1 h)
          obtain ⟨kk, hkk⟩ : ∃ kk, kk = i + 1 := ⟨_, rfl⟩
          have hkkK : kk < K := by rw [hkk, hj]; exact Nat.succ_lt_succ hij
          have ha1 : 1 + (i : Int) = (kk : Int) := by rw [hkk]; push_cast; exact Int.add_comm _ _
          have hwkk : wrap64 (kk : Int) = (kk : Int) := wrapG hkkK HKM.out
          have hwi : wrap64 (i : Int) = (i : Int) := wrapG (Nat.lt_trans (hkk ▸ Nat.lt_succ_self i) hkkK) HKM.out
          obtain ⟨x, hx⟩ : ∃ x, L[kk]? = some x := ⟨L[kk]'(by rw [← HKL.out]; exact hkkK), by simp⟩
          obtain ⟨y, hy⟩ : ∃ y, L[i]? = some y := ⟨L[i]'(by rw [← HKL.out]; exact Nat.lt_trans (hkk ▸ Nat.lt_succ_self i) hkkK), by simp⟩
          have HKK := Lib.hid hkk
          have hs : wrap64 ((K : Int) - 1) = (j : Int) := by rw [hkj2]; exact hwj
          clear hi hj hK2 hkk hkj2 hwj hwi
          go_upto_region 9 with fail
          have hbd := bdG hkkK hfit
          obtain ⟨t1, _⟩ := tbV_at _ _ _ hx
          obtain ⟨_, t2⟩ := tbV_at _ _ _ hy
          have q1 : ∀ W, Kp No W3 W → W.cell? ⟨B7, 0, none⟩ = some (.slice (some ⟨g, off, none⟩) K c') := fun W h => by rw [cell_at (h.get HB3.out fun x => x)]; rfl
          have hnot := (by rw [HKK.out]; exact bad_same hy (HKK.out ▸ hx) : isF (L.set kk (x.1, y.2)) e = false)
          have hik : wrap64 ((kk : Int) - 1) = (i : Int) := by
            rw [← ha1, Int.add_comm, Int.add_sub_cancel]
            exact wrapG (Nat.lt_trans (show i < kk by rw [HKK.out]; exact Nat.lt_succ_self i) hkkK) HKM.out
          have hiK : i < K := Nat.lt_trans (show i < kk by rw [HKK.out]; exact Nat.lt_succ_self i) hkkK
          have q2 : ∀ W, Kp No W3 W → W.cell? ⟨g, off + i * 2 + 1, none⟩ = some (.int .i64 y.2) := fun W h => by
            obtain ⟨g', off', hg', _, _, r0⟩ := ((HO3.out.keep h fun _ _ x => x).rd'.at_ t2)
            obtain ⟨rfl, rfl⟩ : g = g' ∧ off = off' := by simpa using hg'
            rw [Nat.mul_comm 2] at r0
            exact r0
          clear t1 t2
          refine wp_region_last (Kp No W3) [0,0,0,0,0,0,0,0,0,0,0,0,2] [0,1,2,3,4,5,6,7,8,9,10,11] 12 (by kernel_rfl) (by kernel_rfl) (fun _ n h => h.drewN n) (Kp.refl _ _) ?_
          repeat (first
            | (apply wpOrd_skip rfl (by decide) rfl; (focus (go_simp; rfl)))
            | (apply wpOrd_pure rfl rfl rfl; (focus (intro _ _; go_simp; (try go_ints); rfl)); (focus (go_simp; rfl)))
            | (apply wpOrd_read rfl rfl rfl; (focus (intro _; go_simp; (try go_ints); rfl)); (focus (go_simp; rfl))))
          refine last_now (fun n4 => ?_)
          refine wpOrd_eff rfl rfl (fun n5 => ?_)
          obtain ⟨W9, hW9⟩ : ∃ W, W = (W3.drewN n4).drewN n5 := ⟨_, rfl⟩
          have k9 : Kp No W3 W9 := by rw [hW9]; exact ((Kp.refl _ _).drewN n4).drewN n5
          rw [← hW9]
          have hb9 := k9.get HB3.out fun x => x
          have hg9 := k9.get HG3.out fun x => x
          have HN := Lib.hid hnot
          have hown := own_set (HO3.out.keep k9 fun _ _ x => x) (kk * 2 + 1) hbd.1 (.int .i64 (y.2))
          rw [← tbV_off L kk x y.2 hx, ← Nat.add_assoc] at hown
          have p0 : W9.cell? ⟨g, off + kk * 2 + 1, none⟩ = some (cur[off + kk * 2 + 1]'hbd.2.1) := by rw [cell_at hg9]; exact Array.getElem?_eq_getElem hbd.2.1
          have f0 : W9.frozen? ⟨g, off + kk * 2 + 1, none⟩ = false := free_at hg9 _
          have hgl := get_lt hg9
          have HK9 := Lib.hid k9
          have HB9 := Lib.hid hb9
          clear hW9 k9 hb9 hg9 q1 q2 hx hy
          go_wp2_with fail
          intro nr
          have hown := hown.drewN nr
          obtain ⟨W4, hW4⟩ : ∃ W, W = (W9.setCell ⟨g, off + kk * 2 + 1, none⟩ (.int .i64 (y.2))).drewN nr := ⟨_, rfl⟩
          have hb4 : W4.heap[B7]? = some (.cells #[.slice (some ⟨g, off, none⟩) K c', .int .i64 (e)] 24 (0, 0)) := by rw [hW4]; exact (set_far HB9.out (p := ⟨g, off + kk * 2 + 1, none⟩) (fun h => hgne h.symm) _)
          rw [← hW4] at hown
          have hll : (L.set kk (x.1, y.2)).length = K := by simpa using HKL.out.symm
          have hof := Of_any W4 (L.set kk (x.1, y.2)) (e) ⟨g, off, none⟩ c' _ hown.rd' (by rw [hll]; exact HKM.out)
          rw [show ofF (L.set kk (x.1, y.2)) (e) = ([], 0, 12) by unfold ofF; rw [HN.out]; rfl, hll] at hof
          have hpr := fun W (h' : Kp No W4 W) => Print_no (L.set kk (x.1, y.2)) (e) W (some ⟨g, off, none⟩) c' _ (hown.rd'.keep h' fun _ _ x => x) (by rw [hll]; exact HKM.out) (by rw [hll]; exact HP.out.2.2.2.2) HN.out
          have his4 := fun W (h' : Kp No W4 W) => Is_any (L.set kk (x.1, y.2)) (e) W (some ⟨g, off, none⟩) c' _ (hown.rd'.keep h' fun _ _ x => x) (by rw [hll]; exact HKM.out) (by rw [hll]; exact HP.out.2.2.2.2)
          simp only [hll] at hpr his4
          simp only [HN.out] at his4
          have hE0 : ∀ W, Kp No W4 W → W.cell? ⟨B7, 0, none⟩ = some (.slice (some ⟨g, off, none⟩) K c') := fun W h => by rw [cell_at (h.get hb4 fun x => x)]; rfl
          have hE1 : ∀ W, Kp No W4 W → W.cell? ⟨B7, 1, none⟩ = some (.int .i64 (e)) := fun W h => by rw [cell_at (h.get hb4 fun x => x)]; rfl
          have e0 := hE0 W4 (Kp.refl _ _)
          have e1 := hE1 W4 (Kp.refl _ _)
          rw [hW4] at e0 e1
          have HOF := Lib.hid hof
          have HPR := Lib.hid hpr
          have HIS := Lib.hid his4
          have HE0 := Lib.hid hE0
          have HE1 := Lib.hid hE1
          have HW4 := Lib.hid hW4
          have HK4 : Hid (Kp No w W4) := Lib.hid (by
            rw [hW4]
            exact (Kp.setCell (HK3.out.trans_same HK9.out) (.inr HP.out.1) _).drewN nr)
          clear hof hpr his4 hE0 hE1 hW4 hb4 hown hll
          go_wp2_with fail
          rw [← HW4.out]
          refine HOF.out.mono ?_
          clear HOF e0 e1 d0 d1
          rintro e' w5 ⟨a9, c9, rfl, _, _, hk5, _⟩
          obtain ⟨W6, hW6⟩ : ∃ W, W = w5.alloc (.cells #[.slice a9 0 c9, .int .i64 0] 24 (0, 0)) := ⟨_, rfl⟩
          have k6 : Kp No W4 W6 := by rw [hW6]; exact hk5.alloc _
          have e0 := HE0.out W6 k6
          have e1 := HE1.out W6 k6
          rw [hW6] at e0 e1
          have HP6 := Lib.hid (HPR.out W6 k6)
          have HK6 := Lib.hid k6
          have HW6 := Lib.hid hW6
          clear hW6 k6 hk5 HPR
          simp only [List.length_nil]
          go_wp2_with fail
          rw [← HW6.out]
          refine HP6.out.mono ?_
          clear HP6 e0 e1
          rintro e' w7 ⟨rfl, hk7⟩
          have k7 : Kp No W4 w7 := HK6.out.trans_same hk7
          have e0 := HE0.out w7 k7
          have e1 := HE1.out w7 k7
          have HI7 := Lib.hid (HIS.out w7 k7)
          have HK7 := Lib.hid k7
          clear k7 hk7 HIS HE0 HE1
          go_wp2_with fail
          refine HI7.out.mono ?_
          clear HI7 e0 e1
          rintro e' w8 ⟨rfl, hk8⟩
          have HK8 := Lib.hid (HK7.out.trans_same hk8)
          clear hk8
          go_wp2_with fail
          refine (known_any _).mono ?_
          rintro e' w9 ⟨rfl, hk9⟩
          have HK9 := Lib.hid (HK4.out.trans_same (HK8.out.trans_same hk9))
          clear hk9
          go_wp2_with fail
          go_ret
          exact ⟨rfl, HK9.out⟩
end Go.Proofs.YtapikolgpmefbaaGreatDoor
