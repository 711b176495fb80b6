/-
  The law LeapOf, of any table.
-/
import Derived.Test.YtapikolgpmefbaaDoorLKnown
import Derived.Test.YtapikolgpmefbaaDoorLTables
import Derived.Test.YtapikolgpmefbaaDoorLOf
namespace Go.Proofs.YtapikolgpmefbaaDoor
open Go.RowKit Go.Mer

set_option maxRecDepth 20000 in
set_option maxHeartbeats 1000000 in
theorem Of_law (w : World) (a : Option Addr) (cap : Nat) (L : List (Int × Int)) (n : Int) (hR : Rd w w.heap.size a (tbV L)) (hl : L.length ≤ cap) :
    Calls Tryd.prog 7 #[.agg #[.slice a L.length cap, .int .i64 n]] w fun e w' => e = .returned (.bool true) ∧ Kp No w w' := by
  obtain ⟨W0, hW0⟩ : ∃ W0, W0 = w.alloc (.cells #[.slice a L.length cap, .int .i64 n] 24 (0, 0)) := ⟨_, rfl⟩
  have hb : W0.heap[w.heap.size]? = some (.cells #[.slice a L.length cap, .int .i64 n] 24 (0, 0)) := by rw [hW0]; exact heap_alloc_new w _
  have hk0 : Kp No w W0 := by rw [hW0]; exact (Kp.refl _ _).alloc _
  have hs0 : W0.heap.size = w.heap.size + 1 := by rw [hW0]; simp
  rcases Nat.lt_or_ge 300 L.length with h | h
  · have h1 : decide (300 < L.length) = true := decide_eq_true h
    have h2 : decide ((300 : Int) < (L.length : Int)) = true := by rw [decide_eq_true_iff]; omega
    have HK := Lib.hid hk0
    have HW := Lib.hid hW0
    clear hW0 hk0 hR hb hs0
    go_enter Tryd.func7, Tryd.ntmps7
    go_wp2_with fail
    rw [← HW.out]
    go_ret
    exact ⟨rfl, HK.out⟩
  · have h1 : decide (300 < L.length) = false := by rw [decide_eq_false_iff_not]; omega
    have h2 : decide ((300 : Int) < (L.length : Int)) = false := by rw [decide_eq_false_iff_not]; omega
    have hL : L.length ≤ 1000000 := by omega
    have hR0 : Rd W0 w.heap.size a (tbV L) := hR.keep hk0 fun _ _ x => x
    obtain ⟨a1, cp, w1, hrun, ho, hg, hk, hc, hn⟩ := copy_run W0 L a cap _ hR0 hL
    obtain ⟨ad, rfl⟩ := Option.ne_none_iff_exists'.1 hn
    obtain ⟨g1, off, cur, rfl, hg1, hfit⟩ : ∃ g1 off cur, ad = ⟨g1, off, none⟩ ∧ w1.heap[g1]? = some (.cells cur 31 (0, 0)) ∧ off + L.length * 2 ≤ cur.size := by
      obtain ⟨_, a', c', hv, q1, _, _, q4⟩ := id ho
      injection hv with e1 e2 e3
      obtain ⟨g, off, cur, r1, r2, r3, _⟩ := q4 ad e1.symm
      exact ⟨g, off, cur, r1, r2, by omega⟩
    have hgl : W0.heap.size ≤ g1 := hg g1 rfl
    have hg1l : g1 < w1.heap.size := get_lt hg1
    have HOF := Lib.hid (Of_any w1 L n ⟨g1, off, none⟩ cp _ ho.rd' hL)
    have HRO := Lib.hid (fun W (h' : Kp No W0 W) => rOf_any W L n a cap _ (hR0.keep h' fun _ _ x => x) hL)
    obtain ⟨K, hK⟩ : ∃ K, K = L.length := ⟨_, rfl⟩
    obtain ⟨r, hr⟩ : ∃ r, r = ofF L n := ⟨_, rfl⟩
    obtain ⟨R, x, f⟩ := r
    have e0 : w1.cell? ⟨w.heap.size, 0, none⟩ = some (.slice a L.length cap) := by rw [cell_at (hk.get hb fun x => x)]; rfl
    have e1 : w1.cell? ⟨w.heap.size, 1, none⟩ = some (.int .i64 n) := by rw [cell_at (hk.get hb fun x => x)]; rfl
    rw [hs0, hW0] at hrun
    rw [← hK] at HOF HRO hW0 hb h1 h2 hrun ho hc hfit e0
    rw [← hK]
    rw [← hr] at HOF HRO
    have HRUN := Lib.hid hrun
    have HO := Lib.hid ho
    have HG := Lib.hid (And.intro hgl (And.intro hg1l (And.intro hg1 (And.intro hfit hc))))
    have HK1 := Lib.hid hk
    have HK0 := Lib.hid hk0
    have HW := Lib.hid hW0
    have HB := Lib.hid hb
    have HR0 := Lib.hid hR0
    have HKL := Lib.hid hK
    have HRR := Lib.hid hr
    have HLN := Lib.hid h
    clear hrun ho hg hgl hg1l hg1 hfit hc hk hk0 hW0 hb hR0 hR hK hr h hL hn hs0
    go_enter Tryd.func7, Tryd.ntmps7
    go_wp2_with (first | (at_builtin; refine wpList_append_run rfl rfl rfl rfl HRUN.out ?_; clear HRUN))
    refine HOF.out.mono ?_
    clear HOF
    rintro e' w2 ⟨a2, c2, rfl, ho2, hg2, hk2, hc2⟩
    simp only at ho2 hg2 hc2 ⊢
    obtain ⟨Q, hQ⟩ : ∃ Q, Q = R.length := ⟨_, rfl⟩
    rw [← hQ] at ho2 hg2 hc2 ⊢
    obtain ⟨W3, hW3⟩ : ∃ W, W = w2.alloc (.cells #[.slice a2 Q c2, .int .i64 x] 24 (0, 0)) := ⟨_, rfl⟩
    have hk3 : Kp No w2 W3 := by rw [hW3]; exact (Kp.refl _ _).alloc _
    have b3 : W3.heap[w2.heap.size]? = some (.cells #[.slice a2 Q c2, .int .i64 x] 24 (0, 0)) := by rw [hW3]; exact heap_alloc_new w2 _
    have k03 : Kp No W0 W3 := (HK1.out.trans_same hk2).trans_same hk3
    have e3 : W3.cell? ⟨w.heap.size, 0, none⟩ = some (.slice a K cap) := by rw [cell_at (k03.get HB.out fun x => x)]; rfl
    have e4 : W3.cell? ⟨w.heap.size, 1, none⟩ = some (.int .i64 n) := by rw [cell_at (k03.get HB.out fun x => x)]; rfl
    have HROF := Lib.hid (HRO.out W3 k03)
    obtain ⟨B2, hB2⟩ : ∃ B, B = w2.heap.size := ⟨_, rfl⟩
    have HW3 := Lib.hid hW3
    have HK3 := Lib.hid (hk2.trans_same hk3)
    have HO2 := Lib.hid (And.intro (ho2.keep hk3 fun _ _ x => x) (And.intro hg2 hc2))
    rw [← hB2] at b3
    have HB3 := Lib.hid b3
    have HB2 := Lib.hid hB2
    have HS2 := Lib.hid hk2.size
    have HQ := Lib.hid hQ
    rw [hW3] at e3 e4
    clear hW3 hk3 b3 k03 e0 e1 HRO ho2 hg2 hc2 hB2 hQ hk2
    go_wp2_with fail
    rw [← HW3.out, ← HB2.out]
    refine HROF.out.mono ?_
    clear HROF e3 e4
    rintro e' w4 ⟨a4, c4, rfl, ho4, hg4, hk4, hc4⟩
    simp only at ho4 hg4 hc4 ⊢
    rw [← HQ.out] at ho4 hg4 hc4 ⊢
    obtain ⟨W5, hW5⟩ : ∃ W, W = w4.alloc (.cells #[.slice a4 Q c4, .int .i64 x] 24 (0, 0)) := ⟨_, rfl⟩
    have hk5 : Kp No w4 W5 := by rw [hW5]; exact (Kp.refl _ _).alloc _
    have b5 : W5.heap[w4.heap.size]? = some (.cells #[.slice a4 Q c4, .int .i64 x] 24 (0, 0)) := by rw [hW5]; exact heap_alloc_new w4 _
    have k35 : Kp No W3 W5 := hk4.trans_same hk5
    have k15 : Kp No w1 W5 := HK3.out.trans_same k35
    have k05 : Kp No W0 W5 := HK1.out.trans_same k15
    have e3 : W5.cell? ⟨w.heap.size, 0, none⟩ = some (.slice a K cap) := by rw [cell_at (k05.get HB.out fun x => x)]; rfl
    have HT := Lib.hid (tables_same W5 L 0 (some ⟨g1, off, none⟩) a cp cap _ _ ((HO.out.keep k15 fun _ _ x => x).rd') (HR0.out.keep k05 fun _ _ x => x) (by have := HLN.out; omega))
    rw [← HKL.out] at HT
    have HI := Lib.hid (fun W (h' : Kp No W5 W) => Is_any L n W a cap _ (HR0.out.keep (k05.trans_same h') fun _ _ x => x) (by have := HLN.out; omega) hl)
    rw [← HKL.out] at HI
    obtain ⟨B4, hB4⟩ : ∃ B, B = w4.heap.size := ⟨_, rfl⟩
    have HW5 := Lib.hid hW5
    have HK5 := Lib.hid k35
    have HO4 := Lib.hid (And.intro (ho4.keep hk5 fun _ _ x => x) (And.intro hg4 hc4))
    rw [← hB4] at b5
    have HB5 := Lib.hid b5
    have HB4 := Lib.hid hB4
    have HS4 := Lib.hid hk4.size
    rw [hW5] at e3
    clear hW5 hk5 b5 k35 k15 k05 ho4 hg4 hc4 hB4 hk4
    go_wp2_with fail
    rw [← HW5.out, ← HB4.out]
    refine HT.out.mono ?_
    clear HT e3
    rintro e' w6 ⟨rfl, hk6⟩
    have k06 : Kp No W0 w6 := ((HK1.out.trans_same HK3.out).trans_same HK5.out).trans_same hk6
    have e3 : w6.cell? ⟨w.heap.size, 0, none⟩ = some (.slice a K cap) := by rw [cell_at (k06.get HB.out fun x => x)]; rfl
    have e4 : w6.cell? ⟨w.heap.size, 1, none⟩ = some (.int .i64 n) := by rw [cell_at (k06.get HB.out fun x => x)]; rfl
    have HI6 := Lib.hid (HI.out w6 hk6)
    have HK6 := Lib.hid hk6
    clear HI k06 hk6
    obtain ⟨b, hb⟩ : ∃ b, b = isF L n := ⟨_, rfl⟩
    rw [← hb] at HI6
    have HBB := Lib.hid hb
    clear hb
    go_wp2_with fail
    refine HI6.out.mono ?_
    clear HI6 e3 e4
    rintro e' w7 ⟨rfl, hk7⟩
    have HK7 := Lib.hid hk7
    clear hk7
    go_wp2_with fail
    rw [show (b == (f == 0)) = true by
      have h1 := HRR.out
      unfold ofF at h1
      rw [← HBB.out] at h1
      cases b with
      | true => injection h1 with _ h1; injection h1 with _ h1; subst h1; rfl
      | false => injection h1 with _ h1; injection h1 with _ h1; subst h1; rfl]
    clear HBB
    have HK57 := Lib.hid (HK6.out.trans_same HK7.out)
    have HL7 := Lib.hid (show w7.heap[g1]? = some (.cells cur 31 (0, 0)) from ((HK3.out.trans_same HK5.out).trans_same HK57.out).get HG.out.2.2.1 fun x => x)
    clear HK6 HK7
    go_loopw [9] (fun i wr => ∃ k : Nat, k ≤ K ∧ i = .int .i64 (k : Int) ∧ Hid (Kp (Mer.One g1) w7 wr) ∧ ∃ cu : Array Value, Hid (wr.heap[g1]? = some (.cells cu 31 (0, 0)) ∧ off + K * 2 ≤ cu.size)) (fun i _ => K - (intOf i).toNat)
    case atStart => exact ⟨0, by omega, rfl, Lib.hid (Kp.refl _ _), cur, Lib.hid ⟨HL7.out, HG.out.2.2.2.1⟩⟩
    case round =>
      obtain ⟨k, hk, rfl, HKW, cu, HCU⟩ := hrel
      rcases Nat.lt_or_ge k K with hc | hc
      · have hkc : decide (k < K) = true := decide_eq_true hc
        have hfit := HCU.out.2
        have p0 : wr.cell? ⟨g1, off + k * 2, none⟩ = some (cu[off + k * 2]'(by omega)) := by rw [cell_at HCU.out.1]; simp
        have f0 : wr.frozen? ⟨g1, off + k * 2, none⟩ = false := free_at HCU.out.1 _
        have hl1 := get_lt HCU.out.1
        have HWK := Lib.hid (show wrap64 ((k : Int) + 1) = ((k + 1 : Nat) : Int) by rw [IntWalk.wrap64_in _ (by have := HLN.out; have := HKL.out; omega)]; push_cast; rfl)
        go_wp2_with fail
        rw [HWK.out]
        go_round
        · exact ⟨k + 1, by omega, rfl, Lib.hid (Kp.setCell (p := ⟨g1, off + k * 2, none⟩) HKW.out (.inl (show Mer.One g1 g1 from rfl)) _), cu.setIfInBounds (off + k * 2) (.int .i64 (-5)), Lib.hid ⟨set_at HCU.out.1 _ _, by simpa using hfit⟩⟩
        · simp only [intOf, Int.toNat_natCast]; omega
      · obtain rfl : k = K := by omega
        have hkc : decide (k < k) = false := by simp
        clear hk hc
        have h21 : g1 < B2 := by have := HS2.out; have := HG.out.2.1; have := HB2.out; omega
        have h41 : g1 < B4 := by have := HS4.out; have := HK3.out.size; have := HG.out.2.1; have := HB4.out; omega
        have hk57 := HK57.out
        have b2 := HKW.out.get ((HK5.out.trans_same hk57).get HB3.out fun x => x) (fun hx => by have hx : B2 = g1 := hx; omega)
        have b4 := HKW.out.get (hk57.get HB5.out fun x => x) (fun hx => by have hx : B4 = g1 := hx; omega)
        have c0 : wr.cell? ⟨B2, 0, none⟩ = some (.slice a2 Q c2) := cell_at b2 0
        have c1 : wr.cell? ⟨B2, 1, none⟩ = some (.int .i64 x) := cell_at b2 1
        have d0 : wr.cell? ⟨B4, 0, none⟩ = some (.slice a4 Q c4) := cell_at b4 0
        have d1 : wr.cell? ⟨B4, 1, none⟩ = some (.int .i64 x) := cell_at b4 1
        have r2 : Rd wr _ a2 (tbV R) := ((HO2.out.1.keep (HK5.out.trans_same hk57) fun _ _ x => x).keep HKW.out fun g hg hx => by
          have := HO2.out.2.1 g hg
          have := HG.out.2.1
          have hx : g = g1 := hx
          omega).rd'
        have r4 : Rd wr _ a4 (tbV R) := ((HO4.out.1.keep hk57 fun _ _ x => x).keep HKW.out fun g hg hx => by
          have := HO4.out.2.1 g hg
          have := HK3.out.size
          have := HG.out.2.1
          have hx : g = g1 := hx
          omega).rd'
        have hRl : R.length ≤ 1000000 := by
          have h := congrArg (fun y : List (Int × Int) × Int × Int => y.1.length) HRR.out
          simp only [ofF] at h
          have := HLN.out
          split at h <;> simp only [List.length_nil] at h <;> omega
        have HT := Lib.hid (tables_same wr R x a2 a4 c2 c4 _ _ r2 r4 hRl)
        rw [← HQ.out] at HT
        have HKF : Hid (Kp No w wr) := Lib.hid (((((HK0.out.trans_same HK1.out).trans_same HK3.out).trans_same HK5.out).trans_same hk57).trans HKW.out fun i hi hx => by
          have hx : i = g1 := hx
          have := HG.out.1
          have := HK0.out.size
          omega)
        have hff : (f == f) = true := by simp
        clear h21 h41 hk57 b2 b4 r2 r4 hRl
        go_wp2_with fail
        refine HT.out.mono ?_
        clear HT c0 c1 d0 d1
        rintro e' w9 ⟨rfl, hk9⟩
        have HK9 := Lib.hid (HKF.out.trans_same hk9)
        clear hk9
        go_wp2_with fail
        refine (known_any w9).mono ?_
        rintro e' w10 ⟨rfl, hk10⟩
        have HK10 := Lib.hid (HK9.out.trans_same hk10)
        clear hk10
        go_wp2_with fail
        go_ret
        exact ⟨rfl, HK10.out⟩
end Go.Proofs.YtapikolgpmefbaaDoor
