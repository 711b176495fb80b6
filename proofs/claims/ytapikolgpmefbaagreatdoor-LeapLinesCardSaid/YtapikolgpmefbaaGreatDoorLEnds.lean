/-
  A table's end: leap's ends.
-/
import Derived.Test.YtapikolgpmefbaaGreatDoorLTab
namespace Go.Proofs.YtapikolgpmefbaaGreatDoor
open Go.RowKit Go.Mer

theorem ends_any (L : List (Int × Int)) (n : Int) (w : World) (a : Option Addr) (cap B : Nat) (hR : Rd w B a (tbV L)) (hl : L.length ≤ 1000000) : Calls Tryz.prog 27 #[.slice a L.length cap, .int .i64 n] w fun e w' => e = .returned (.bool (endsF L n)) ∧ Kp No w w' := by
  obtain ⟨r, hr⟩ : ∃ r, r = endsF L n := ⟨_, rfl⟩
  rw [← hr]
  have HRV := Lib.hid hr
  have HD := Lib.hid (Date_any n)
  clear hr
  by_cases hi : inF n = true
  · have hdv : dateV n = .tuple #[dtv (ymdF (n + 719162).toNat).1 (ymdF (n + 719162).toNat).2.1 (ymdF (n + 719162).toNat).2.2, .int .i64 0] := if_pos hi
    rw [hdv] at HD
    clear hdv
    obtain ⟨y1, hy1⟩ : ∃ x, x = (ymdF (n + 719162).toNat).1 := ⟨_, rfl⟩
    obtain ⟨y2, hy2⟩ : ∃ x, x = (ymdF (n + 719162).toNat).2.1 := ⟨_, rfl⟩
    obtain ⟨y3, hy3⟩ : ∃ x, x = (ymdF (n + 719162).toNat).2.2 := ⟨_, rfl⟩
    rw [← hy1, ← hy2, ← hy3] at HD
    clear hy1 hy2 hy3
    have HI := Lib.hid hi
    clear hi
    rcases List.eq_nil_or_concat L with rfl | ⟨T, y, rfl⟩
    · clear hR hl
      simp only [List.length_nil]
      go_enter Tryz.func27, Tryz.ntmps27
      go_wp2_with fail
      refine (HD.out _).mono ?_
      rintro e w' ⟨rfl, hk⟩
      go_wp2_with fail
      go_ret
      refine ⟨?_, hk.alloc _⟩
      rw [HRV.out]
      simp [endsF]
    · have hlen : (T.concat y).length = T.length + 1 := by simp
      rw [hlen]
      obtain ⟨K, hK⟩ : ∃ K, K = T.length := ⟨_, rfl⟩
      have hy : (T.concat y)[K]? = some y := by rw [hK]; simp
      rw [← hK] at hlen ⊢
      obtain ⟨h1, h2⟩ := tbV_at _ _ _ hy
      obtain ⟨g, off, rfl, hgB, hB, hc⟩ := hR.at_ h1
      have hw : wrap64 (K : Int) = K := IntWalk.wrap64_in _ (by omega)
      have HV := Lib.hid (show endsF (T.concat y) n = decide (y.1 < n) by simp [endsF, HI.out])
      obtain ⟨v, hv⟩ : ∃ v, v = y.1 := ⟨_, rfl⟩
      rw [← hv] at hc HV
      have HC := Lib.hid (And.intro hc (Nat.lt_of_lt_of_le hgB hB))
      have HW := Lib.hid hw
      clear hR hl hlen hy h1 h2 hc hK hv hgB hB hw
      cases hvn : decide (v < n)
      all_goals
        go_enter Tryz.func27, Tryz.ntmps27
        go_wp2_with fail
        refine (HD.out _).mono ?_
        rintro e w' ⟨rfl, hk⟩
        have hw := HW.out
        have hcc : w'.cell? ⟨g, off + K * 2, none⟩ = some (.int .i64 v) := by
          rw [Nat.mul_comm K 2]
          exact (hk.cell HC.out.2 fun x => x).trans HC.out.1
        have hcd : (w'.alloc (.cells #[.int .i64 (y1 : Int), .int .i64 (y2 : Int), .int .i64 (y3 : Int)] 66 (0, 0))).cell? ⟨g, off + K * 2, none⟩ = some (.int .i64 v) := (((Kp.refl No w').alloc _).cell (Nat.lt_of_lt_of_le HC.out.2 hk.size) fun x => x).trans hcc
        have HKK := Lib.hid hk
        clear hk
        go_wp2_with fail
        go_ret
        refine ⟨?_, HKK.out.alloc _⟩
        rw [HRV.out, HV.out, hvn]
        rfl
  · have hdv : dateV n = .tuple #[dtv 0 0 0, .int .i64 11] := if_neg hi
    rw [hdv] at HD
    have hi' : inF n = false := by simpa using hi
    have HI := Lib.hid hi'
    clear hdv hi hi' hR hl
    go_enter Tryz.func27, Tryz.ntmps27
    go_wp2_with fail
    refine (HD.out _).mono ?_
    rintro e w' ⟨rfl, hk⟩
    go_wp2_with fail
    go_ret
    refine ⟨?_, hk.alloc _⟩
    rw [HRV.out]
    simp [endsF, HI.out]
end Go.Proofs.YtapikolgpmefbaaGreatDoor
