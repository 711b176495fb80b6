/-
  How much TAI is ahead: Offset, the program's and the reference's.
-/
import Derived.Test.YtapikolgpmefbaaGreatDoorLRIs
import Derived.Test.YtapikolgpmefbaaGreatDoorLIs
namespace Go.Proofs.YtapikolgpmefbaaGreatDoor
open Go.RowKit Go.Mer

/-- Of some rows, the offset that holds on a day. -/
def offG (d : Int) : Int → List (Int × Int) → Int
  | c, [] => c
  | c, x :: r => offG d (if x.1 ≤ d then x.2 else c) r
theorem offG_append (d : Int) (L R : List (Int × Int)) : ∀ c, offG d c (L ++ R) = offG d (offG d c L) R := by
  induction L with
  | nil => intro c; rfl
  | cons x r ih => intro c; exact ih _
def baseF (L : List (Int × Int)) : Int := match L with | [] => 0 | x :: _ => x.2
/-- How much TAI is ahead, of a table. -/
def offF (L : List (Int × Int)) (n d : Int) : Int := if isF L n then offG d (baseF L) L else 0
theorem offG_step {L : List (Int × Int)} {k : Nat} {x : Int × Int} (hx : L[k]? = some x) (d c : Int) : offG d c (L.take (k + 1)) = if x.1 ≤ d then x.2 else offG d c (L.take k) := by
  rw [List.take_add_one, hx, offG_append]
  rfl
theorem isF_pos {L : List (Int × Int)} {n : Int} (h : isF L n = true) : 0 < L.length := by
  cases L with
  | nil => simp [isF, endsF] at h
  | cons x r => simp

theorem Offset_any (L : List (Int × Int)) (n d : Int) (w : World) (a : Option Addr) (cap B : Nat) (hR : Rd w B a (tbV L)) (hl : L.length ≤ 1000000) (hcap : L.length ≤ cap) : Calls Tryz.prog 21 #[.agg #[.slice a L.length cap, .int .i64 n], .int .i64 d] w fun e w' => e = .returned (.int .i64 (offF L n d)) ∧ Kp No w w' := by
  have HIS := Lib.hid (fun (W : World) (hW : Kp No w W) => Is_any L n W a cap B (hR.keep hW fun _ _ x => x) hl hcap)
  obtain ⟨r, hr⟩ : ∃ r, r = offF L n d := ⟨_, rfl⟩
  rw [← hr]
  unfold offF at hr
  have HLN := Lib.hid hl
  obtain ⟨K, hK⟩ : ∃ K, K = L.length := ⟨_, rfl⟩
  rw [← hK] at HIS
  rw [← hK]
  obtain ⟨W0, hW0⟩ : ∃ W0, W0 = w.alloc (.cells #[.slice a K cap, .int .i64 n] 24 (0, 0)) := ⟨_, rfl⟩
  have hb : W0.heap[w.heap.size]? = some (.cells #[.slice a K cap, .int .i64 n] 24 (0, 0)) := by rw [hW0]; exact heap_alloc_new w _
  have HB := Lib.hid hb
  have HK0 := Lib.hid (show Kp No w W0 by rw [hW0]; exact (Kp.refl _ _).alloc _)
  have HRD := Lib.hid hR
  have HKL := Lib.hid hK
  clear hb hR hl hK
  cases h1 : isF L n with
  | false =>
    have HR := Lib.hid (show r = 0 by rw [hr, h1]; rfl)
    rw [h1] at HIS
    clear hr h1
    go_enter Tryz.func21, Tryz.ntmps21
    go_wp2_with fail
    refine (HIS.out _ ((Kp.refl No w).alloc _)).mono ?_
    rintro e w2 ⟨rfl, hk2⟩
    have HK2 := Lib.hid (((Kp.refl No w).alloc _).trans_same hk2)
    clear hk2 hW0
    go_wp2_with fail
    go_ret
    refine ⟨?_, HK2.out⟩
    rw [HR.out]
    rfl
  | true =>
    have hp := isF_pos h1
    rw [h1] at HIS hr
    rw [if_pos rfl] at hr
    obtain ⟨y, hy⟩ : ∃ y, L[0]? = some y := ⟨L[0]'hp, by simp⟩
    have hy2 : baseF L = y.2 := by
      cases L with
      | nil => simp at hy
      | cons z s => obtain rfl : z = y := by simpa using hy
                    rfl
    rw [← HKL.out] at hp
    have HR := Lib.hid hr
    have HY2 := Lib.hid hy2
    obtain ⟨t1, t2⟩ := tbV_at _ _ _ hy
    have hRw := HRD.out
    obtain ⟨g, off, rfl, hgB, hB, p0⟩ := hRw.at_ t1
    obtain ⟨g', off', hg', _, _, p1⟩ := hRw.at_ t2
    obtain ⟨rfl, rfl⟩ : g = g' ∧ off = off' := by simpa using hg'
    simp only [Nat.mul_zero, Nat.add_zero, Nat.zero_add] at p0 p1
    have HGB := Lib.hid (Nat.lt_of_lt_of_le hgB hB)
    have HP := Lib.hid (And.intro p0 p1)
    clear hgB hB hg' hRw t1 t2 hy p0 p1 hr hy2 h1
    go_enter Tryz.func21, Tryz.ntmps21
    go_wp2_with fail
    rw [← hW0]
    refine (HIS.out _ HK0.out).mono ?_
    rintro e w2 ⟨rfl, hk2⟩
    have c0 := cell_at (hk2.get HB.out fun x => x) 0
    simp at c0
    have hk := HK0.out.trans_same hk2
    have p0 := hk.cell HGB.out (fun x => x) |>.trans HP.out.1
    have p1 := hk.cell (p := ⟨g, off + 1, none⟩) HGB.out (fun x => x) |>.trans HP.out.2
    have HBB := Lib.hid (hk2.get HB.out fun x => x)
    have HK2 := Lib.hid hk
    clear hk2 hk hW0
    go_wp2_with fail
    go_loopw [5, 19] (fun c i wr => ∃ k : Nat, k ≤ K ∧ i = .int .i64 (k : Int) ∧ c = .int .i64 (offG d (baseF L) (L.take k)) ∧ Hid (Kp No w2 wr)) (fun _ i _ => K - (intOf i).toNat)
    case atStart => exact ⟨0, by omega, rfl, by rw [HY2.out]; rfl, Lib.hid (Kp.refl _ _)⟩
    case round =>
      obtain ⟨k, hk, rfl, rfl, HKW⟩ := hrel
      obtain ⟨c, hc⟩ : ∃ c, c = offG d (baseF L) (L.take k) := ⟨_, rfl⟩
      rw [← hc]
      have c0 := cell_at (HKW.out.get HBB.out fun x => x) 0
      simp at c0
      rcases Nat.lt_or_ge k K with hkK | hkK
      · obtain ⟨x, hx⟩ : ∃ x, L[k]? = some x := ⟨L[k]'(by rw [← HKL.out]; exact hkK), by simp⟩
        have hst := offG_step hx d (baseF L)
        rw [← hc] at hst
        obtain ⟨t1, t2⟩ := tbV_at _ _ _ hx
        have hRw := (HRD.out.keep HK2.out fun _ _ x => x).keep HKW.out fun _ _ x => x
        obtain ⟨g', off', hg', hgB, hB, q0⟩ := hRw.at_ t1
        obtain ⟨rfl, rfl⟩ : g = g' ∧ off = off' := by simpa using hg'
        obtain ⟨g', off', hg', _, _, q1⟩ := hRw.at_ t2
        obtain ⟨rfl, rfl⟩ : g = g' ∧ off = off' := by simpa using hg'
        rw [Nat.mul_comm 2] at q0 q1
        rw [← Nat.add_assoc] at q1
        have hkc : decide (k < K) = true := decide_eq_true hkK
        have HST := Lib.hid hst
        have HW := Lib.hid (show wrap64 ((k : Int) + 1) = ((k + 1 : Nat) : Int) by rw [IntWalk.wrap64_in _ (by have := HLN.out; have := HKL.out; omega)]; push_cast; rfl)
        clear hst hc hgB hB hg' hRw t1 t2 hx p0 p1
        rcases Int.lt_or_le d x.1 with h | h
        · have hd : decide (x.1 ≤ d) = false := by rw [decide_eq_false_iff_not]; omega
          rw [if_neg (by omega)] at HST
          clear h
          go_wp2_with fail
          rw [HW.out]
          go_round
          · exact ⟨k + 1, by omega, rfl, by rw [HST.out], by first | exact HKW | exact Lib.hid (HKW.out.alloc _)⟩
          · simp only [intOf, Int.toNat_natCast]; omega
        · have hd : decide (x.1 ≤ d) = true := by rw [decide_eq_true_iff]; exact h
          rw [if_pos h] at HST
          clear h
          go_wp2_with fail
          rw [HW.out]
          go_round
          · exact ⟨k + 1, by omega, rfl, by rw [HST.out], by first | exact HKW | exact Lib.hid (HKW.out.alloc _)⟩
          · simp only [intOf, Int.toNat_natCast]; omega
      · obtain rfl : k = K := by omega
        clear hk hkK
        go_wp2_with fail
        go_ret
        refine ⟨?_, HK2.out.trans_same HKW.out⟩
        rw [HR.out, hc, HKL.out, List.take_length]
        rfl
end Go.Proofs.YtapikolgpmefbaaGreatDoor
