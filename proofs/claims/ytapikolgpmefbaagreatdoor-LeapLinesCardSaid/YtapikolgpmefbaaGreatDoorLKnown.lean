/-
  What the laws ask beside: a table of two is read as it is (known).
-/
import Derived.Test.YtapikolgpmefbaaGreatDoorLParse
import Derived.Test.YtapikolgpmefbaaGreatDoorLDay
import Derived.Test.YtapikolgpmefbaaGreatDoorLLen
namespace Go.Proofs.YtapikolgpmefbaaGreatDoor
open Go.RowKit Go.Mer

def knownL : List UInt8 := [35, 32, 120, 10, 50, 48, 49, 53, 45, 48, 55, 45, 48, 49, 32, 51, 54, 10, 50, 48, 49, 55, 45, 48, 49, 45, 48, 49, 32, 51, 55, 10, 10, 101, 120, 112, 105, 114, 101, 115, 32, 50, 48, 50, 54, 45, 49, 50, 45, 50, 56, 10]
def knownT : List (Int × Int) := [(16617, 36), (17167, 37)]
def knownE : Int := 20815
def lnOkB (l : List UInt8) : Bool := Lib.hasPrefix l expB || !(cutF 32 l).2.2 || !isNumF (cutF 32 l).2.1 || decide ((cutF 32 l).2.1.length ≤ 18)
theorem lnOk_of {l : List UInt8} (h : lnOkB l = true) : LnOk l := by
  intro h1 h2 h3
  unfold lnOkB at h
  rw [h1, h2, h3] at h
  simpa using h
theorem known_parse : parseT knownL = (knownT, knownE, 0, 0) := by kernel_rfl
theorem known_ok : ((linesOf knownL).all fun x => lnOkB (Lib.trimSuffix x [10])) = true := by kernel_rfl
theorem known_off : offF knownT knownE (daysF 2016 12 31) = 36 ∧ lenF knownT knownE (daysF 2016 12 31) = 86401 := ⟨by kernel_rfl, by kernel_rfl⟩
theorem known_day : isD 2016 12 31 = true := by kernel_rfl
theorem known_any (w : World) : Calls Tryz.prog 9 #[] w fun e w' => e = .returned (.bool true) ∧ Kp No w w' := by
  have hp := Parse_any ⟨knownL.toArray⟩ w (by decide) (by
    intro x hx _
    exact lnOk_of (List.all_eq_true.1 known_ok x hx))
  rw [show (ByteArray.mk knownL.toArray).data.toList = knownL from rfl, known_parse] at hp
  obtain ⟨D, hD⟩ : ∃ D, D = daysF 2016 12 31 := ⟨_, rfl⟩
  have hday := fun W => day_any 2016 12 31 known_day W
  rw [show daysF ((2016 : Nat) : Int) ((12 : Nat) : Int) ((31 : Nat) : Int) = D from hD.symm] at hday
  have HDAY := Lib.hid (show ∀ W, Calls Tryz.prog 22 #[.int .i64 2016, .int .i64 12, .int .i64 31] W fun e w' => e = .returned (.int .i64 D) ∧ Kp No W w' from hday)
  have ho := known_off
  rw [← hD] at ho
  have HO := Lib.hid ho
  have HDB := Lib.hid (show -9223372036854775808 ≤ D ∧ D ≤ 9223372036854775807 by rw [hD]; exact ⟨by decide +kernel, by decide +kernel⟩)
  have HP := Lib.hid hp
  clear hp hday ho hD
  go_enter Tryz.func9, Tryz.ntmps9
  go_wp2_with fail
  refine HP.out.mono ?_
  rintro e w1 ⟨⟨a, cap, rfl, hcap, hrd⟩, hk1⟩
  obtain ⟨W1, hW1⟩ : ∃ W, W = w1.alloc (.cells #[.slice a 2 cap, .int .i64 20815] 24 (0, 0)) := ⟨_, rfl⟩
  have hb := heap_alloc_new w1 (.cells #[.slice a 2 cap, .int .i64 20815] 24 (0, 0))
  rw [← hW1] at hb
  have c0 : ∀ W, Kp No W1 W → W.cell? ⟨w1.heap.size, 0, none⟩ = some (.slice a 2 cap) := fun W h => by rw [cell_at (h.get hb fun x => x)]; rfl
  have c1 : ∀ W, Kp No W1 W → W.cell? ⟨w1.heap.size, 1, none⟩ = some (.int .i64 20815) := fun W h => by rw [cell_at (h.get hb fun x => x)]; rfl
  have hk11 : Kp No w1 W1 := by rw [hW1]; exact (Kp.refl _ _).alloc _
  have HRD := Lib.hid (show ∀ W, Kp No W1 W → Rd W w1.heap.size a (tbV knownT) from fun W h => (hrd.keep hk11 fun _ _ x => x).keep h fun _ _ x => x)
  have HK1 := Lib.hid (hk1.trans_same hk11)
  have HC := Lib.hid (show knownT.length ≤ cap from hcap)
  have HW1 := Lib.hid hW1
  have hoff := fun (x : Int) W (h : Kp No W1 W) => Offset_any knownT knownE x W a cap w1.heap.size (HRD.out W h) (by decide) HC.out
  have hlen := fun W (h : Kp No W1 W) => Length_leap knownT knownE D W a cap w1.heap.size (HRD.out W h) (by decide) HC.out HDB.out
  have off1 : ∀ W, Kp No W1 W → Calls Tryz.prog 21 #[.agg #[.slice a 2 cap, .int .i64 20815], .int .i64 D] W fun e w' => e = .returned (.int .i64 36) ∧ Kp No W w' := fun W h => by
    have := hoff D W h
    rw [HO.out.1] at this
    exact this
  have len1 : ∀ W, Kp No W1 W → Calls Tryz.prog 23 #[.agg #[.slice a 2 cap, .int .i64 20815], .int .i64 D] W fun e w' => e = .returned (.int .i64 86401) ∧ Kp No W w' := fun W h => by
    have := hlen W h
    rw [HO.out.2] at this
    exact this
  have HOF := Lib.hid off1
  have HLE := Lib.hid len1
  clear hrd hk1 hk11 hb hcap hW1 hoff hlen off1 len1
  rw [show knownT.length = 2 from rfl, show knownE = 20815 from rfl]
  go_wp2_with fail
  rw [← HW1.out]
  refine wp_region_held' (Kp No _) [0,0,0,0,0,0,0,0,0,1,0,0,0,0,2,2,0,0,0,0,2,2,0,0,0] [0,1,2,3,4,5,6,7,8,9,10,11,12,13,14,15,16,17,18,19,20,21,22,23,24] (by kernel_rfl) (by kernel_rfl) (fun _ n h => h.drewN n) (Kp.refl _ _) ?_
  repeat (first
    | (apply wpOrd_skip rfl (by decide) rfl; (focus (go_simp; rfl)))
    | (apply wpOrd_pure rfl rfl rfl; (focus (intro _ _; go_simp; (try go_ints); rfl)); (focus (go_simp; rfl)))
    | (apply wpOrd_read rfl rfl rfl; (focus (intro _; go_simp; (try go_ints); rfl)); (focus (go_simp; rfl))))
  refine wpOrd_eff rfl rfl (fun q => ?_)
  go_wp2_with fail
  refine ((HDAY.out _)).mono ?_
  rintro e w2 ⟨rfl, hk⟩
  have h1 : Kp No W1 w2 := (((Kp.refl No W1)).drewN q).trans_same hk
  clear hk
  go_wp2_with fail
  refine wpOrd_eff rfl rfl (fun q => ?_)
  go_wp2_with fail
  refine (HOF.out _ (h1.drewN q)).mono ?_
  rintro e w3 ⟨rfl, hk⟩
  have h2 : Kp No W1 w3 := ((h1).drewN q).trans_same hk
  clear hk
  go_wp2_with fail
  repeat (first
    | (apply wpOrd_skip rfl (by decide) rfl; (focus (go_simp; rfl)))
    | (apply wpOrd_pure rfl rfl rfl; (focus (intro _ _; go_simp; (try go_ints); rfl)); (focus (go_simp; rfl)))
    | (apply wpOrd_read rfl rfl rfl; (focus (intro _; go_simp; (try go_ints); rfl)); (focus (go_simp; rfl))))
  refine wpOrd_eff rfl rfl (fun q => ?_)
  go_wp2_with fail
  refine ((HDAY.out _)).mono ?_
  rintro e w4 ⟨rfl, hk⟩
  have h3 : Kp No W1 w4 := ((h2).drewN q).trans_same hk
  clear hk
  go_wp2_with fail
  refine wpOrd_eff rfl rfl (fun q => ?_)
  go_wp2_with fail
  refine (HLE.out _ (h3.drewN q)).mono ?_
  rintro e w5 ⟨rfl, hk⟩
  have h4 : Kp No W1 w5 := ((h3).drewN q).trans_same hk
  clear hk
  go_wp2_with fail
  repeat (first
    | (apply wpOrd_skip rfl (by decide) rfl; (focus (go_simp; rfl)))
    | (apply wpOrd_pure rfl rfl rfl; (focus (intro _ _; go_simp; (try go_ints); rfl)); (focus (go_simp; rfl)))
    | (apply wpOrd_read rfl rfl rfl; (focus (intro _; go_simp; (try go_ints); rfl)); (focus (go_simp; rfl))))
  refine wpOrd_nil (fun nq => ?_)
  have H4 := Lib.hid (HK1.out.trans_same h4)
  clear h1 h2 h3 h4 c0 c1
  go_wp2_with fail
  go_ret
  exact ⟨rfl, H4.out.drewN _⟩
end Go.Proofs.YtapikolgpmefbaaGreatDoor
