/-
  bytes.Clone: the same bytes, in a row of their own.
-/
import Derived.Test.YtojlccligmfcaaaProg
import Derived.Test.YtojlccligmfcaaaRegion
import Derived.Test.YtojlccligmfcaaaMem
import Derived.WalkKit
import Derived.WalkSpells
import Derived.WalkLawsBesides
import Derived.Deep.LoopGhost
import Derived.Lib.Hide
namespace Go.Proofs.Ytojlccligmfcaaa
open Go.RowKit Go.Mer

theorem infoByte : (Try.prog.info? 5).map (fun i => (i.zero, i.size, i.bytes)) = some (some (.int .u8 0), 1, 1) := by kernel_rfl
set_option maxHeartbeats 400000 in
/-- bytes.Clone: the same bytes, in a row of their own. -/
theorem clone_any (a : Option Addr) (c : Nat) (xs : List UInt8) (B : Nat) (w : World) (hr : Rd w B a (u8s xs)) (hm : xs.length ≤ 140737488355328) :
    Calls Try.prog 13 #[.slice a xs.length c] w fun e w' => ∃ v, e = .returned v ∧ Own w' 5 1 v xs.length (u8s xs) ∧ Kp No w w' ∧ ∀ g, v.ownBlock = some g → w.heap.size ≤ g := by
  obtain ⟨i0, hi, hz0, hz1, hz2⟩ := info_parts infoByte
  cases a with
  | none =>
    have hx : xs = [] := by
      rcases Nat.eq_zero_or_pos xs.length with h | h
      · exact List.eq_nil_of_length_eq_zero h
      · obtain ⟨g, off, h1, _⟩ := hr (by rw [u8s_length]; exact h)
        cases h1
    subst hx
    have hq := fun w => Lib.run_eql_slice_nil (P := Try.prog) w 33 5 none 0 c 0 0 Try.underlying33
    simp only [List.length_nil]
    go_enter Try.func13, Try.ntmps13
    go_wp2_with fail
    go_ret
    exact ⟨_, rfl, Own.nil _ _ _, Kp.refl _ _, fun g h => by simp [Value.ownBlock] at h⟩
  | some ad =>
    have hq := fun w => Lib.run_eql_slice_nil (P := Try.prog) w 33 5 (some ad) xs.length c 0 0 Try.underlying33
    have hal : Kp No w (w.alloc (.cells #[] 5)) := (Kp.refl _ _).alloc _
    have hown0 : Own (w.alloc (.cells #[] 5)) 5 1 (.slice (some ⟨w.heap.size, 0, none⟩) 0 0) 0 [] := Own.made w 5 1 #[] 0 0 (Nat.le_refl _) (by simp [maxLen]) (by simp) rfl
    have hsrc : Src (w.alloc (.cells #[] 5)) 1 (.slice (some ad) xs.length c) xs.length (u8s xs) := ⟨by simp [u8s_length], some ad, c, rfl, fun hx => by
      obtain ⟨g, off, h1, h2, h3, h4⟩ := hr hx
      exact ⟨g, off, h1, by simp; omega, Nat.le_refl _, fun j u hu => (hal.cell (p := ⟨g, off + j, none⟩) (by show g < _; omega) (fun x => x)).trans (h4 j u hu)⟩⟩
    obtain ⟨v1, w1, hrun, hown, hkp, hblk⟩ := run_append_Own (P := Try.prog) (w := w.alloc (.cells #[] 5)) 33 33 33 5 i0 (.int .u8 0) 1 1 Try.underlying33 ⟨_, Try.underlying33⟩ hi hz0 hz1 hz2 rfl
      (.slice (some ⟨w.heap.size, 0, none⟩) 0 0) 0 [] hown0 (.slice (some ad) xs.length c) xs.length (u8s xs) hsrc (u8s_one xs) (by simp only [maxLen]; omega) (by omega)
    have HO := Lib.hid hown
    have HK := Lib.hid hkp
    have HB := Lib.hid hblk
    have HR := Lib.hid hrun
    clear hown hkp hblk hown0 hsrc hz0 hz1 hz2 hi hrun
    go_enter Try.func13, Try.ntmps13
    go_wp2_with (at_builtin; refine wpList_append_run rfl rfl rfl rfl HR.out ?_)
    go_ret
    refine ⟨_, rfl, by simpa using HO.out, hal.trans HK.out (fun k hk h => by simp [Value.ownBlock] at h; omega), fun g hg => ?_⟩
    rcases HB.out with h | ⟨g', h, h'⟩
    · have hg2 : v1.ownBlock = some g := hg
      rw [h] at hg2
      simp [Value.ownBlock] at hg2
      omega
    · have hg2 : v1.ownBlock = some g := hg
      rw [h] at hg2
      injection hg2 with hg2
      simp at h'
      omega

end Go.Proofs.Ytojlccligmfcaaa
