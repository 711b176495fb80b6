/-
  The reference's disk: Fuse.
-/
import Derived.Test.YtdibkdgafidjgaaGreatDoorWa9
namespace Go.Proofs.YtdibkdgafidjgaaGreatDoor
open Go.RowKit Go.Mer
set_option maxHeartbeats 400000 in
theorem rFuse_any (w : World) (r : Nat) (s : DSt) (G : Nat → Prop) (h : RAt w r s G) (n : Int) (hn : n ≤ 9223372036854775807) :
  Calls Tryz.prog 13 #[.pointer (some ⟨r, 0, none⟩), .int .i64 n] w fun e w' => e = .returned (.tuple #[]) ∧ RAt w' r (fuS s n) G ∧ Kp G w w' := by
 obtain ⟨rv, L, h, hp, hG, hGl⟩ := h
 have hrow := h.row.rd
 obtain ⟨ra, rcap, rfl, _, _⟩ := hrow
 have c2 := cell_at h.cell 2
 have f2 := free_at h.cell 2
 have hrl := get_lt h.cell
 simp at c2
 obtain ⟨m, hm⟩ : ∃ m : Int, m = max (-1) n := ⟨_, rfl⟩
 have hm2 : m = leftOf (fuS s n).fuse := by
  rw [hm]
  unfold fuS
  by_cases h0 : 0 ≤ n
  ·simp only [if_pos h0, leftOf]
   omega
  ·simp only [if_neg h0, leftOf]
   omega
 have hk : Kp (One r) w (w.setCell ⟨r, 2, none⟩ (.int .i64 m)) := (Kp.refl (One r) _).setCell (p := ⟨r, 2, none⟩) (.inl rfl) _
 have h2 := h.setLeft m (by omega) (by omega) hk (by have := set_at h.cell 2 (.int .i64 m); simpa using this)
 have HG : Hid (RAt (w.setCell ⟨r, 2, none⟩ (.int .i64 m)) r (fuS s n) G) := Lib.hid ⟨_, L, by rw [← hm2]; exact h2, hp, hG, fun k hk' => hk.lt (hGl k hk')⟩
 have HK : Hid (Kp G w (w.setCell ⟨r, 2, none⟩ (.int .i64 m))) := Lib.hid (hk.mono fun i _ hi => hG i (.inl hi))
 rw [hm] at HG HK
 clear h h2 hk hp hG hGl hm2 hm
 go_enter Tryz.func13, Tryz.ntmps13
 go_wp2_with fail
 go_end0
 refine ⟨rfl, ?_, ?_⟩
 ·with_reducible exact HG.out
 ·with_reducible exact HK.out
end Go.Proofs.YtdibkdgafidjgaaGreatDoor

