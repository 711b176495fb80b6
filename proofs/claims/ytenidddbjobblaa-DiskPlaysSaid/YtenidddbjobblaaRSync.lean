/-
  The reference's disk: Sync.
-/
import Derived.Test.YtenidddbjobblaaRWalk
namespace Go.Proofs.Ytenidddbjobblaa
open Go.RowKit Go.Mer

set_option maxRecDepth 100000 in
set_option maxHeartbeats 1000000 in
theorem rSync_any (w : World) (r : Nat) (s : DSt) (G : Nat → Prop) (h : RAt w r s G) (name : ByteArray) :
    Calls Try.prog 41 #[.pointer (some ⟨r, 0, none⟩), .string name] w (SaidR w r G (syS s name)) := by
  obtain ⟨rv, L, hR, hp, hGl⟩ := RRun.start h
  obtain ⟨W1, hW1⟩ : ∃ W, W = w.alloc (.cells #[.string name] 9) := ⟨_, rfl⟩
  have k1 : Kp No w W1 := by rw [hW1]; exact (Kp.refl _ _).alloc _
  have hR1 := hR.no k1
  have hm := rmay_any W1 r s.room (leftOf s.fuse) rv L hR1.c (some ⟨w.heap.size, 0, none⟩) 1 [name] (by rw [hW1]; exact name_rd w name) (by simp)
  rw [show (if leftOf s.fuse = 0 then (9 : Int) else if ([name] : List ByteArray).all nameOk = true then 0 else 1) = mayQ s.fuse [name] from rfl] at hm
  have hq := mayQ_cases s.fuse [name]
  obtain ⟨q, hq0⟩ : ∃ q, q = mayQ s.fuse [name] := ⟨_, rfl⟩
  rw [← hq0] at hm hq
  have HM := Lib.hid hm
  have HQ := Lib.hid hq
  have HP := Lib.hid hp
  have HR1 := Lib.hid hR1
  have HW1 := Lib.hid hW1
  skip
  clear hm hq hp hR1 hW1 k1 hR hGl h hq0
  go_enter Try.func41, Try.ntmps41
  go_wp2_with fail
  rw [← HW1.out]
  refine HM.out.mono ?_
  rintro e w2 ⟨rfl, hk2⟩
  have HR2 := Lib.hid (HR1.out.no hk2)
  clear hk2 HM
  rcases HQ.out with ⟨h0, rfl⟩ | ⟨h0, hns, rfl⟩ | ⟨h0, hns, rfl⟩
  ·
    have H0 := Lib.hid h0
    clear h0
    go_wp2_with fail
    go_ret
    rw [syS, five9 H0.out]
    exact HR2.out.stop HP.out
  ·
    have H0 := Lib.hid h0
    have HNS := Lib.hid hns
    clear h0 hns
    go_wp2_with fail
    go_ret
    rw [syS, five1 H0.out HNS.out]
    exact HR2.out.stop HP.out
  have H0 := Lib.hid h0
  have HNS := Lib.hid hns
  clear h0 hns HQ HR1 HW1
  have hs := rspot_any w2 r s.room (leftOf s.fuse) rv L HR2.out.c name
  have HSP := Lib.hid hs
  clear hs
  go_wp2_with fail
  refine HSP.out.mono ?_
  rintro e w3 ⟨i, b, rfl, hsp, hk3⟩
  have HR3 := Lib.hid (HR2.out.no hk3)
  clear hk3 HSP HR2
  cases hsp with
  | no L1 L2 hL h1 h2 =>
    have HE := Lib.hid (show syCode s name = 7 by
      unfold syCode
      rw [if_pos]
      rw [← gget_perm HP.out HR3.out.c.sorted.keys, hL]
      exact get_no h1 h2)
    clear hL h1 h2
    go_wp2_with fail
    go_ret
    rw [syS, fiveE H0.out HNS.out (by rw [HE.out]; decide), HE.out]
    exact HR3.out.stop HP.out
  | is L1 f L2 hL hk =>
    subst hL
    obtain ⟨g, off, rcap, n, hn, hlt, hcap, hgr, rfl, hcells⟩ := HR3.out.c.at_
    have hga : gget s.files name = some ⟨f.data, f.lasts⟩ := by rw [← gget_perm HP.out HR3.out.c.sorted.keys, ← hk]; exact get_is HR3.out.c.sorted rfl
    have HE := Lib.hid (show syCode s name = 0 by unfold syCode; rw [if_neg (by rw [hga]; simp)])
    have HPn : Hid ((absR (L1 ++ ⟨f.name, f.a, f.cap, f.data, f.data.length⟩ :: L2)).Perm (syFiles s.files name)) := Lib.hid (by
      unfold syFiles
      rw [hga, ← hk]
      exact perm_turn HR3.out.c.sorted HP.out rfl)
    have HCE := Lib.hid hcells
    have HN := Lib.hid hn
    obtain ⟨i, hi⟩ : ∃ i, i = L1.length := ⟨_, rfl⟩
    rw [← hi] at hlt ⊢
    have HI := Lib.hid hi
    obtain ⟨c1, d0, d1, d2, fr, fg, rl, gl⟩ := hcells w3 (Kp.refl _ _)
    rw [← hi] at d0 d1 d2
    obtain ⟨m, hm⟩ : ∃ m, m = f.data.length := ⟨_, rfl⟩
    rw [← hm] at d1
    have hmm : m ≤ 1073741824 := by
      have h1 := HR3.out.c.fits
      have h2 := HR3.out.c.roomy
      rw [totF_mid] at h1
      omega
    have HMm := Lib.hid hm
    have HF := Lib.hid (HR3.out.c.files f (by simp))
    have hfit : totF (absR (L1 ++ ⟨f.name, f.a, f.cap, f.data, f.data.length⟩ :: L2)) ≤ s.room := by have := HR3.out.c.fits; rw [totF_mid] at this ⊢; exact this
    have HFIT := Lib.hid hfit
    clear hga hn hi hcells hm hfit hk
    go_wp2_with fail
    refine wp_region_ord [0,0,0,1,0,0,0,0,1,0,0,0,1,1,0,0,2] [0,1,2,4,5,6,7,9,3,8,10,11,12,13,14,15,16] (by kernel_rfl) (by kernel_rfl) ?_
    repeat (first
      | (apply wpOrd_skip rfl (by decide) rfl; (focus (go_simp; rfl)))
      | (apply wpOrd_pure rfl rfl rfl; (focus (intro _ _; go_simp; (try go_ints); rfl)); (focus (go_simp; rfl)))
      | (apply wpOrd_read rfl rfl rfl; (focus (intro _; go_simp; (try go_ints); rfl)); (focus (go_simp; rfl))))
    refine wpOrd_eff rfl rfl (fun n1 => ?_)
    have d2' : (w3.drewN n1).cell? ⟨g, off + i * 3 + 2, none⟩ = some (.int .i64 (f.lasts : Int)) := d2
    have fg' : (w3.drewN n1).frozen? ⟨g, off + i * 3 + 2, none⟩ = false := fg _
    go_wp2_with fail
    intro nq
    obtain ⟨W4, hW4⟩ : ∃ W, W = (w3.drewN n1).setCell ⟨g, off + i * 3 + 2, none⟩ (.int .i64 (m : Int)) := ⟨_, rfl⟩
    have hRn := HR3.out.setAt HN.out ((Kp.refl No w3).drewN n1) 2 (.int .i64 (m : Int)) (by omega) ⟨f.name, f.a, f.cap, f.data, f.data.length⟩ (by rw [HMm.out]; rfl) rfl ⟨HF.out.1.drewN n1, Nat.le_refl _⟩ (fun _ h => .inl h) HFIT.out
    rw [← HI.out, ← hW4] at hRn
    have HRn := Lib.hid (hRn.no ((Kp.refl No W4).drewN nq))
    rw [← hW4]
    obtain ⟨V, hV⟩ : ∃ W, W = W4.drewN nq := ⟨_, rfl⟩
    rw [← hV] at HRn ⊢
    clear hW4 hRn c1 d0 d1 d2 d2' fr fg fg' rl gl hV
    have hd := rdid_any V r s.room (leftOf s.fuse) _ _ HRn.out.c
    rw [← left_next H0.out] at hd
    have HD := Lib.hid hd
    clear hd
    go_wp2_with fail
    refine HD.out.mono ?_
    rintro e wd ⟨rfl, hcd, hkd⟩
    have HRd := Lib.hid (HRn.out.setLeft hcd hkd)
    clear hcd hkd HD
    go_wp2_with fail
    go_ret
    rw [syS, five0 H0.out HNS.out HE.out]
    exact RRun.stop (s := { s with fuse := s.fuse.map (· - 1), files := _ }) HRd.out HPn.out
end Go.Proofs.Ytenidddbjobblaa
