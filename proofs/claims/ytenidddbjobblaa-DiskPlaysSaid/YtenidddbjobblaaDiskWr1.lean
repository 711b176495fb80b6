/-
  disk's write.
-/
import Derived.Test.YtenidddbjobblaaDiskOps
namespace Go.Proofs.Ytenidddbjobblaa
open Go.RowKit Go.Mer

set_option maxHeartbeats 800000 in
/-- write: no room. -/
theorem write_full (w : World) (d m room : Nat) (fused : Bool) (left : Int) (L : FilesR) (hD : DiskC w d m room fused left L) (name : ByteArray)
    (na : Option Addr) (nc : Nat) (hns : Rd w w.heap.size na [Value.string name]) (N : Int) (pa : Option Addr) (pc : Nat) (p : List UInt8) (hpm : p.length ≤ 140737488355328) (hfull : room < totF (absL L) + p.length) :
    Calls Try.prog 30 #[.pointer (some ⟨d, 0, none⟩), .agg #[.slice na 1 nc, .int .i64 N, .slice pa p.length pc]] w fun e w' =>
      e = .returned (.int .i64 6) ∧ Kp No w w' := by
  obtain ⟨g, off, rfl, hg, _, hcn⟩ := hns.at_ (i := 0) rfl
  simp only [Nat.add_zero] at hcn
  have FA := facts hD (nc := nc) (N := N) (pv := (.slice pa p.length pc)) hcn
  have f1 := FA.d0
  have f2 := FA.d1
  have f3 := FA.b0
  have f4 := FA.b1
  have f5 := FA.b2
  have f6 := FA.nm
  have f7 := FA.look
  have f8 := FA.many
  have f9 := FA.dr
  have hdl := get_lt hD.cell
  have H1 : Kp No w (w.alloc (.cells #[.slice (some ⟨g, off, none⟩) 1 nc, .int .i64 N, (.slice pa p.length pc)] 64)) := (Kp.refl _ _).alloc _
  have HD := Lib.hid hD
  clear FA hns hcn
  have hU := fun W (h : Kp No w W) => used_any W d m room fused left L (hD.keep_no h)
  have hfit := hD.fits
  have hroom := hD.roomy
  have hmany : (L.length : Int) ≤ 4096 := by have := hD.few; omega
  have hgt : ((p.length : Int) > (room : Int) - (totF (absL L) : Int)) := by omega
  have hgd : decide ((room : Int) - (totF (absL L) : Int) < (p.length : Int)) = true := by simp; omega
  rcases hv : (gget L name).map FileR.ptr with _ | v
  all_goals
    rw [hv] at f7
    clear hv
    try simp only [Option.getD_none, Option.getD_some] at f7
    go_enter Try.func30, Try.ntmps30
    go_wp2_with fail
    obtain ⟨W1, hW1⟩ : ∃ W, W = w.alloc (.cells #[.slice (some ⟨g, off, none⟩) 1 nc, .int .i64 N, .slice pa p.length pc] 64) := ⟨_, rfl⟩
    rw [← hW1] at f1 f2 f3 f4 f5 f6 f7 f8 f9 H1 ⊢
    have HU := Lib.hid hU
    clear hW1 hU hD
    refine wp_region_ord [0,0,0,1,0,1,0,1,1,0] [0,1,2,4,3,5,6,7,8,9] (by kernel_rfl) (by kernel_rfl) ?_
    repeat (first
      | (apply wpOrd_skip rfl (by decide) rfl; (focus (go_simp; rfl)))
      | (apply wpOrd_pure rfl rfl rfl; (focus (intro _ _; go_simp; (try go_ints); rfl)); (focus (go_simp; rfl)))
      | (apply wpOrd_read rfl rfl rfl; (focus (intro _; go_simp; (try go_ints); rfl)); (focus (go_simp; rfl))))
    refine wpOrd_nil (fun nq => ?_)
    go_wp2_with fail
    have f0 : ∀ W, Kp No (W1.drewN nq) W → Kp No W1 W := fun W h => h.of_drewN
    refine wp_region_held' (Kp No _) [0,0,0,0,0,0,0,0,2,0,0,0,0,0,0,0,0,0,0,0,0,0,0] [0,1,2,3,4,5,6,7,8,9,10,11,12,13,14,15,16,17,18,19,20,21,22] (by kernel_rfl) (by kernel_rfl) (fun _ n h => h.drewN n) (Kp.refl _ _) ?_
    repeat (first
      | (apply wpOrd_skip rfl (by decide) rfl; (focus (go_simp; rfl)))
      | (apply wpOrd_pure rfl rfl rfl; (focus (intro _ _; go_simp; (try go_ints); rfl)); (focus (go_simp; rfl)))
      | (apply wpOrd_read rfl rfl rfl; (focus (intro _; go_simp; (try go_ints); rfl)); (focus (go_simp; rfl))))
    refine wpOrd_eff rfl rfl (fun nu => ?_)
    go_wp2_with fail
    refine (HU.out _ (H1.drewN _)).mono ?_
    rintro e W3 ⟨rfl, hk3⟩
    go_wp2_with fail
    refine ⟨hk3.of_drewN.from_drewN _, ?_⟩
    have K3 : Kp No W1 W3 := hk3.of_drewN
    repeat (first
      | (apply wpOrd_skip rfl (by decide) rfl; (focus (go_simp; rfl)))
      | (apply wpOrd_pure rfl rfl rfl; (focus (intro _ _; go_simp; (try go_ints); rfl)); (focus (go_simp; rfl)))
      | (apply wpOrd_read rfl rfl rfl; (focus (intro _; go_simp; (try go_ints); rfl)); (focus (go_simp; rfl))))
    refine wpOrd_nil (fun nq => ?_)
    clear hk3
    go_wp2_with fail
    go_ret
    exact ⟨rfl, (H1.trans_same K3).drewN _⟩

set_option maxHeartbeats 800000 in
/-- write: too many files. -/
theorem write_many (w : World) (d m room : Nat) (fused : Bool) (left : Int) (L : FilesR) (hD : DiskC w d m room fused left L) (name : ByteArray)
    (na : Option Addr) (nc : Nat) (hns : Rd w w.heap.size na [Value.string name]) (N : Int) (pa : Option Addr) (pc : Nat) (p : List UInt8) (hfull : totF (absL L) + p.length ≤ room)
    (hc : gget L name = none) (hmny : 4096 ≤ L.length) :
    Calls Try.prog 30 #[.pointer (some ⟨d, 0, none⟩), .agg #[.slice na 1 nc, .int .i64 N, .slice pa p.length pc]] w fun e w' =>
      e = .returned (.int .i64 6) ∧ Kp No w w' := by
  obtain ⟨g, off, rfl, hg, _, hcn⟩ := hns.at_ (i := 0) rfl
  simp only [Nat.add_zero] at hcn
  have FA := facts hD (nc := nc) (N := N) (pv := (.slice pa p.length pc)) hcn
  have f1 := FA.d0
  have f2 := FA.d1
  have f3 := FA.b0
  have f4 := FA.b1
  have f5 := FA.b2
  have f6 := FA.nm
  have f7 := FA.look
  have f8 := FA.many
  have f9 := FA.dr
  have hdl := get_lt hD.cell
  have H1 : Kp No w (w.alloc (.cells #[.slice (some ⟨g, off, none⟩) 1 nc, .int .i64 N, (.slice pa p.length pc)] 64)) := (Kp.refl _ _).alloc _
  have HD := Lib.hid hD
  clear FA hns hcn
  have hU := fun W (h : Kp No w W) => used_any W d m room fused left L (hD.keep_no h)
  have hfit := hD.fits
  have hroom := hD.roomy
  have hmany : (L.length : Int) ≤ 4096 := by have := hD.few; omega
  have hgd : decide ((room : Int) - (totF (absL L) : Int) < (p.length : Int)) = false := by simp; omega
  have hge : decide ((4096 : Int) ≤ (L.length : Int)) = true := by simp; omega
  rw [hc] at f7
  clear hc
  simp only [Option.map_none, Option.getD_none] at f7
  go_enter Try.func30, Try.ntmps30
  go_wp2_with fail
  obtain ⟨W1, hW1⟩ : ∃ W, W = w.alloc (.cells #[.slice (some ⟨g, off, none⟩) 1 nc, .int .i64 N, .slice pa p.length pc] 64) := ⟨_, rfl⟩
  rw [← hW1] at f1 f2 f3 f4 f5 f6 f7 f8 f9 H1 ⊢
  have HU := Lib.hid hU
  clear hW1 hU hD
  refine wp_region_ord [0,0,0,1,0,1,0,1,1,0] [0,1,2,4,3,5,6,7,8,9] (by kernel_rfl) (by kernel_rfl) ?_
  repeat (first
    | (apply wpOrd_skip rfl (by decide) rfl; (focus (go_simp; rfl)))
    | (apply wpOrd_pure rfl rfl rfl; (focus (intro _ _; go_simp; (try go_ints); rfl)); (focus (go_simp; rfl)))
    | (apply wpOrd_read rfl rfl rfl; (focus (intro _; go_simp; (try go_ints); rfl)); (focus (go_simp; rfl))))
  refine wpOrd_nil (fun nq => ?_)
  go_wp2_with fail
  have f0 : ∀ W, Kp No (W1.drewN nq) W → Kp No W1 W := fun W h => h.of_drewN
  refine wp_region_held' (Kp No _) [0,0,0,0,0,0,0,0,2,0,0,0,0,0,0,0,0,0,0,0,0,0,0] [0,1,2,3,4,5,6,7,8,9,10,11,12,13,14,15,16,17,18,19,20,21,22] (by kernel_rfl) (by kernel_rfl) (fun _ n h => h.drewN n) (Kp.refl _ _) ?_
  repeat (first
    | (apply wpOrd_skip rfl (by decide) rfl; (focus (go_simp; rfl)))
    | (apply wpOrd_pure rfl rfl rfl; (focus (intro _ _; go_simp; (try go_ints); rfl)); (focus (go_simp; rfl)))
    | (apply wpOrd_read rfl rfl rfl; (focus (intro _; go_simp; (try go_ints); rfl)); (focus (go_simp; rfl))))
  refine wpOrd_eff rfl rfl (fun nu => ?_)
  go_wp2_with fail
  refine (HU.out _ (H1.drewN _)).mono ?_
  rintro e W3 ⟨rfl, hk3⟩
  go_wp2_with fail
  refine ⟨hk3.of_drewN.from_drewN _, ?_⟩
  have K3 : Kp No W1 W3 := hk3.of_drewN
  repeat (first
    | (apply wpOrd_skip rfl (by decide) rfl; (focus (go_simp; rfl)))
    | (apply wpOrd_pure rfl rfl rfl; (focus (intro _ _; go_simp; (try go_ints); rfl)); (focus (go_simp; rfl)))
    | (apply wpOrd_read rfl rfl rfl; (focus (intro _; go_simp; (try go_ints); rfl)); (focus (go_simp; rfl))))
  refine wpOrd_nil (fun nq => ?_)
  clear hk3
  go_wp2_with fail
  go_ret
  exact ⟨rfl, (H1.trans_same K3).drewN _⟩

end Go.Proofs.Ytenidddbjobblaa
