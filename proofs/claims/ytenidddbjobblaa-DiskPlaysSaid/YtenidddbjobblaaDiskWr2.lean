/-
  disk's write.
-/
import Derived.Test.YtenidddbjobblaaDiskOps
namespace Go.Proofs.Ytenidddbjobblaa
open Go.RowKit Go.Mer

set_option maxHeartbeats 800000 in
/-- write, onto a file that is there. -/
theorem write_some (w : World) (d m room : Nat) (fused : Bool) (left : Int) (L : FilesR) (hD : DiskC w d m room fused left L) (name : ByteArray)
    (na : Option Addr) (nc : Nat) (hns : Rd w w.heap.size na [Value.string name]) (N : Int) (pa : Option Addr) (pc : Nat) (p : List UInt8) (hfull : totF (absL L) + p.length ≤ room)
    (hp : Rd w w.heap.size pa (u8s p)) (c : FileR) (hc : gget L name = some c) :
    Calls Try.prog 30 #[.pointer (some ⟨d, 0, none⟩), .agg #[.slice na 1 nc, .int .i64 N, .slice pa p.length pc]] w fun e w' =>
      e = .returned (.int .i64 0) ∧ ∃ v, DiskC w' d m room fused left (gset L name { c with v := v, data := c.data ++ p }) ∧ Foot (FP d m L) (FP d m (gset L name { c with v := v, data := c.data ++ p })) w ∧ Kp (FP d m L) w w' := by
  obtain ⟨i0, hi, hz0, hz1, hz2⟩ := info_parts infoByte
  obtain ⟨g, off, rfl, hg, _, hcn⟩ := hns.at_ (i := 0) rfl
  simp only [Nat.add_zero] at hcn
  have FA := facts hD (nc := nc) (N := N) (pv := (.slice pa p.length pc)) hcn
  have f1 := FA.d0
  have f2 := FA.d1
  have f3 := FA.b0
  have f4 := FA.b1
  have f5 := FA.b2
  have f6 := FA.nm
  have f7 := FA.look
  have f8 := FA.many
  have f9 := FA.dr
  have hdl := get_lt hD.cell
  have H1 : Kp No w (w.alloc (.cells #[.slice (some ⟨g, off, none⟩) 1 nc, .int .i64 N, (.slice pa p.length pc)] 64)) := (Kp.refl _ _).alloc _
  have HD := Lib.hid hD
  clear FA hns hcn
  have hU := fun W (h : Kp No w W) => used_any W d m room fused left L (hD.keep_no h)
  have hfit := hD.fits
  have hroom := hD.roomy
  have hmany : (L.length : Int) ≤ 4096 := by have := hD.few; omega
  have hgd : decide ((room : Int) - (totF (absL L) : Int) < (p.length : Int)) = false := by simp; omega
  have hf := hD.files _ (gget_mem hc)
  have hfl := get_lt hf.1
  obtain ⟨fa, fc, hv, _⟩ := hf.2.1.rd
  have cf0 : ∀ W, Kp No w W → W.cell? ⟨c.blk, 0, none⟩ = some (.slice fa c.data.length fc) := fun W h => by
    rw [cell_at (h.get hf.1 fun x => x), hv]; rfl
  rw [hc] at f7
  simp only [Option.map_some, Option.getD_some, FileR.ptr] at f7
  have HF := Lib.hid hf
  have HC := Lib.hid hc
  have HP := Lib.hid hp
  have HV := Lib.hid hv
  have HI := Lib.hid (And.intro hi (And.intro hz0 (And.intro hz1 hz2)))
  clear hf hv hc hp hi hz0 hz1 hz2
  go_enter Try.func30, Try.ntmps30
  go_wp2_with fail
  obtain ⟨W1, hW1⟩ : ∃ W, W = w.alloc (.cells #[.slice (some ⟨g, off, none⟩) 1 nc, .int .i64 N, .slice pa p.length pc] 64) := ⟨_, rfl⟩
  rw [← hW1] at f1 f2 f3 f4 f5 f6 f7 f8 f9 H1 ⊢
  have HU := Lib.hid hU
  clear hW1 hU hD
  refine wp_region_ord [0,0,0,1,0,1,0,1,1,0] [0,1,2,4,3,5,6,7,8,9] (by kernel_rfl) (by kernel_rfl) ?_
  repeat (first
    | (apply wpOrd_skip rfl (by decide) rfl; (focus (go_simp; rfl)))
    | (apply wpOrd_pure rfl rfl rfl; (focus (intro _ _; go_simp; (try go_ints); rfl)); (focus (go_simp; rfl)))
    | (apply wpOrd_read rfl rfl rfl; (focus (intro _; go_simp; (try go_ints); rfl)); (focus (go_simp; rfl))))
  refine wpOrd_nil (fun nq => ?_)
  go_wp2_with fail
  have f0 : ∀ W, Kp No (W1.drewN nq) W → Kp No W1 W := fun W h => h.of_drewN
  refine wp_region_held' (Kp No _) [0,0,0,0,0,0,0,0,2,0,0,0,0,0,0,0,0,0,0,0,0,0,0] [0,1,2,3,4,5,6,7,8,9,10,11,12,13,14,15,16,17,18,19,20,21,22] (by kernel_rfl) (by kernel_rfl) (fun _ n h => h.drewN n) (Kp.refl _ _) ?_
  repeat (first
    | (apply wpOrd_skip rfl (by decide) rfl; (focus (go_simp; rfl)))
    | (apply wpOrd_pure rfl rfl rfl; (focus (intro _ _; go_simp; (try go_ints); rfl)); (focus (go_simp; rfl)))
    | (apply wpOrd_read rfl rfl rfl; (focus (intro _; go_simp; (try go_ints); rfl)); (focus (go_simp; rfl))))
  refine wpOrd_eff rfl rfl (fun nu => ?_)
  go_wp2_with fail
  refine (HU.out _ (H1.drewN _)).mono ?_
  rintro e W3 ⟨rfl, hk3⟩
  go_wp2_with fail
  refine ⟨hk3.of_drewN.from_drewN _, ?_⟩
  have K3 : Kp No W1 W3 := hk3.of_drewN
  repeat (first
    | (apply wpOrd_skip rfl (by decide) rfl; (focus (go_simp; rfl)))
    | (apply wpOrd_pure rfl rfl rfl; (focus (intro _ _; go_simp; (try go_ints); rfl)); (focus (go_simp; rfl)))
    | (apply wpOrd_read rfl rfl rfl; (focus (intro _; go_simp; (try go_ints); rfl)); (focus (go_simp; rfl))))
  refine wpOrd_nil (fun nq => ?_)
  clear hk3
  go_wp2_with fail
  have K4 : ∀ n, Kp No w (W3.drewN n) := fun n => (H1.trans_same K3).drewN n
  have K5 : ∀ n, Kp No W1 (W3.drewN n) := fun n => K3.drewN n
  have cf0' := fun n => cf0 _ (K4 n)
  have f5' := fun n => f5 _ (K5 n)
  clear f1 f2 f3 f4 f5 f6 f7 f8 f9 f0 cf0 HU
  refine wp_region_ord [0,0,0,0,1,0,1,2,0,0,2] [0,1,2,3,5,4,6,7,8,9,10] (by kernel_rfl) (by kernel_rfl) ?_
  repeat (first
    | (apply wpOrd_skip rfl (by decide) rfl; (focus (go_simp; rfl)))
    | (apply wpOrd_pure rfl rfl rfl; (focus (intro _ _; go_simp; (try go_ints); rfl)); (focus (go_simp; rfl)))
    | (apply wpOrd_read rfl rfl rfl; (focus (intro _; go_simp; (try go_ints); rfl)); (focus (go_simp; rfl))))
  refine wpOrd_eff rfl rfl (fun ng => ?_)
  rw [World.drewN_drewN]
  have KB := K4 (nq + ng)
  have hfB := HF.out.keep KB (fun x => x) (fun _ _ x => x)
  have hpB := HP.out.keep KB (fun _ _ x => x)
  have KL := K4 (nq + ng)
  obtain ⟨WB, hWB⟩ : ∃ W, W = W3.drewN (nq + ng) := ⟨_, rfl⟩
  rw [← hWB] at KB hfB hpB ⊢
  clear hWB K4 K5 cf0' f5' KL K3
  obtain ⟨hi, hz0, hz1, hz2⟩ := HI.out
  obtain ⟨v', w', hrun, hown, hkp, hblk⟩ := run_append_Own (P := Try.prog) (w := WB) 23 23 23 5 i0 (.int .u8 0) 1 1 Try.underlying23 ⟨_, Try.underlying23⟩ hi hz0 hz1 hz2 rfl
    c.v c.data.length (u8s c.data) hfB.2.1 (.slice pa p.length pc) p.length (u8s p) ⟨by simp [u8s_length], pa, pc, rfl, hpB.mono KB.size (Nat.le_refl _)⟩ (u8s_one p)
    (by have := mem_len (l := absL L) (p := (name, c.abs)) (List.mem_map.2 ⟨(name, c), gget_mem HC.out, rfl⟩); simp only [FileR.abs] at this; simp only [maxLen]; omega)
    (by have := mem_len (l := absL L) (p := (name, c.abs)) (List.mem_map.2 ⟨(name, c), gget_mem HC.out, rfl⟩); simp only [FileR.abs] at this; omega)
  have hne : ∀ k, c.v.ownBlock = some k → k ≠ c.blk := fun k hk e => by
    obtain ⟨cur, hcur⟩ := hfB.2.1.type k hk
    exact ne_of_type hcur hfB.1 (by decide) e
  have hcell := hkp.get hfB.1 (fun h => hne _ h rfl)
  rw [HV.out] at hrun
  refine wpList_append_run rfl rfl rfl rfl hrun (wpList_nil ⟨rfl, trivial, ?_⟩)
  obtain ⟨a', c', hv'⟩ : ∃ a' c', v' = .slice a' (c.data.length + p.length) c' := by obtain ⟨_, a', c', h, _⟩ := hown; exact ⟨a', c', h⟩
  subst hv'
  have cs : ∀ n, (w'.drewN n).cell? ⟨c.blk, 0, none⟩ = some (.slice fa c.data.length fc) := fun n => by
    rw [cell_at (w := w'.drewN n) hcell, HV.out]; rfl
  have fs : ∀ n, (w'.drewN n).frozen? ⟨c.blk, 0, none⟩ = false := fun n => free_at (w := w'.drewN n) hcell 0
  have HO := Lib.hid hown
  have HK := Lib.hid hkp
  have HB := Lib.hid hblk
  have HL := Lib.hid hcell
  have HF2 := Lib.hid hfB
  clear hown hkp hblk hcell hrun hi hz0 hz1 hz2 hfB hpB hne HI
  repeat (first
    | (apply wpOrd_skip rfl (by decide) rfl; (focus (go_simp; rfl)))
    | (apply wpOrd_pure rfl rfl rfl; (focus (intro _ _; go_simp; (try go_ints); rfl)); (focus (go_simp; rfl)))
    | (apply wpOrd_read rfl rfl rfl; (focus (intro _; go_simp; (try go_ints); rfl)); (focus (go_simp; rfl))))
  refine wpOrd_eff rfl rfl (fun n2 => ?_)
  go_wp2_with fail
  refine wpOrd_nil (fun nq => ?_)
  go_wp2_with fail
  go_ret
  have hfw := HF2.out
  have hDB := HD.out.keep_no KB
  have hkf : Kp (fun k => k = c.blk ∨ c.v.ownBlock = some k) WB (((w'.drewN n2).setCell ⟨c.blk, 0, none⟩ (.slice a' (c.data.length + p.length) c')).drewN nq) :=
    (((HK.out.mono fun _ _ h => .inr h).drewN n2).setCell (p := ⟨c.blk, 0, none⟩) (.inl (.inl rfl)) _).drewN nq
  have hks : Kp (One c.blk) w' (((w'.drewN n2).setCell ⟨c.blk, 0, none⟩ (.slice a' (c.data.length + p.length) c')).drewN nq) :=
    (((Kp.refl (One c.blk) w').drewN n2).setCell (p := ⟨c.blk, 0, none⟩) (.inl rfl) _).drewN nq
  have hcf : (((w'.drewN n2).setCell ⟨c.blk, 0, none⟩ (.slice a' (c.data.length + p.length) c')).drewN nq).heap[c.blk]? = some (.cells #[.slice a' (c.data.length + p.length) c', .int .i64 (c.lasts : Int)] 67 (0, 0)) :=
    set_at (w := w'.drewN n2) HL.out 0 _
  have hne : ∀ k, (Value.slice a' (c.data.length + p.length) c').ownBlock = some k → ¬ One c.blk k := fun k hk e => by
    obtain ⟨cur, hcur⟩ := HO.out.type k hk
    exact ne_of_type hcur HL.out (by decide) e
  have hown : Own (((w'.drewN n2).setCell ⟨c.blk, 0, none⟩ (.slice a' (c.data.length + p.length) c')).drewN nq) 5 1 (.slice a' (c.data.length + p.length) c') (c.data ++ p).length (u8s (c.data ++ p)) := by
    rw [u8s_append, List.length_append]
    exact HO.out.keep hks hne
  have htot := totF_gset (l := absL L) (k := name) (x := c.abs) (y := ⟨c.data ++ p, c.lasts⟩) (by rw [keys_absL]; exact HD.out.keys) (by rw [gget_abs, HC.out]; rfl)
  obtain ⟨h1, h2, h3⟩ := hDB.setFile (c' := { c with v := .slice a' (c.data.length + p.length) c', data := c.data ++ p }) HC.out rfl hkf
    ⟨hcf, hown, by have := hfw.2.2; simp only [List.length_append]; omega⟩ HB.out (by
      rw [gset_abs]
      simp only [FileR.abs, List.length_append] at htot ⊢
      omega)
  exact ⟨rfl, _, h1, fun k hk => (h2 k hk).imp id fun h => Nat.le_trans KB.size h, (Kp.of_no KB).trans_same h3⟩
end Go.Proofs.Ytenidddbjobblaa
