/-
  Texts laid together: DiskWr2, DiskWr3, DiskApi, DiskCrash.
-/
import Derived.Test.YtgnkmjeoaoongaaGreatDoorSa6
namespace Go.Proofs.YtgnkmjeoaoongaaGreatDoor
open Go.RowKit Go.Mer
set_option maxHeartbeats 800000 in
theorem write_some (w : World) (d m room : Nat) (fused : Bool) (left : Int) (L : FilesR) (hD : DiskC w d m room fused left L) (name : ByteArray)
  (na : Option Addr) (nc : Nat) (hns : Rd w w.heap.size na [Value.string name]) (N : Int) (pa : Option Addr) (pc : Nat) (p : List UInt8) (hfull : totF (absL L) + p.length ≤ room)
  (hp : Rd w w.heap.size pa (u8s p)) (c : FileR) (hc : gget L name = some c) :
  Calls Tryz.prog 235 #[.pointer (some ⟨d, 0, none⟩), .agg #[.slice na 1 nc, .int .i64 N, .slice pa p.length pc]] w fun e w' =>
   e = .returned (.int .i64 0) ∧ ∃ v, DiskC w' d m room fused left (gset L name { c with v := v, data := c.data ++ p }) ∧ Foot (FP d m L) (FP d m (gset L name { c with v := v, data := c.data ++ p })) w ∧ Kp (FP d m L) w w' := by
 obtain ⟨i0, hi, hz0, hz1, hz2⟩ := info_parts infoByte
 obtain ⟨g, off, rfl, hg, _, hcn⟩ := hns.at_ (i := 0) rfl
 simp only [Nat.add_zero] at hcn
 have FA := facts hD (nc := nc) (N := N) (pv := (.slice pa p.length pc)) hcn
 have f1 := FA.d0
 have f2 := FA.d1
 have f3 := FA.b0
 have f4 := FA.b1
 have f5 := FA.b2
 have f6 := FA.nm
 have f7 := FA.look
 have f8 := FA.many
 have f9 := FA.dr
 have hdl := get_lt hD.cell
 have H1 : Kp No w (w.alloc (.cells #[.slice (some ⟨g, off, none⟩) 1 nc, .int .i64 N, (.slice pa p.length pc)] 236)) := (Kp.refl _ _).alloc _
 have HD := Lib.hid hD
 clear FA hns hcn
 have hU := fun W (h : Kp No w W) => used_any W d m room fused left L (hD.keep_no h)
 have hfit := hD.fits
 have hroom := hD.roomy
 have hmany : (L.length : Int) ≤ 4096 := by have := hD.few; omega
 have hgd : decide ((room : Int) - (totF (absL L) : Int) < (p.length : Int)) = false := by simp; omega
 have hf := hD.files _ (gget_mem hc)
 have hfl := get_lt hf.1
 obtain ⟨fa, fc, hv, _⟩ := hf.2.1.rd
 have cf0 : ∀ W, Kp No w W → W.cell? ⟨c.blk, 0, none⟩ = some (.slice fa c.data.length fc) := fun W h => by
  rw [cell_at (h.get hf.1 fun x => x), hv]; rfl
 rw [hc] at f7
 simp only [Option.map_some, Option.getD_some, FileR.ptr] at f7
 have HF := Lib.hid hf
 have HC := Lib.hid hc
 have HP := Lib.hid hp
 have HV := Lib.hid hv
 have HI := Lib.hid (And.intro hi (And.intro hz0 (And.intro hz1 hz2)))
 clear hf hv hc hp hi hz0 hz1 hz2
 go_enter Tryz.func235, Tryz.ntmps235
 go_wp2_with fail
 obtain ⟨W1, hW1⟩ : ∃ W, W = w.alloc (.cells #[.slice (some ⟨g, off, none⟩) 1 nc, .int .i64 N, .slice pa p.length pc] 236) := ⟨_, rfl⟩
 rw [← hW1] at f1 f2 f3 f4 f5 f6 f7 f8 f9 H1 ⊢
 have HU := Lib.hid hU
 clear hW1 hU hD
 refine wp_region_ord [0,0,0,1,0,1,0,1,1,0] [0,1,2,4,3,5,6,7,8,9] (by kernel_rfl) (by kernel_rfl) ?_
 repeat (first
  | (apply wpOrd_skip rfl (by decide) rfl; (focus (go_simp; rfl)))
  | (apply wpOrd_pure rfl rfl rfl; (focus (intro _ _; go_simp; (try go_ints); rfl)); (focus (go_simp; rfl)))
  | (apply wpOrd_read rfl rfl rfl; (focus (intro _; go_simp; (try go_ints); rfl)); (focus (go_simp; rfl))))
 refine wpOrd_nil (fun nq => ?_)
 go_wp2_with fail
 have f0 : ∀ W, Kp No (W1.drewN nq) W → Kp No W1 W := fun W h => h.of_drewN
 refine wp_region_held' (Kp No _) [0,0,0,0,0,0,0,0,2,0,0,0,0,0,0,0,0,0,0,0,0,0,0] [0,1,2,3,4,5,6,7,8,9,10,11,12,13,14,15,16,17,18,19,20,21,22] (by kernel_rfl) (by kernel_rfl) (fun _ n h => h.drewN n) (Kp.refl _ _) ?_
 repeat (first
  | (apply wpOrd_skip rfl (by decide) rfl; (focus (go_simp; rfl)))
  | (apply wpOrd_pure rfl rfl rfl; (focus (intro _ _; go_simp; (try go_ints); rfl)); (focus (go_simp; rfl)))
  | (apply wpOrd_read rfl rfl rfl; (focus (intro _; go_simp; (try go_ints); rfl)); (focus (go_simp; rfl))))
 refine wpOrd_eff rfl rfl (fun nu => ?_)
 go_wp2_with fail
 refine (HU.out _ (H1.drewN _)).mono ?_
 rintro e W3 ⟨rfl, hk3⟩
 go_wp2_with fail
 refine ⟨hk3.of_drewN.from_drewN _, ?_⟩
 have K3 : Kp No W1 W3 := hk3.of_drewN
 repeat (first
  | (apply wpOrd_skip rfl (by decide) rfl; (focus (go_simp; rfl)))
  | (apply wpOrd_pure rfl rfl rfl; (focus (intro _ _; go_simp; (try go_ints); rfl)); (focus (go_simp; rfl)))
  | (apply wpOrd_read rfl rfl rfl; (focus (intro _; go_simp; (try go_ints); rfl)); (focus (go_simp; rfl))))
 refine wpOrd_nil (fun nq => ?_)
 clear hk3
 go_wp2_with fail
 have K4 : ∀ n, Kp No w (W3.drewN n) := fun n => (H1.trans_same K3).drewN n
 have K5 : ∀ n, Kp No W1 (W3.drewN n) := fun n => K3.drewN n
 have cf0' := fun n => cf0 _ (K4 n)
 have f5' := fun n => f5 _ (K5 n)
 clear f1 f2 f3 f4 f5 f6 f7 f8 f9 f0 cf0 HU
 refine wp_region_ord [0,0,0,0,1,0,1,2,0,0,2] [0,1,2,3,5,4,6,7,8,9,10] (by kernel_rfl) (by kernel_rfl) ?_
 repeat (first
  | (apply wpOrd_skip rfl (by decide) rfl; (focus (go_simp; rfl)))
  | (apply wpOrd_pure rfl rfl rfl; (focus (intro _ _; go_simp; (try go_ints); rfl)); (focus (go_simp; rfl)))
  | (apply wpOrd_read rfl rfl rfl; (focus (intro _; go_simp; (try go_ints); rfl)); (focus (go_simp; rfl))))
 refine wpOrd_eff rfl rfl (fun ng => ?_)
 rw [World.drewN_drewN]
 have KB := K4 (nq + ng)
 have hfB := HF.out.keep KB (fun x => x) (fun _ _ x => x)
 have hpB := HP.out.keep KB (fun _ _ x => x)
 have KL := K4 (nq + ng)
 obtain ⟨WB, hWB⟩ : ∃ W, W = W3.drewN (nq + ng) := ⟨_, rfl⟩
 rw [← hWB] at KB hfB hpB ⊢
 clear hWB K4 K5 cf0' f5' KL K3
 obtain ⟨hi, hz0, hz1, hz2⟩ := HI.out
 obtain ⟨v', w', hrun, hown, hkp, hblk⟩ := run_append_Own (P := Tryz.prog) (w := WB) 42 42 42 5 i0 (.int .u8 0) 1 1 Tryz.underlying42 ⟨_, Tryz.underlying42⟩ hi hz0 hz1 hz2 rfl
  c.v c.data.length (u8s c.data) hfB.2.1 (.slice pa p.length pc) p.length (u8s p) ⟨by simp [u8s_length], pa, pc, rfl, hpB.mono KB.size (Nat.le_refl _)⟩ (u8s_one p)
  (by have := mem_len (l := absL L) (p := (name, c.abs)) (List.mem_map.2 ⟨(name, c), gget_mem HC.out, rfl⟩); simp only [FileR.abs] at this; simp only [maxLen]; omega)
  (by have := mem_len (l := absL L) (p := (name, c.abs)) (List.mem_map.2 ⟨(name, c), gget_mem HC.out, rfl⟩); simp only [FileR.abs] at this; omega)
 have hne : ∀ k, c.v.ownBlock = some k → k ≠ c.blk := fun k hk e => by
  obtain ⟨cur, hcur⟩ := hfB.2.1.type k hk
  exact ne_of_type hcur hfB.1 (by decide) e
 have hcell := hkp.get hfB.1 (fun h => hne _ h rfl)
 rw [HV.out] at hrun
 refine wpList_append_run rfl rfl rfl rfl hrun (wpList_nil ⟨rfl, trivial, ?_⟩)
 obtain ⟨a', c', hv'⟩ : ∃ a' c', v' = .slice a' (c.data.length + p.length) c' := by obtain ⟨_, a', c', h, _⟩ := hown; exact ⟨a', c', h⟩
 subst hv'
 have cs : ∀ n, (w'.drewN n).cell? ⟨c.blk, 0, none⟩ = some (.slice fa c.data.length fc) := fun n => by
  rw [cell_at (w := w'.drewN n) hcell, HV.out]; rfl
 have fs : ∀ n, (w'.drewN n).frozen? ⟨c.blk, 0, none⟩ = false := fun n => free_at (w := w'.drewN n) hcell 0
 have HO := Lib.hid hown
 have HK := Lib.hid hkp
 have HB := Lib.hid hblk
 have HL := Lib.hid hcell
 have HF2 := Lib.hid hfB
 clear hown hkp hblk hcell hrun hi hz0 hz1 hz2 hfB hpB hne HI
 repeat (first
  | (apply wpOrd_skip rfl (by decide) rfl; (focus (go_simp; rfl)))
  | (apply wpOrd_pure rfl rfl rfl; (focus (intro _ _; go_simp; (try go_ints); rfl)); (focus (go_simp; rfl)))
  | (apply wpOrd_read rfl rfl rfl; (focus (intro _; go_simp; (try go_ints); rfl)); (focus (go_simp; rfl))))
 refine wpOrd_eff rfl rfl (fun n2 => ?_)
 go_wp2_with fail
 refine wpOrd_nil (fun nq => ?_)
 go_wp2_with fail
 go_ret
 have hfw := HF2.out
 have hDB := HD.out.keep_no KB
 have hkf : Kp (fun k => k = c.blk ∨ c.v.ownBlock = some k) WB (((w'.drewN n2).setCell ⟨c.blk, 0, none⟩ (.slice a' (c.data.length + p.length) c')).drewN nq) :=
  (((HK.out.mono fun _ _ h => .inr h).drewN n2).setCell (p := ⟨c.blk, 0, none⟩) (.inl (.inl rfl)) _).drewN nq
 have hks : Kp (One c.blk) w' (((w'.drewN n2).setCell ⟨c.blk, 0, none⟩ (.slice a' (c.data.length + p.length) c')).drewN nq) :=
  (((Kp.refl (One c.blk) w').drewN n2).setCell (p := ⟨c.blk, 0, none⟩) (.inl rfl) _).drewN nq
 have hcf : (((w'.drewN n2).setCell ⟨c.blk, 0, none⟩ (.slice a' (c.data.length + p.length) c')).drewN nq).heap[c.blk]? = some (.cells #[.slice a' (c.data.length + p.length) c', .int .i64 (c.lasts : Int)] 164 (0, 0)) :=
  set_at (w := w'.drewN n2) HL.out 0 _
 have hne : ∀ k, (Value.slice a' (c.data.length + p.length) c').ownBlock = some k → ¬ One c.blk k := fun k hk e => by
  obtain ⟨cur, hcur⟩ := HO.out.type k hk
  exact ne_of_type hcur HL.out (by decide) e
 have hown : Own (((w'.drewN n2).setCell ⟨c.blk, 0, none⟩ (.slice a' (c.data.length + p.length) c')).drewN nq) 5 1 (.slice a' (c.data.length + p.length) c') (c.data ++ p).length (u8s (c.data ++ p)) := by
  rw [u8s_append, List.length_append]
  exact HO.out.keep hks hne
 have htot := totF_gset (l := absL L) (k := name) (x := c.abs) (y := ⟨c.data ++ p, c.lasts⟩) (by rw [keys_absL]; exact HD.out.keys) (by rw [gget_abs, HC.out]; rfl)
 obtain ⟨h1, h2, h3⟩ := hDB.setFile (c' := { c with v := .slice a' (c.data.length + p.length) c', data := c.data ++ p }) HC.out rfl hkf
  ⟨hcf, hown, by have := hfw.2.2; simp only [List.length_append]; omega⟩ HB.out (by
   rw [gset_abs]
   simp only [FileR.abs, List.length_append] at htot ⊢
   omega)
 exact ⟨rfl, _, h1, fun k hk => (h2 k hk).imp id fun h => Nat.le_trans KB.size h, (Kp.of_no KB).trans_same h3⟩
end Go.Proofs.YtgnkmjeoaoongaaGreatDoor
namespace Go.Proofs.YtgnkmjeoaoongaaGreatDoor
open Go.RowKit Go.Mer
set_option maxHeartbeats 800000 in
theorem write_new (w : World) (d m room : Nat) (fused : Bool) (left : Int) (L : FilesR) (hD : DiskC w d m room fused left L) (name : ByteArray)
  (na : Option Addr) (nc : Nat) (hns : Rd w w.heap.size na [Value.string name]) (N : Int) (pa : Option Addr) (pc : Nat) (p : List UInt8) (hfull : totF (absL L) + p.length ≤ room)
  (hp : Rd w w.heap.size pa (u8s p)) (hc : gget L name = none) (hfew : L.length < 4096) :
  Calls Tryz.prog 235 #[.pointer (some ⟨d, 0, none⟩), .agg #[.slice na 1 nc, .int .i64 N, .slice pa p.length pc]] w fun e w' =>
   e = .returned (.int .i64 0) ∧ ∃ c, c.abs = ⟨p, 0⟩ ∧ DiskC w' d m room fused left (gset L name c) ∧ Foot (FP d m L) (FP d m (gset L name c)) w ∧ Kp (FP d m L) w w' := by
 obtain ⟨i0, hi, hz0, hz1, hz2⟩ := info_parts infoByte
 obtain ⟨g, off, rfl, hg, _, hcn⟩ := hns.at_ (i := 0) rfl
 simp only [Nat.add_zero] at hcn
 have FA := facts hD (nc := nc) (N := N) (pv := (.slice pa p.length pc)) hcn
 have f1 := FA.d0
 have f2 := FA.d1
 have f3 := FA.b0
 have f4 := FA.b1
 have f5 := FA.b2
 have f6 := FA.nm
 have f7 := FA.look
 have f8 := FA.many
 have f9 := FA.dr
 have hdl := get_lt hD.cell
 have H1 : Kp No w (w.alloc (.cells #[.slice (some ⟨g, off, none⟩) 1 nc, .int .i64 N, (.slice pa p.length pc)] 236)) := (Kp.refl _ _).alloc _
 have HD := Lib.hid hD
 clear FA hns hcn
 have hU := fun W (h : Kp No w W) => used_any W d m room fused left L (hD.keep_no h)
 have hfit := hD.fits
 have hroom := hD.roomy
 have hmany : (L.length : Int) ≤ 4096 := by have := hD.few; omega
 have hgd : decide ((room : Int) - (totF (absL L) : Int) < (p.length : Int)) = false := by simp; omega
 have hge : decide ((4096 : Int) ≤ (L.length : Int)) = false := by simp; omega
 rw [hc] at f7
 simp only [Option.map_none, Option.getD_none] at f7
 have HC := Lib.hid hc
 have HP := Lib.hid hp
 have HI := Lib.hid (And.intro hi (And.intro hz0 (And.intro hz1 hz2)))
 clear hc hp hi hz0 hz1 hz2
 go_enter Tryz.func235, Tryz.ntmps235
 go_wp2_with fail
 obtain ⟨W1, hW1⟩ : ∃ W, W = w.alloc (.cells #[.slice (some ⟨g, off, none⟩) 1 nc, .int .i64 N, .slice pa p.length pc] 236) := ⟨_, rfl⟩
 rw [← hW1] at f1 f2 f3 f4 f5 f6 f7 f8 f9 H1 ⊢
 have HU := Lib.hid hU
 clear hW1 hU hD
 refine wp_region_ord [0,0,0,1,0,1,0,1,1,0] [0,1,2,4,3,5,6,7,8,9] (by kernel_rfl) (by kernel_rfl) ?_
 repeat (first
  | (apply wpOrd_skip rfl (by decide) rfl; (focus (go_simp; rfl)))
  | (apply wpOrd_pure rfl rfl rfl; (focus (intro _ _; go_simp; (try go_ints); rfl)); (focus (go_simp; rfl)))
  | (apply wpOrd_read rfl rfl rfl; (focus (intro _; go_simp; (try go_ints); rfl)); (focus (go_simp; rfl))))
 refine wpOrd_nil (fun nq => ?_)
 go_wp2_with fail
 have f0 : ∀ W, Kp No (W1.drewN nq) W → Kp No W1 W := fun W h => h.of_drewN
 refine wp_region_held' (Kp No _) [0,0,0,0,0,0,0,0,2,0,0,0,0,0,0,0,0,0,0,0,0,0,0] [0,1,2,3,4,5,6,7,8,9,10,11,12,13,14,15,16,17,18,19,20,21,22] (by kernel_rfl) (by kernel_rfl) (fun _ n h => h.drewN n) (Kp.refl _ _) ?_
 repeat (first
  | (apply wpOrd_skip rfl (by decide) rfl; (focus (go_simp; rfl)))
  | (apply wpOrd_pure rfl rfl rfl; (focus (intro _ _; go_simp; (try go_ints); rfl)); (focus (go_simp; rfl)))
  | (apply wpOrd_read rfl rfl rfl; (focus (intro _; go_simp; (try go_ints); rfl)); (focus (go_simp; rfl))))
 refine wpOrd_eff rfl rfl (fun nu => ?_)
 go_wp2_with fail
 refine (HU.out _ (H1.drewN _)).mono ?_
 rintro e W3 ⟨rfl, hk3⟩
 go_wp2_with fail
 refine ⟨hk3.of_drewN.from_drewN _, ?_⟩
 have K3 : Kp No W1 W3 := hk3.of_drewN
 repeat (first
  | (apply wpOrd_skip rfl (by decide) rfl; (focus (go_simp; rfl)))
  | (apply wpOrd_pure rfl rfl rfl; (focus (intro _ _; go_simp; (try go_ints); rfl)); (focus (go_simp; rfl)))
  | (apply wpOrd_read rfl rfl rfl; (focus (intro _; go_simp; (try go_ints); rfl)); (focus (go_simp; rfl))))
 refine wpOrd_nil (fun nq => ?_)
 clear hk3
 go_wp2_with fail
 have hB0 : (W3.drewN nq).heap.size = W3.heap.size := rfl
 have hBs : w.heap.size ≤ W3.heap.size := Nat.le_trans H1.size K3.size
 have KQ : Kp No w (W3.drewN nq) := (H1.trans_same K3).drewN nq
 have K1 : Kp No W1 ((W3.drewN nq).alloc (.cells #[.slice none 0 0, .int .i64 0] 164)) := (K3.drewN nq).alloc _
 have hBg : ((W3.drewN nq).alloc (.cells #[.slice none 0 0, .int .i64 0] 164)).heap[W3.heap.size]? = some (.cells #[.slice none 0 0, .int .i64 0] 164 (0, 0)) := heap_alloc_new (W3.drewN nq) _
 have KA : Kp No (W3.drewN nq) ((W3.drewN nq).alloc (.cells #[.slice none 0 0, .int .i64 0] 164)) := (Kp.refl _ _).alloc _
 obtain ⟨WA, hWA⟩ : ∃ W, W = (W3.drewN nq).alloc (.cells #[.slice none 0 0, .int .i64 0] 164) := ⟨_, rfl⟩
 obtain ⟨WQ, hWQ⟩ : ∃ W, W = W3.drewN nq := ⟨_, rfl⟩
 obtain ⟨B, hB⟩ : ∃ B, B = W3.heap.size := ⟨_, rfl⟩
 rw [← hWQ, ← hB] at hB0
 rw [← hB] at hBs hBg ⊢
 rw [← hWA] at K1 KA hBg ⊢
 rw [← hWQ] at KQ KA
 clear hWA hWQ hB f0
 have KW : Kp No w WA := KQ.trans_same KA
 have KD : ∀ n, Kp No W1 (WA.drewN n) := fun n => K1.drewN n
 refine wp_region_ord [0,0,0,1,0,1,0,1,0,2] [0,1,2,4,8,3,5,6,7,9] (by kernel_rfl) (by kernel_rfl) ?_
 repeat (first
  | (apply wpOrd_skip rfl (by decide) rfl; (focus (go_simp; rfl)))
  | (apply wpOrd_pure rfl rfl rfl; (focus (intro _ _; go_simp; (try go_ints); rfl)); (focus (go_simp; rfl)))
  | (apply wpOrd_read rfl rfl rfl; (focus (intro _; go_simp; (try go_ints); rfl)); (focus (go_simp; rfl))))
 refine wpOrd_eff rfl rfl (fun ng => ?_)
 have hDA := HD.out.keep_no (KW.drewN ng)
 obtain ⟨o, hupd, hG⟩ := run_update_g (P := Tryz.prog) (w := WA.drewN ng) Tryz.underlying159 kindStr strKey strInj hDA.map name (.pointer (some ⟨B, 0, none⟩))
 have hml := hDA.map.lt
 obtain ⟨es, ck, hmm, _⟩ := hDA.map
 have hmw := HD.out.map.lt
 have HG := Lib.hid hG
 clear hG hDA
 go_wp2_with fail
 refine wpOrd_nil (fun nq => ?_)
 go_wp2_with fail
 have hBm : B ≠ m := ne_of_map hBg (by exact hmm)
 have kC : Kp (One m) WA ((ChangeMaps.setBlock (WA.drewN ng) m o).drewN nq) := (((Kp.refl (One m) WA).drewN ng).setBlock (.inl rfl) o).drewN nq
 have hmC : ((ChangeMaps.setBlock (WA.drewN ng) m o).drewN nq).heap[m]? = some o := setBlock_at (w := WA.drewN ng) hml o
 have fb0 := f5 WA K1
 have hbl := World.block_lt_of_cell? WA _ fb0
 have hpC := (HP.out.keep KW fun _ _ x => x).keep_map kC (fun k off hk => by rw [show k = m from hk]; exact cell_map (by exact hmm) off)
 obtain ⟨WC, hWC⟩ : ∃ W, W = (ChangeMaps.setBlock (WA.drewN ng) m o).drewN nq := ⟨_, rfl⟩
 rw [← hWC] at kC hmC hpC ⊢
 clear hWC hupd
 have fb : ∀ n, (WC.drewN n).cell? ⟨w.heap.size, 2, none⟩ = some (.slice pa p.length pc) := fun n =>
  ((kC.drewN n).cell (p := ⟨w.heap.size, 2, none⟩) hbl (by show ¬ (w.heap.size = m); omega)).trans fb0
 have hgB := kC.get hBg (fun h => hBm h)
 have fB : ∀ n, (WC.drewN n).cell? ⟨B, 0, none⟩ = some (.slice none 0 0) := fun n => by rw [cell_at (w := WC.drewN n) hgB]; rfl
 clear f1 f2 f3 f4 f5 f6 f7 f8 f9 HU fb0 hmm K3
 refine wp_region_ord [0,0,0,0,1,0,1,2,0,0,2] [0,1,2,3,5,4,6,7,8,9,10] (by kernel_rfl) (by kernel_rfl) ?_
 repeat (first
  | (apply wpOrd_skip rfl (by decide) rfl; (focus (go_simp; rfl)))
  | (apply wpOrd_pure rfl rfl rfl; (focus (intro _ _; go_simp; (try go_ints); rfl)); (focus (go_simp; rfl)))
  | (apply wpOrd_read rfl rfl rfl; (focus (intro _; go_simp; (try go_ints); rfl)); (focus (go_simp; rfl))))
 refine wpOrd_eff rfl rfl (fun na => ?_)
 obtain ⟨hi, hz0, hz1, hz2⟩ := HI.out
 obtain ⟨v', w', hrun, hown, hkp, hblk⟩ := run_append_Own (P := Tryz.prog) (w := WC.drewN na) 42 42 42 5 i0 (.int .u8 0) 1 1 Tryz.underlying42 ⟨_, Tryz.underlying42⟩ hi hz0 hz1 hz2 rfl
  (.slice none 0 0) 0 [] (Own.nil _ _ _) (.slice pa p.length pc) p.length (u8s p) ⟨by simp [u8s_length], pa, pc, rfl, (hpC.drewN na).mono (Nat.le_trans KW.size kC.size) (Nat.le_refl _)⟩ (u8s_one p)
  (by simp only [maxLen]; omega) (by omega)
 have hkn : Kp No WC w' := (hkp.of_drewN).mono fun k _ h => by cases h
 have hcell := hkn.get hgB fun x => x
 refine wpList_append_run rfl rfl rfl rfl hrun (wpList_nil ⟨rfl, trivial, ?_⟩)
 obtain ⟨a', c', hv'⟩ : ∃ a' c', v' = .slice a' (0 + p.length) c' := by obtain ⟨_, a', c', h, _⟩ := hown; exact ⟨a', c', h⟩
 subst hv'
 have cs : ∀ n, (w'.drewN n).cell? ⟨B, 0, none⟩ = some (.slice none 0 0) := fun n => by
  rw [cell_at (w := w'.drewN n) hcell]; rfl
 have fs : ∀ n, (w'.drewN n).frozen? ⟨B, 0, none⟩ = false := fun n => free_at (w := w'.drewN n) hcell 0
 have HO := Lib.hid hown
 have HB := Lib.hid hblk
 have HL := Lib.hid hcell
 clear hown hkp hblk hcell hrun hi hz0 hz1 hz2 HI hgB fB fb hpC hBg
 repeat (first
  | (apply wpOrd_skip rfl (by decide) rfl; (focus (go_simp; rfl)))
  | (apply wpOrd_pure rfl rfl rfl; (focus (intro _ _; go_simp; (try go_ints); rfl)); (focus (go_simp; rfl)))
  | (apply wpOrd_read rfl rfl rfl; (focus (intro _; go_simp; (try go_ints); rfl)); (focus (go_simp; rfl))))
 refine wpOrd_eff rfl rfl (fun n2 => ?_)
 go_wp2_with fail
 refine wpOrd_nil (fun nq => ?_)
 go_wp2_with fail
 go_ret
 have hks : Kp (One B) w' (((w'.drewN n2).setCell ⟨B, 0, none⟩ (.slice a' (0 + p.length) c')).drewN nq) :=
  (((Kp.refl (One B) w').drewN n2).setCell (p := ⟨B, 0, none⟩) (.inl rfl) _).drewN nq
 have hkf : Kp (One m) WQ (((w'.drewN n2).setCell ⟨B, 0, none⟩ (.slice a' (0 + p.length) c')).drewN nq) := by
  have h1 : Kp (One m) WQ w' := ((Kp.of_no KA).trans_same kC).trans_no hkn
  exact h1.trans hks fun k hk hB => by rw [show k = B from hB] at hk; omega
 have hcf : (((w'.drewN n2).setCell ⟨B, 0, none⟩ (.slice a' (0 + p.length) c')).drewN nq).heap[B]? = some (.cells #[.slice a' (0 + p.length) c', .int .i64 0] 164 (0, 0)) :=
  set_at (w := w'.drewN n2) HL.out 0 _
 have hne : ∀ k, (Value.slice a' (0 + p.length) c').ownBlock = some k → ¬ One B k := fun k hk e => by
  obtain ⟨cur, hcur⟩ := HO.out.type k hk
  exact ne_of_type hcur HL.out (by decide) e
 have hown := HO.out.keep hks hne
 rw [Nat.zero_add, List.nil_append] at hown
 have htot := totF_gset_new (l := absL L) (k := name) (y := ⟨p, 0⟩) (by rw [gget_abs, HC.out]; rfl)
 simp only [Nat.zero_add] at hks hkf hcf hne hown ⊢
 obtain ⟨h1, h2, h3⟩ := (HD.out.keep_no KQ).addFile (c' := ⟨B, .slice a' p.length c', p, 0⟩) HC.out hkf (HG.out _ (hks.get (hkn.get hmC fun x => x) fun h => hBm (Eq.symm h)))
  ⟨hcf, hown, Nat.zero_le _⟩ (by show WQ.heap.size ≤ B; omega) (fun k hk => by
   have hk' : (Value.slice a' p.length c').ownBlock = some k := hk
   have HB' := HB.out
   simp only [Nat.zero_add] at HB'
   rcases HB' with h | ⟨g', h, h'⟩
   ·rw [h] at hk'; simp [Value.ownBlock] at hk'
   ·rw [h] at hk'
    injection hk' with hk'
    have hs1 := KA.size
    have hs2 := kC.size
    simp at h'
    omega) (by
   rw [gset_abs]
   simp only [FileR.abs] at htot ⊢
   omega) hfew
 exact ⟨rfl, _, rfl, h1, fun k hk => (h2 k hk).imp id fun h => Nat.le_trans KQ.size h, (Kp.of_no KQ).trans_same h3⟩
end Go.Proofs.YtgnkmjeoaoongaaGreatDoor
namespace Go.Proofs.YtgnkmjeoaoongaaGreatDoor
open Go.RowKit Go.Mer
def five (s : DSt) (ns : List ByteArray) (code : Int) (fs : Files) : Int × DSt :=
 if s.fuse = some 0 then (9, s) else if ns.all nameOk = true then (if code = 0 then (0, { s with fuse := s.fuse.map (· - 1), files := fs }) else (code, s)) else (1, s)
def Said5 (w : World) (d : Nat) (F : Nat → Prop) (r : Int × DSt) (e : Ending) (w' : World) : Prop :=
 e = .returned (.int .i64 r.1) ∧ ∃ F', DiskAt w' d r.2 F' ∧ Foot F F' w ∧ Kp F w w'
theorem fuse_zero {fused : Bool} {left : Int} (h0 : 0 ≤ left) : fuseOf fused left = some 0 ↔ fused = true ∧ left = 0 := by
 unfold fuseOf
 cases fused
 ·simp
 ·simp; omega
theorem gate_five (w : World) (d m : Nat) (fused : Bool) (left : Int) (L : FilesR) (s : DSt) (F : Nat → Prop) (hD : DiskC w d m s.room fused left L) (hf : s.fuse = fuseOf fused left) (hs : s.files = absL L)
  (hF : ∀ k, FP d m L k → F k) (hFs : ∀ k, F k → k < w.heap.size)
  (k : FuncId) (hcf : ∀ args w, (callFunc k args).run Tryz.prog w = .ok (.enter k args) w) (na : Option Addr) (nc : Nat) (ns : List ByteArray) (N : Int) (pv : Value)
  (hns : Rd w w.heap.size na (ns.map Value.string)) (hnl : ns.length ≤ 1000) (code : Int) (fs : Files)
  (hk : ns.all nameOk = true → ∀ w1, Kp No w w1 → Calls Tryz.prog k #[.pointer (some ⟨d, 0, none⟩), .agg #[.slice na ns.length nc, .int .i64 N, pv]] w1 fun e w2 =>
   e = .returned (.int .i64 code) ∧ ∃ L', DiskC w2 d m s.room fused left L' ∧ absL L' = (if code = 0 then fs else absL L) ∧ Foot (FP d m L) (FP d m L') w1 ∧ Kp (FP d m L) w1 w2) :
  Calls Tryz.prog 153 #[.pointer (some ⟨d, 0, none⟩), .func (.func k) #[.pointer (some ⟨d, 0, none⟩)] #[], .agg #[.slice na ns.length nc, .int .i64 N, pv]] w (Said5 w d F (five s ns code fs)) := by
 have hsame : ∀ w', Kp No w w' → ∃ F', DiskAt w' d s F' ∧ Foot F F' w ∧ Kp F w w' := fun w' h =>
  ⟨F, ⟨m, fused, left, L, hD.keep_no h, hf, hs, hF, fun k hk => h.lt (hFs k hk)⟩, Foot.refl _ _, Kp.of_no h⟩
 by_cases h0 : s.fuse = some 0
 ·have h1 := h0
  rw [hf] at h1
  obtain ⟨rfl, rfl⟩ := (fuse_zero hD.left0).1 h1
  refine (gate_dead d s.room (.map (some m)) _ _ w ⟨_, _, _, rfl⟩ hD.cell).mono fun e w' ⟨he, hw⟩ => ?_
  have e5 : five s ns code fs = (9, s) := by simp [five, h0]
  rw [e5]
  exact ⟨he, hsame w' hw⟩
 ·have hpos : fused = false ∨ 0 < left := by
   cases fused
   ·exact .inl rfl
   ·right
    have := hD.left0
    have h1 : ¬ (left = 0) := fun e => h0 (by rw [hf]; exact (fuse_zero hD.left0).2 ⟨rfl, e⟩)
    omega
  by_cases hn : ns.all nameOk = true
  ·refine (gate_does d k s.room left (.map (some m)) fused hpos hD.leftM na nc ns N pv w hD.cell hns hnl (by simpa using hn)
    (fun r w2 => r = code ∧ ∃ L', DiskC w2 d m s.room fused left L' ∧ absL L' = (if code = 0 then fs else absL L) ∧ Foot (FP d m L) (FP d m L') w ∧ Kp (FP d m L) w w2)
    (fun r w2 ⟨_, L', h, _⟩ => ⟨_, _, h.cell⟩) hcf (fun w1 hw1 => (hk hn w1 hw1).mono fun e w2 ⟨he, L', h1, h2, h3, h4⟩ => ⟨code, he, rfl, L', h1, h2, fun i hi => (h3 i hi).imp id fun h => Nat.le_trans hw1.size h, (Kp.of_no hw1).trans_same h4⟩)).mono ?_
   rintro e w' ⟨r, w2, ⟨rfl, L', h1, h2, h3, h4⟩, rfl, rfl⟩
   have hFk : Kp F w w2 := h4.mono fun i _ hi => hF i hi
   have hFt : Foot F (fun i => FP d m L' i) w := fun i hi => (h3 i hi).imp (hF i) id
   by_cases hc : r = 0
   ·subst hc
    have e5 : five s ns 0 fs = (0, { s with fuse := s.fuse.map (· - 1), files := fs }) := by simp [five, h0, hn]
    rw [e5]
    rw [if_pos rfl] at h2
    cases fused
    ·refine ⟨rfl, fun i => FP d m L' i, ⟨m, false, left, L', ?_, ?_, h2.symm, fun _ h => h, fun i hi => ?_⟩, hFt, ?_⟩
     ·simpa using h1
     ·rw [hf]; rfl
     ·have := h1.lt i hi
      simpa using this
     ·simpa using hFk
    ·have hl : 0 < left := hpos.resolve_left (by simp)
     rw [if_pos ⟨rfl, rfl⟩]
     have hset : Kp (One d) w2 (w2.setCell ⟨d, 3, none⟩ (.int .i64 (left - 1))) := (Kp.refl (One d) _).setCell (p := ⟨d, 3, none⟩) (.inl rfl) _
     refine ⟨rfl, fun i => FP d m L' i, ⟨m, true, left - 1, L', h1.setFuse true (left - 1) (by omega) (by have := h1.leftM; omega) hset ?_, ?_, h2.symm, fun _ h => h, fun i hi => ?_⟩, hFt, ?_⟩
     ·have := set_at h1.cell 3 (.int .i64 (left - 1))
      simpa using this
     ·rw [hf]
      simp [fuseOf]
     ·exact hset.lt (h1.lt i hi)
     ·exact hFk.trans hset fun i _ hi => hF i (by rw [show i = d from hi]; exact .inl rfl)
   ·have e5 : five s ns r fs = (r, s) := by simp [five, h0, hn, hc]
    rw [e5]
    rw [if_neg hc] at h2
    rw [if_neg (fun h => hc h.1)]
    exact ⟨rfl, fun i => FP d m L' i, ⟨m, fused, left, L', h1, hf, by rw [h2]; exact hs, fun _ h => h, fun i hi => h1.lt i hi⟩, hFt, hFk⟩
  ·have hn' : ns.all nameOk = false := by simpa using hn
   refine (gate_arg d s.room left (.map (some m)) _ fused hpos na nc ns N pv w hD.cell hns hnl hn').mono fun e w' ⟨he, hw⟩ => ?_
   have e5 : five s ns code fs = (1, s) := by simp [five, h0, hn']
   rw [e5]
   exact ⟨he, hsame w' hw⟩
theorem name_rd (w : World) (name : ByteArray) : Rd (w.alloc (.cells #[.string name] 9)) (w.alloc (.cells #[.string name] 9)).heap.size (some ⟨w.heap.size, 0, none⟩) ([name].map Value.string) :=
 Rd.row (off := 0) (n := 1) (heap_alloc_new w _) (by simp) (by simp) (Nat.le_refl _)
def wrCode (s : DSt) (name : ByteArray) (p : List UInt8) : Int := if s.room < totF s.files + p.length ∨ (gget s.files name = none ∧ 4096 ≤ s.files.length) then 6 else 0
def wrFiles (l : Files) (name : ByteArray) (p : List UInt8) : Files :=
 match gget l name with
 | some x => gset l name ⟨x.data ++ p, x.lasts⟩
 | none => gset l name ⟨p, 0⟩
def wrS (s : DSt) (name : ByteArray) (p : List UInt8) : Int × DSt := five s [name] (wrCode s name p) (wrFiles s.files name p)
set_option maxHeartbeats 400000 in
theorem Write_any (w : World) (d : Nat) (s : DSt) (F : Nat → Prop) (hD : DiskAt w d s F) (name : ByteArray) (pa : Option Addr) (pc : Nat) (p : List UInt8) (hp : Rd w w.heap.size pa (u8s p)) (hpm : p.length ≤ 140737488355328) :
  Calls Tryz.prog 187 #[.pointer (some ⟨d, 0, none⟩), .string name, .slice pa p.length pc] w (Said5 w d F (wrS s name p)) := by
 obtain ⟨m, fused, left, L, hC, hf, hs, hF, hFs⟩ := hD
 have h1 : Kp No w (w.alloc (.cells #[.string name] 9)) := (Kp.refl _ _).alloc _
 have hcf : ∀ args w, (callFunc 235 args).run Tryz.prog w = .ok (.enter 235 args) w := fun args w => by simp [go_sem]
 have hg := gate_five (w.alloc (.cells #[.string name] 9)) d m fused left L s F (hC.keep_no h1) hf hs hF (fun k hk => h1.lt (hFs k hk)) 235 hcf (some ⟨w.heap.size, 0, none⟩) 1 [name] 0 (.slice pa p.length pc)
  (name_rd w name) (by simp) (wrCode s name p) (wrFiles s.files name p) (by
   intro _ w1 hw1
   have hC1 := (hC.keep_no h1).keep_no hw1
   have hp1 := ((hp.keep h1 fun _ _ x => x).keep hw1 fun _ _ x => x).mono (Nat.le_trans h1.size hw1.size) (Nat.le_refl _)
   have hn1 := ((name_rd w name).keep hw1 fun _ _ x => x).mono hw1.size (Nat.le_refl _)
   have hroom : s.files.length = L.length := by rw [hs]; simp [absL]
   by_cases hr : s.room < totF (absL L) + p.length
   ·refine (write_full w1 d m s.room fused left L hC1 name (some ⟨w.heap.size, 0, none⟩) 1 hn1 0 pa pc p hpm hr).mono fun e w2 ⟨he, hw⟩ => ?_
    have e6 : wrCode s name p = 6 := by simp [wrCode, hs, hr]
    rw [e6]
    exact ⟨he, L, hC1.keep_no hw, rfl, Foot.refl _ _, Kp.of_no hw⟩
   ·cases hc : gget L name with
    | none =>
     have hga : gget s.files name = none := by rw [hs, gget_abs, hc]; rfl
     by_cases hmny : 4096 ≤ L.length
     ·refine (write_many w1 d m s.room fused left L hC1 name (some ⟨w.heap.size, 0, none⟩) 1 hn1 0 pa pc p (by omega) hc hmny).mono fun e w2 ⟨he, hw⟩ => ?_
      have e6 : wrCode s name p = 6 := by unfold wrCode; rw [if_pos (.inr ⟨hga, by omega⟩)]
      rw [e6]
      exact ⟨he, L, hC1.keep_no hw, rfl, Foot.refl _ _, Kp.of_no hw⟩
     ·refine (write_new w1 d m s.room fused left L hC1 name (some ⟨w.heap.size, 0, none⟩) 1 hn1 0 pa pc p (by omega) hp1 hc (by omega)).mono fun e w2 ⟨he, c, hca, h2, h3, h4⟩ => ?_
      have e0 : wrCode s name p = 0 := by
       unfold wrCode
       rw [if_neg (by
        rintro (h | ⟨_, h⟩)
        ·rw [hs] at h; omega
        ·omega)]
      have ef : wrFiles s.files name p = gset (absL L) name ⟨p, 0⟩ := by unfold wrFiles; rw [hga, hs]
      rw [e0, ef]
      exact ⟨he, _, h2, by rw [gset_abs, hca]; rfl, h3, h4⟩
    | some c =>
     have hga : gget s.files name = some c.abs := by rw [hs, gget_abs, hc]; rfl
     refine (write_some w1 d m s.room fused left L hC1 name (some ⟨w.heap.size, 0, none⟩) 1 hn1 0 pa pc p (by omega) hp1 c hc).mono fun e w2 ⟨he, v, h2, h3, h4⟩ => ?_
     have e0 : wrCode s name p = 0 := by
      unfold wrCode
      rw [if_neg (by
       rintro (h | ⟨h, _⟩)
       ·rw [hs] at h; omega
       ·rw [hga] at h; cases h)]
     have ef : wrFiles s.files name p = gset (absL L) name ⟨c.data ++ p, c.lasts⟩ := by unfold wrFiles; rw [hga, hs]; rfl
     rw [e0, ef]
     exact ⟨he, _, h2, by rw [gset_abs]; rfl, h3, h4⟩)
 have HG := Lib.hid hg
 clear hg hp hC hF hFs hf hs
 go_enter Tryz.func187, Tryz.ntmps187
 go_wp2_with fail
 refine (HG.out).mono ?_
 rintro e w' ⟨rfl, F', h2, h3, h4⟩
 have H2 := Lib.hid h2
 have H3 := Lib.hid h3
 have H4 := Lib.hid h4
 clear h2 h3 h4
 go_wp2_with fail
 go_ret
 exact ⟨rfl, F', H2.out, fun k hk => (H3.out k hk).imp id fun h => Nat.le_trans h1.size h, (Kp.of_no h1).trans_same H4.out⟩
def syCode (s : DSt) (name : ByteArray) : Int := if gget s.files name = none then 7 else 0
def syFiles (l : Files) (name : ByteArray) : Files :=
 match gget l name with
 | some x => gset l name ⟨x.data, x.data.length⟩
 | none => l
def syS (s : DSt) (name : ByteArray) : Int × DSt := five s [name] (syCode s name) (syFiles s.files name)
set_option maxHeartbeats 400000 in
theorem Sync_any (w : World) (d : Nat) (s : DSt) (F : Nat → Prop) (hD : DiskAt w d s F) (name : ByteArray) :
  Calls Tryz.prog 161 #[.pointer (some ⟨d, 0, none⟩), .string name] w (Said5 w d F (syS s name)) := by
 obtain ⟨m, fused, left, L, hC, hf, hs, hF, hFs⟩ := hD
 have h1 : Kp No w (w.alloc (.cells #[.string name] 9)) := (Kp.refl _ _).alloc _
 have hcf : ∀ args w, (callFunc 214 args).run Tryz.prog w = .ok (.enter 214 args) w := fun args w => by simp [go_sem]
 have hg := gate_five (w.alloc (.cells #[.string name] 9)) d m fused left L s F (hC.keep_no h1) hf hs hF (fun k hk => h1.lt (hFs k hk)) 214 hcf (some ⟨w.heap.size, 0, none⟩) 1 [name] 0 (.slice none 0 0)
  (name_rd w name) (by simp) (syCode s name) (syFiles s.files name) (by
   intro _ w1 hw1
   have hC1 := (hC.keep_no h1).keep_no hw1
   have hn1 := ((name_rd w name).keep hw1 fun _ _ x => x).mono hw1.size (Nat.le_refl _)
   cases hc : gget L name with
   | none =>
    have hga : gget s.files name = none := by rw [hs, gget_abs, hc]; rfl
    refine (sync_none w1 d m s.room fused left L hC1 name hc (some ⟨w.heap.size, 0, none⟩) 1 hn1 0 (.slice none 0 0)).mono fun e w2 ⟨he, hw⟩ => ?_
    have e7 : syCode s name = 7 := by unfold syCode; rw [if_pos hga]
    rw [e7]
    exact ⟨he, L, hC1.keep_no hw, rfl, Foot.refl _ _, Kp.of_no hw⟩
   | some c =>
    have hga : gget s.files name = some c.abs := by rw [hs, gget_abs, hc]; rfl
    refine (sync_some w1 d m s.room fused left L hC1 name c hc (some ⟨w.heap.size, 0, none⟩) 1 hn1 0 (.slice none 0 0)).mono fun e w2 ⟨he, h2, h3, h4⟩ => ?_
    have e0 : syCode s name = 0 := by unfold syCode; rw [if_neg (by rw [hga]; simp)]
    have ef : syFiles s.files name = gset (absL L) name ⟨c.data, c.data.length⟩ := by unfold syFiles; rw [hga, hs]; rfl
    rw [e0, ef]
    exact ⟨he, _, h2, by rw [gset_abs]; rfl, h3, h4⟩)
 have HG := Lib.hid hg
 clear hg hC hF hFs hf hs
 go_enter Tryz.func161, Tryz.ntmps161
 go_wp2_with fail
 refine (HG.out).mono ?_
 rintro e w' ⟨rfl, F', h2, h3, h4⟩
 have H2 := Lib.hid h2
 have H3 := Lib.hid h3
 have H4 := Lib.hid h4
 clear h2 h3 h4
 go_wp2_with fail
 go_ret
 exact ⟨rfl, F', H2.out, fun k hk => (H3.out k hk).imp id fun h => Nat.le_trans h1.size h, (Kp.of_no h1).trans_same H4.out⟩
def rdS (l : Files) (name : ByteArray) : List UInt8 × Int :=
 match gget l name with
 | some x => (x.data, 0)
 | none => ([], 7)
def ReadPost (w : World) (d : Nat) (s : DSt) (F : Nat → Prop) (name : ByteArray) (e : Ending) (w' : World) : Prop :=
 ∃ v, e = .returned (.tuple #[v, .int .i64 (rdS s.files name).2]) ∧ Own w' 5 1 v (rdS s.files name).1.length (u8s (rdS s.files name).1) ∧ Kp No w w' ∧ (∀ g, v.ownBlock = some g → w.heap.size ≤ g) ∧ DiskAt w' d s F
set_option maxHeartbeats 400000 in
theorem Read_any (w : World) (d : Nat) (s : DSt) (F : Nat → Prop) (hD : DiskAt w d s F) (name : ByteArray) :
  Calls Tryz.prog 145 #[.pointer (some ⟨d, 0, none⟩), .string name] w (ReadPost w d s F name) := by
 have HDA := Lib.hid hD
 obtain ⟨m, fused, left, L, hC, hf, hs, hF, hFs⟩ := hD
 have c1 := cell_at hC.cell 1
 have hdl := get_lt hC.cell
 simp at c1
 have hlook := look_file hC.map name
 rw [show ptrL L = L.map fun p => (p.1, p.2.ptr) from rfl, gget_mapv] at hlook
 cases hc : gget L name with
 | none =>
  have hga : gget s.files name = none := by rw [hs, gget_abs, hc]; rfl
  rw [hc] at hlook
  simp only [Option.map_none, Option.getD_none] at hlook
  have HA := Lib.hid hga
  clear hga hc hC hf hs hF hFs
  go_enter Tryz.func145, Tryz.ntmps145
  go_wp2_with fail
  go_ret2
  have e7 : rdS s.files name = ([], 7) := by unfold rdS; rw [HA.out]
  refine ⟨.slice none 0 0, ?_, ?_, Kp.refl _ _, fun g h => by simp [Value.ownBlock] at h, HDA.out⟩
  ·rw [e7]; rfl
  ·rw [e7]; exact Own.nil _ _ _
 | some c =>
  have hga : gget s.files name = some c.abs := by rw [hs, gget_abs, hc]; rfl
  have hfo := hC.files _ (gget_mem hc)
  have hfl := get_lt hfo.1
  have cf0 := cell_at hfo.1 0
  obtain ⟨fa, fc, hv, _, hrd⟩ := hfo.2.1.rd
  simp at cf0
  rw [hv] at cf0
  have hfit := hC.fits
  have hroom := hC.roomy
  have hmem := mem_len (l := absL L) (p := (name, c.abs)) (List.mem_map.2 ⟨(name, c), gget_mem hc, rfl⟩)
  have hlen : c.data.length ≤ 140737488355328 := by simp only [FileR.abs] at hmem; omega
  rw [hc] at hlook
  simp only [Option.map_some, Option.getD_some, FileR.ptr] at hlook
  have hcl := clone_any fa fc c.data w.heap.size w hrd hlen
  have HA := Lib.hid hga
  have HL := Lib.hid hcl
  clear hga hc hC hf hs hF hFs hcl hfo hv hrd hfit hroom hmem
  go_enter Tryz.func145, Tryz.ntmps145
  go_wp2_with fail
  refine (HL.out).mono ?_
  rintro e w' ⟨v, rfl, h1, h2, h3⟩
  have H1 := Lib.hid h1
  have H2 := Lib.hid h2
  have H3 := Lib.hid h3
  clear h1 h2 h3
  go_wp2_with fail
  go_ret2
  have e0 : rdS s.files name = (c.data, 0) := by unfold rdS; rw [HA.out]; rfl
  refine ⟨v, ?_, ?_, H2.out, H3.out, HDA.out.keep_no H2.out⟩
  ·rw [e0]; rfl
  ·rw [e0]; exact H1.out
end Go.Proofs.YtgnkmjeoaoongaaGreatDoor
namespace Go.Proofs.YtgnkmjeoaoongaaGreatDoor
open Go.RowKit Go.Mer
end Go.Proofs.YtgnkmjeoaoongaaGreatDoor

