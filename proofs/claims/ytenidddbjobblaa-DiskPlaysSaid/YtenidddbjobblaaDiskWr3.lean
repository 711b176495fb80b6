/-
  disk's write.
-/
import Derived.Test.YtenidddbjobblaaDiskOps
namespace Go.Proofs.Ytenidddbjobblaa
open Go.RowKit Go.Mer

set_option maxHeartbeats 800000 in
/-- write, onto a new file. -/
theorem write_new (w : World) (d m room : Nat) (fused : Bool) (left : Int) (L : FilesR) (hD : DiskC w d m room fused left L) (name : ByteArray)
    (na : Option Addr) (nc : Nat) (hns : Rd w w.heap.size na [Value.string name]) (N : Int) (pa : Option Addr) (pc : Nat) (p : List UInt8) (hfull : totF (absL L) + p.length ≤ room)
    (hp : Rd w w.heap.size pa (u8s p)) (hc : gget L name = none) (hfew : L.length < 4096) :
    Calls Try.prog 30 #[.pointer (some ⟨d, 0, none⟩), .agg #[.slice na 1 nc, .int .i64 N, .slice pa p.length pc]] w fun e w' =>
      e = .returned (.int .i64 0) ∧ ∃ c, c.abs = ⟨p, 0⟩ ∧ DiskC w' d m room fused left (gset L name c) ∧ Foot (FP d m L) (FP d m (gset L name c)) w ∧ Kp (FP d m L) w w' := by
  obtain ⟨i0, hi, hz0, hz1, hz2⟩ := info_parts infoByte
  obtain ⟨g, off, rfl, hg, _, hcn⟩ := hns.at_ (i := 0) rfl
  simp only [Nat.add_zero] at hcn
  have FA := facts hD (nc := nc) (N := N) (pv := (.slice pa p.length pc)) hcn
  have f1 := FA.d0
  have f2 := FA.d1
  have f3 := FA.b0
  have f4 := FA.b1
  have f5 := FA.b2
  have f6 := FA.nm
  have f7 := FA.look
  have f8 := FA.many
  have f9 := FA.dr
  have hdl := get_lt hD.cell
  have H1 : Kp No w (w.alloc (.cells #[.slice (some ⟨g, off, none⟩) 1 nc, .int .i64 N, (.slice pa p.length pc)] 64)) := (Kp.refl _ _).alloc _
  have HD := Lib.hid hD
  clear FA hns hcn
  have hU := fun W (h : Kp No w W) => used_any W d m room fused left L (hD.keep_no h)
  have hfit := hD.fits
  have hroom := hD.roomy
  have hmany : (L.length : Int) ≤ 4096 := by have := hD.few; omega
  have hgd : decide ((room : Int) - (totF (absL L) : Int) < (p.length : Int)) = false := by simp; omega
  have hge : decide ((4096 : Int) ≤ (L.length : Int)) = false := by simp; omega
  rw [hc] at f7
  simp only [Option.map_none, Option.getD_none] at f7
  have HC := Lib.hid hc
  have HP := Lib.hid hp
  have HI := Lib.hid (And.intro hi (And.intro hz0 (And.intro hz1 hz2)))
  clear hc hp hi hz0 hz1 hz2
  go_enter Try.func30, Try.ntmps30
  go_wp2_with fail
  obtain ⟨W1, hW1⟩ : ∃ W, W = w.alloc (.cells #[.slice (some ⟨g, off, none⟩) 1 nc, .int .i64 N, .slice pa p.length pc] 64) := ⟨_, rfl⟩
  rw [← hW1] at f1 f2 f3 f4 f5 f6 f7 f8 f9 H1 ⊢
  have HU := Lib.hid hU
  clear hW1 hU hD
  refine wp_region_ord [0,0,0,1,0,1,0,1,1,0] [0,1,2,4,3,5,6,7,8,9] (by kernel_rfl) (by kernel_rfl) ?_
  repeat (first
    | (apply wpOrd_skip rfl (by decide) rfl; (focus (go_simp; rfl)))
    | (apply wpOrd_pure rfl rfl rfl; (focus (intro _ _; go_simp; (try go_ints); rfl)); (focus (go_simp; rfl)))
    | (apply wpOrd_read rfl rfl rfl; (focus (intro _; go_simp; (try go_ints); rfl)); (focus (go_simp; rfl))))
  refine wpOrd_nil (fun nq => ?_)
  go_wp2_with fail
  have f0 : ∀ W, Kp No (W1.drewN nq) W → Kp No W1 W := fun W h => h.of_drewN
  refine wp_region_held' (Kp No _) [0,0,0,0,0,0,0,0,2,0,0,0,0,0,0,0,0,0,0,0,0,0,0] [0,1,2,3,4,5,6,7,8,9,10,11,12,13,14,15,16,17,18,19,20,21,22] (by kernel_rfl) (by kernel_rfl) (fun _ n h => h.drewN n) (Kp.refl _ _) ?_
  repeat (first
    | (apply wpOrd_skip rfl (by decide) rfl; (focus (go_simp; rfl)))
    | (apply wpOrd_pure rfl rfl rfl; (focus (intro _ _; go_simp; (try go_ints); rfl)); (focus (go_simp; rfl)))
    | (apply wpOrd_read rfl rfl rfl; (focus (intro _; go_simp; (try go_ints); rfl)); (focus (go_simp; rfl))))
  refine wpOrd_eff rfl rfl (fun nu => ?_)
  go_wp2_with fail
  refine (HU.out _ (H1.drewN _)).mono ?_
  rintro e W3 ⟨rfl, hk3⟩
  go_wp2_with fail
  refine ⟨hk3.of_drewN.from_drewN _, ?_⟩
  have K3 : Kp No W1 W3 := hk3.of_drewN
  repeat (first
    | (apply wpOrd_skip rfl (by decide) rfl; (focus (go_simp; rfl)))
    | (apply wpOrd_pure rfl rfl rfl; (focus (intro _ _; go_simp; (try go_ints); rfl)); (focus (go_simp; rfl)))
    | (apply wpOrd_read rfl rfl rfl; (focus (intro _; go_simp; (try go_ints); rfl)); (focus (go_simp; rfl))))
  refine wpOrd_nil (fun nq => ?_)
  clear hk3
  go_wp2_with fail
  have hB0 : (W3.drewN nq).heap.size = W3.heap.size := rfl
  have hBs : w.heap.size ≤ W3.heap.size := Nat.le_trans H1.size K3.size
  have KQ : Kp No w (W3.drewN nq) := (H1.trans_same K3).drewN nq
  have K1 : Kp No W1 ((W3.drewN nq).alloc (.cells #[.slice none 0 0, .int .i64 0] 67)) := (K3.drewN nq).alloc _
  have hBg : ((W3.drewN nq).alloc (.cells #[.slice none 0 0, .int .i64 0] 67)).heap[W3.heap.size]? = some (.cells #[.slice none 0 0, .int .i64 0] 67 (0, 0)) := heap_alloc_new (W3.drewN nq) _
  have KA : Kp No (W3.drewN nq) ((W3.drewN nq).alloc (.cells #[.slice none 0 0, .int .i64 0] 67)) := (Kp.refl _ _).alloc _
  obtain ⟨WA, hWA⟩ : ∃ W, W = (W3.drewN nq).alloc (.cells #[.slice none 0 0, .int .i64 0] 67) := ⟨_, rfl⟩
  obtain ⟨WQ, hWQ⟩ : ∃ W, W = W3.drewN nq := ⟨_, rfl⟩
  obtain ⟨B, hB⟩ : ∃ B, B = W3.heap.size := ⟨_, rfl⟩
  rw [← hWQ, ← hB] at hB0
  rw [← hB] at hBs hBg ⊢
  rw [← hWA] at K1 KA hBg ⊢
  rw [← hWQ] at KQ KA
  clear hWA hWQ hB f0
  have KW : Kp No w WA := KQ.trans_same KA
  have KD : ∀ n, Kp No W1 (WA.drewN n) := fun n => K1.drewN n
  refine wp_region_ord [0,0,0,1,0,1,0,1,0,2] [0,1,2,4,8,3,5,6,7,9] (by kernel_rfl) (by kernel_rfl) ?_
  repeat (first
    | (apply wpOrd_skip rfl (by decide) rfl; (focus (go_simp; rfl)))
    | (apply wpOrd_pure rfl rfl rfl; (focus (intro _ _; go_simp; (try go_ints); rfl)); (focus (go_simp; rfl)))
    | (apply wpOrd_read rfl rfl rfl; (focus (intro _; go_simp; (try go_ints); rfl)); (focus (go_simp; rfl))))
  refine wpOrd_eff rfl rfl (fun ng => ?_)
  have hDA := HD.out.keep_no (KW.drewN ng)
  obtain ⟨o, hupd, hG⟩ := run_update_g (P := Try.prog) (w := WA.drewN ng) Try.underlying58 kindStr strKey strInj hDA.map name (.pointer (some ⟨B, 0, none⟩))
  have hml := hDA.map.lt
  obtain ⟨es, ck, hmm, _⟩ := hDA.map
  have hmw := HD.out.map.lt
  have HG := Lib.hid hG
  clear hG hDA
  go_wp2_with fail
  refine wpOrd_nil (fun nq => ?_)
  go_wp2_with fail
  have hBm : B ≠ m := ne_of_map hBg (by exact hmm)
  have kC : Kp (One m) WA ((ChangeMaps.setBlock (WA.drewN ng) m o).drewN nq) := (((Kp.refl (One m) WA).drewN ng).setBlock (.inl rfl) o).drewN nq
  have hmC : ((ChangeMaps.setBlock (WA.drewN ng) m o).drewN nq).heap[m]? = some o := setBlock_at (w := WA.drewN ng) hml o
  have fb0 := f5 WA K1
  have hbl := World.block_lt_of_cell? WA _ fb0
  have hpC := (HP.out.keep KW fun _ _ x => x).keep_map kC (fun k off hk => by rw [show k = m from hk]; exact cell_map (by exact hmm) off)
  obtain ⟨WC, hWC⟩ : ∃ W, W = (ChangeMaps.setBlock (WA.drewN ng) m o).drewN nq := ⟨_, rfl⟩
  rw [← hWC] at kC hmC hpC ⊢
  clear hWC hupd
  have fb : ∀ n, (WC.drewN n).cell? ⟨w.heap.size, 2, none⟩ = some (.slice pa p.length pc) := fun n =>
    ((kC.drewN n).cell (p := ⟨w.heap.size, 2, none⟩) hbl (by show ¬ (w.heap.size = m); omega)).trans fb0
  have hgB := kC.get hBg (fun h => hBm h)
  have fB : ∀ n, (WC.drewN n).cell? ⟨B, 0, none⟩ = some (.slice none 0 0) := fun n => by rw [cell_at (w := WC.drewN n) hgB]; rfl
  clear f1 f2 f3 f4 f5 f6 f7 f8 f9 HU fb0 hmm K3
  refine wp_region_ord [0,0,0,0,1,0,1,2,0,0,2] [0,1,2,3,5,4,6,7,8,9,10] (by kernel_rfl) (by kernel_rfl) ?_
  repeat (first
    | (apply wpOrd_skip rfl (by decide) rfl; (focus (go_simp; rfl)))
    | (apply wpOrd_pure rfl rfl rfl; (focus (intro _ _; go_simp; (try go_ints); rfl)); (focus (go_simp; rfl)))
    | (apply wpOrd_read rfl rfl rfl; (focus (intro _; go_simp; (try go_ints); rfl)); (focus (go_simp; rfl))))
  refine wpOrd_eff rfl rfl (fun na => ?_)
  obtain ⟨hi, hz0, hz1, hz2⟩ := HI.out
  obtain ⟨v', w', hrun, hown, hkp, hblk⟩ := run_append_Own (P := Try.prog) (w := WC.drewN na) 23 23 23 5 i0 (.int .u8 0) 1 1 Try.underlying23 ⟨_, Try.underlying23⟩ hi hz0 hz1 hz2 rfl
    (.slice none 0 0) 0 [] (Own.nil _ _ _) (.slice pa p.length pc) p.length (u8s p) ⟨by simp [u8s_length], pa, pc, rfl, (hpC.drewN na).mono (Nat.le_trans KW.size kC.size) (Nat.le_refl _)⟩ (u8s_one p)
    (by simp only [maxLen]; omega) (by omega)
  have hkn : Kp No WC w' := (hkp.of_drewN).mono fun k _ h => by cases h
  have hcell := hkn.get hgB fun x => x
  refine wpList_append_run rfl rfl rfl rfl hrun (wpList_nil ⟨rfl, trivial, ?_⟩)
  obtain ⟨a', c', hv'⟩ : ∃ a' c', v' = .slice a' (0 + p.length) c' := by obtain ⟨_, a', c', h, _⟩ := hown; exact ⟨a', c', h⟩
  subst hv'
  have cs : ∀ n, (w'.drewN n).cell? ⟨B, 0, none⟩ = some (.slice none 0 0) := fun n => by
    rw [cell_at (w := w'.drewN n) hcell]; rfl
  have fs : ∀ n, (w'.drewN n).frozen? ⟨B, 0, none⟩ = false := fun n => free_at (w := w'.drewN n) hcell 0
  have HO := Lib.hid hown
  have HB := Lib.hid hblk
  have HL := Lib.hid hcell
  clear hown hkp hblk hcell hrun hi hz0 hz1 hz2 HI hgB fB fb hpC hBg
  repeat (first
    | (apply wpOrd_skip rfl (by decide) rfl; (focus (go_simp; rfl)))
    | (apply wpOrd_pure rfl rfl rfl; (focus (intro _ _; go_simp; (try go_ints); rfl)); (focus (go_simp; rfl)))
    | (apply wpOrd_read rfl rfl rfl; (focus (intro _; go_simp; (try go_ints); rfl)); (focus (go_simp; rfl))))
  refine wpOrd_eff rfl rfl (fun n2 => ?_)
  go_wp2_with fail
  refine wpOrd_nil (fun nq => ?_)
  go_wp2_with fail
  go_ret
  have hks : Kp (One B) w' (((w'.drewN n2).setCell ⟨B, 0, none⟩ (.slice a' (0 + p.length) c')).drewN nq) :=
    (((Kp.refl (One B) w').drewN n2).setCell (p := ⟨B, 0, none⟩) (.inl rfl) _).drewN nq
  have hkf : Kp (One m) WQ (((w'.drewN n2).setCell ⟨B, 0, none⟩ (.slice a' (0 + p.length) c')).drewN nq) := by
    have h1 : Kp (One m) WQ w' := ((Kp.of_no KA).trans_same kC).trans_no hkn
    exact h1.trans hks fun k hk hB => by rw [show k = B from hB] at hk; omega
  have hcf : (((w'.drewN n2).setCell ⟨B, 0, none⟩ (.slice a' (0 + p.length) c')).drewN nq).heap[B]? = some (.cells #[.slice a' (0 + p.length) c', .int .i64 0] 67 (0, 0)) :=
    set_at (w := w'.drewN n2) HL.out 0 _
  have hne : ∀ k, (Value.slice a' (0 + p.length) c').ownBlock = some k → ¬ One B k := fun k hk e => by
    obtain ⟨cur, hcur⟩ := HO.out.type k hk
    exact ne_of_type hcur HL.out (by decide) e
  have hown := HO.out.keep hks hne
  rw [Nat.zero_add, List.nil_append] at hown
  have htot := totF_gset_new (l := absL L) (k := name) (y := ⟨p, 0⟩) (by rw [gget_abs, HC.out]; rfl)
  simp only [Nat.zero_add] at hks hkf hcf hne hown ⊢
  obtain ⟨h1, h2, h3⟩ := (HD.out.keep_no KQ).addFile (c' := ⟨B, .slice a' p.length c', p, 0⟩) HC.out hkf (HG.out _ (hks.get (hkn.get hmC fun x => x) fun h => hBm (Eq.symm h)))
    ⟨hcf, hown, Nat.zero_le _⟩ (by show WQ.heap.size ≤ B; omega) (fun k hk => by
      have hk' : (Value.slice a' p.length c').ownBlock = some k := hk
      have HB' := HB.out
      simp only [Nat.zero_add] at HB'
      rcases HB' with h | ⟨g', h, h'⟩
      · rw [h] at hk'; simp [Value.ownBlock] at hk'
      · rw [h] at hk'
        injection hk' with hk'
        have hs1 := KA.size
        have hs2 := kC.size
        simp at h'
        omega) (by
      rw [gset_abs]
      simp only [FileR.abs] at htot ⊢
      omega) hfew
  exact ⟨rfl, _, rfl, h1, fun k hk => (h2 k hk).imp id fun h => Nat.le_trans KQ.size h, (Kp.of_no KQ).trans_same h3⟩
end Go.Proofs.Ytenidddbjobblaa
