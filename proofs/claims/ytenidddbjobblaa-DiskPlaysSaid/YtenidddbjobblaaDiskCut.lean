/-
  disk: Cut, as the document says it.
-/
import Derived.Test.YtenidddbjobblaaDiskCrash
namespace Go.Proofs.Ytenidddbjobblaa
open Go.RowKit Go.Mer

set_option maxHeartbeats 400000 in
theorem cut_none (w : World) (d m room : Nat) (fused : Bool) (left : Int) (L : FilesR) (hD : DiskC w d m room fused left L) (name : ByteArray) (hc : gget L name = none)
    (na : Option Addr) (nc : Nat) (hns : Rd w w.heap.size na [Value.string name]) (N : Int) (pv : Value) :
    Calls Try.prog 50 #[.pointer (some ⟨d, 0, none⟩), .agg #[.slice na 1 nc, .int .i64 N, pv]] w fun e w' => e = .returned (.int .i64 7) ∧ Kp No w w' := by
  obtain ⟨g, off, rfl, hg, _, hcn⟩ := hns.at_ (i := 0) rfl
  simp only [Nat.add_zero] at hcn
  have FA := facts hD (nc := nc) (N := N) (pv := pv) hcn
  have f1 := FA.d0
  have f2 := FA.d1
  have f3 := FA.b0
  have f4 := FA.b1
  have f5 := FA.b2
  have f6 := FA.nm
  have f7 := FA.look
  have f8 := FA.many
  have f9 := FA.dr
  have hdl := get_lt hD.cell
  have H1 : Kp No w (w.alloc (.cells #[.slice (some ⟨g, off, none⟩) 1 nc, .int .i64 N, pv] 64)) := (Kp.refl _ _).alloc _
  have HD := Lib.hid hD
  clear FA hns hcn
  rw [hc] at f7
  simp only [Option.map_none, Option.getD_none] at f7
  obtain ⟨W1, hW1⟩ : ∃ W, W = w.alloc (.cells #[.slice (some ⟨g, off, none⟩) 1 nc, .int .i64 N, pv] 64) := ⟨_, rfl⟩
  clear hc f8 f1 f5 hD
  go_enter Try.func50, Try.ntmps50
  go_wp2_with fail
  rw [← hW1] at f2 f3 f4 f6 f7 f9 H1 ⊢
  skip
  clear hW1
  refine wp_region_ord [0,0,0,1,0,1,0,1,1,0] [0,1,2,4,3,5,6,7,8,9] (by kernel_rfl) (by kernel_rfl) ?_
  repeat (first
    | (apply wpOrd_skip rfl (by decide) rfl; (focus (go_simp; rfl)))
    | (apply wpOrd_pure rfl rfl rfl; (focus (intro _ _; go_simp; (try go_ints); rfl)); (focus (go_simp; rfl)))
    | (apply wpOrd_read rfl rfl rfl; (focus (intro _; go_simp; (try go_ints); rfl)); (focus (go_simp; rfl))))
  refine wpOrd_nil (fun nq => ?_)
  go_wp2_with fail
  go_ret
  exact ⟨rfl, H1.drewN _⟩

set_option maxHeartbeats 400000 in
theorem cut_bad (w : World) (d m room : Nat) (fused : Bool) (left : Int) (L : FilesR) (hD : DiskC w d m room fused left L) (name : ByteArray) (c : FileR) (hc : gget L name = some c)
    (na : Option Addr) (nc : Nat) (hns : Rd w w.heap.size na [Value.string name]) (N : Int) (pv : Value) (hN : N < 0 ∨ (c.data.length : Int) < N) :
    Calls Try.prog 50 #[.pointer (some ⟨d, 0, none⟩), .agg #[.slice na 1 nc, .int .i64 N, pv]] w fun e w' => e = .returned (.int .i64 1) ∧ Kp No w w' := by
  obtain ⟨g, off, rfl, hg, _, hcn⟩ := hns.at_ (i := 0) rfl
  simp only [Nat.add_zero] at hcn
  have FA := facts hD (nc := nc) (N := N) (pv := pv) hcn
  have f1 := FA.d0
  have f2 := FA.d1
  have f3 := FA.b0
  have f4 := FA.b1
  have f5 := FA.b2
  have f6 := FA.nm
  have f7 := FA.look
  have f8 := FA.many
  have f9 := FA.dr
  have hdl := get_lt hD.cell
  have H1 : Kp No w (w.alloc (.cells #[.slice (some ⟨g, off, none⟩) 1 nc, .int .i64 N, pv] 64)) := (Kp.refl _ _).alloc _
  have HD := Lib.hid hD
  clear FA hns hcn
  rw [hc] at f7
  simp only [Option.map_some, Option.getD_some, FileR.ptr] at f7
  obtain ⟨W1, hW1⟩ : ∃ W, W = w.alloc (.cells #[.slice (some ⟨g, off, none⟩) 1 nc, .int .i64 N, pv] 64) := ⟨_, rfl⟩
  have hf := hD.files _ (gget_mem hc)
  obtain ⟨fa, fc, hv, _⟩ := hf.2.1.rd
  have cf0 : ∀ n, (W1.drewN n).cell? ⟨c.blk, 0, none⟩ = some (.slice fa c.data.length fc) := fun n => by
    rw [hW1, cell_at ((H1.drewN n).get hf.1 fun x => x), hv]; rfl
  clear hc f8 f1 f5 hD hf hv
  go_enter Try.func50, Try.ntmps50
  go_wp2_with fail
  rw [← hW1] at f2 f3 f4 f6 f7 f9 H1 ⊢
  skip
  clear hW1
  refine wp_region_ord [0,0,0,1,0,1,0,1,1,0] [0,1,2,4,3,5,6,7,8,9] (by kernel_rfl) (by kernel_rfl) ?_
  repeat (first
    | (apply wpOrd_skip rfl (by decide) rfl; (focus (go_simp; rfl)))
    | (apply wpOrd_pure rfl rfl rfl; (focus (intro _ _; go_simp; (try go_ints); rfl)); (focus (go_simp; rfl)))
    | (apply wpOrd_read rfl rfl rfl; (focus (intro _; go_simp; (try go_ints); rfl)); (focus (go_simp; rfl))))
  refine wpOrd_nil (fun nq => ?_)
  go_wp2_with fail
  obtain ⟨W2, hW2⟩ : ∃ W, W = W1.drewN nq := ⟨_, rfl⟩
  have K2 : ∀ n, Kp No W1 (W2.drewN n) := fun n => by rw [hW2]; exact (f9 nq).drewN n
  have g4 := fun n => f4 _ (K2 n)
  have g0 : ∀ n, (W2.drewN n).cell? ⟨c.blk, 0, none⟩ = some (.slice fa c.data.length fc) := fun n => by rw [hW2, World.drewN_drewN]; exact cf0 _
  have H2 : Kp No w W2 := by rw [hW2]; exact H1.drewN nq
  rw [← hW2]
  clear hW2 f2 f3 f4 f6 f7 f9 cf0
  by_cases h0 : N < 0
  · have hdec : decide (N < 0) = true := by simpa using h0
    refine wp_region_ord [0,1,0,0,0,1,0,0,0,1,1,0,0,0] [0,1,2,3,4,6,7,8,5,9,10,11,12,13] (by kernel_rfl) (by kernel_rfl) ?_
    repeat (first
      | (apply wpOrd_skip rfl (by decide) rfl; (focus (go_simp; rfl)))
      | (apply wpOrd_pure rfl rfl rfl; (focus (intro _ _; go_simp; (try go_ints); rfl)); (focus (go_simp; rfl)))
      | (apply wpOrd_read rfl rfl rfl; (focus (intro _; go_simp; (try go_ints); rfl)); (focus (go_simp; rfl))))
    refine wpOrd_nil (fun nq => ?_)
    go_wp2_with fail
    go_ret
    exact ⟨rfl, H2.drewN _⟩
  · have h1 : (c.data.length : Int) < N := hN.resolve_left h0
    have hdec : decide (N < 0) = false := by simpa using h0
    have hdec1 : decide ((c.data.length : Int) < N) = true := by simpa using h1
    refine wp_region_ord [0,1,0,0,0,1,0,0,0,1,1,0,0,0] [0,1,2,3,4,6,7,8,5,9,10,11,12,13] (by kernel_rfl) (by kernel_rfl) ?_
    repeat (first
      | (apply wpOrd_skip rfl (by decide) rfl; (focus (go_simp; rfl)))
      | (apply wpOrd_pure rfl rfl rfl; (focus (intro _ _; go_simp; (try go_ints); rfl)); (focus (go_simp; rfl)))
      | (apply wpOrd_read rfl rfl rfl; (focus (intro _; go_simp; (try go_ints); rfl)); (focus (go_simp; rfl))))
    refine wpOrd_nil (fun nq => ?_)
    go_wp2_with fail
    go_ret
    exact ⟨rfl, H2.drewN _⟩

set_option maxHeartbeats 800000 in
theorem cut_some (w : World) (d m room : Nat) (fused : Bool) (left : Int) (L : FilesR) (hD : DiskC w d m room fused left L) (name : ByteArray) (c : FileR) (hc : gget L name = some c)
    (na : Option Addr) (nc : Nat) (hns : Rd w w.heap.size na [Value.string name]) (N : Int) (pv : Value) (k : Nat) (hN : N = (k : Int)) (hk : k ≤ c.data.length) :
    Calls Try.prog 50 #[.pointer (some ⟨d, 0, none⟩), .agg #[.slice na 1 nc, .int .i64 N, pv]] w fun e w' =>
      e = .returned (.int .i64 0) ∧ ∃ v, DiskC w' d m room fused left (gset L name ⟨c.blk, v, c.data.take k, min c.lasts k⟩) ∧ Foot (FP d m L) (FP d m (gset L name ⟨c.blk, v, c.data.take k, min c.lasts k⟩)) w ∧ Kp (FP d m L) w w' := by
  subst hN
  have HC := Lib.hid hc
  obtain ⟨N, hNN⟩ : ∃ N : Int, N = (k : Int) := ⟨_, rfl⟩
  rw [← hNN]
  have HNN := Lib.hid hNN
  clear hNN
  obtain ⟨g, off, rfl, hg, _, hcn⟩ := hns.at_ (i := 0) rfl
  simp only [Nat.add_zero] at hcn
  have FA := facts hD (nc := nc) (N := N) (pv := pv) hcn
  have f1 := FA.d0
  have f2 := FA.d1
  have f3 := FA.b0
  have f4 := FA.b1
  have f5 := FA.b2
  have f6 := FA.nm
  have f7 := FA.look
  have f8 := FA.many
  have f9 := FA.dr
  have hdl := get_lt hD.cell
  have H1 : Kp No w (w.alloc (.cells #[.slice (some ⟨g, off, none⟩) 1 nc, .int .i64 N, pv] 64)) := (Kp.refl _ _).alloc _
  have HD := Lib.hid hD
  clear FA hns hcn
  rw [hc] at f7
  simp only [Option.map_some, Option.getD_some, FileR.ptr] at f7
  obtain ⟨W1, hW1⟩ : ∃ W, W = w.alloc (.cells #[.slice (some ⟨g, off, none⟩) 1 nc, .int .i64 N, pv] 64) := ⟨_, rfl⟩
  have hf := hD.files _ (gget_mem hc)
  obtain ⟨fa, fc, hv, hcap, _⟩ := hf.2.1.rd
  have cf0 : ∀ n, (W1.drewN n).cell? ⟨c.blk, 0, none⟩ = some (.slice fa c.data.length fc) := fun n => by
    rw [hW1, cell_at ((H1.drewN n).get hf.1 fun x => x), hv]; rfl
  have HF := Lib.hid hf
  have HV := Lib.hid hv
  clear hc f8 f1 f5 hD hf hv
  go_enter Try.func50, Try.ntmps50
  go_wp2_with fail
  rw [← hW1] at f2 f3 f4 f6 f7 f9 H1 ⊢
  skip
  clear hW1
  refine wp_region_ord [0,0,0,1,0,1,0,1,1,0] [0,1,2,4,3,5,6,7,8,9] (by kernel_rfl) (by kernel_rfl) ?_
  repeat (first
    | (apply wpOrd_skip rfl (by decide) rfl; (focus (go_simp; rfl)))
    | (apply wpOrd_pure rfl rfl rfl; (focus (intro _ _; go_simp; (try go_ints); rfl)); (focus (go_simp; rfl)))
    | (apply wpOrd_read rfl rfl rfl; (focus (intro _; go_simp; (try go_ints); rfl)); (focus (go_simp; rfl))))
  refine wpOrd_nil (fun nq => ?_)
  go_wp2_with fail
  obtain ⟨W2, hW2⟩ : ∃ W, W = W1.drewN nq := ⟨_, rfl⟩
  have K2 : ∀ n, Kp No W1 (W2.drewN n) := fun n => by rw [hW2]; exact (f9 nq).drewN n
  have g4 := fun n => f4 _ (K2 n)
  have g0 : ∀ n, (W2.drewN n).cell? ⟨c.blk, 0, none⟩ = some (.slice fa c.data.length fc) := fun n => by rw [hW2, World.drewN_drewN]; exact cf0 _
  have H2 : Kp No w W2 := by rw [hW2]; exact H1.drewN nq
  rw [HNN.out] at g4
  rw [← hW2]
  have F4 := Lib.hid f4
  clear hW2 f2 f3 f4 f6 f7 f9 cf0
  have hdec : decide (c.data.length < k) = false := by simpa using hk
  refine wp_region_ord [0,1,0,0,0,1,0,0,0,1,1,0,0,0] [0,1,2,3,4,6,7,8,5,9,10,11,12,13] (by kernel_rfl) (by kernel_rfl) ?_
  repeat (first
    | (apply wpOrd_skip rfl (by decide) rfl; (focus (go_simp; rfl)))
    | (apply wpOrd_pure rfl rfl rfl; (focus (intro _ _; go_simp; (try go_ints); rfl)); (focus (go_simp; rfl)))
    | (apply wpOrd_read rfl rfl rfl; (focus (intro _; go_simp; (try go_ints); rfl)); (focus (go_simp; rfl))))
  refine wpOrd_nil (fun nq => ?_)
  go_wp2_with fail
  obtain ⟨W3, hW3⟩ : ∃ W, W = W2.drewN nq := ⟨_, rfl⟩
  have H3 : Kp No w W3 := by rw [hW3]; exact H2.drewN nq
  have K3 : ∀ n, Kp No W1 (W3.drewN n) := fun n => by rw [hW3]; exact (K2 nq).drewN n
  have e4 : ∀ n, (W3.drewN n).cell? ⟨w.heap.size, 1, none⟩ = some (.int .i64 (k : Int)) := fun n => by rw [← HNN.out]; exact F4.out _ (K3 n)
  have hf3 := HF.out.keep H3 (fun x => x) (fun _ _ x => x)
  have e0 : ∀ n, (W3.drewN n).cell? ⟨c.blk, 0, none⟩ = some (.slice fa c.data.length fc) := fun n => by rw [cell_at (w := W3.drewN n) hf3.1, HV.out]; rfl
  have s0 : ∀ n, (W3.drewN n).frozen? ⟨c.blk, 0, none⟩ = false := fun n => free_at (w := W3.drewN n) hf3.1 0
  rw [← hW3]
  have HF3 := Lib.hid hf3
  clear hW3 g4 g0 hdec hf3
  have hkf : k ≤ fc := by omega
  have hd1 : decide (fc < k) = false := by simpa using hkf
  refine wp_region_ord [0,0,0,0,1,0,1,0,1,0,0,0,2] [0,1,2,3,5,7,4,6,8,9,10,11,12] (by kernel_rfl) (by kernel_rfl) ?_
  repeat (first
    | (apply wpOrd_skip rfl (by decide) rfl; (focus (go_simp; rfl)))
    | (apply wpOrd_pure rfl rfl rfl; (focus (intro _ _; go_simp; (try go_ints); rfl)); (focus (go_simp; rfl)))
    | (apply wpOrd_read rfl rfl rfl; (focus (intro _; go_simp; (try go_ints); rfl)); (focus (go_simp; rfl))))
  refine wpOrd_eff rfl rfl (fun ns => ?_)
  go_wp2_with fail
  refine wpOrd_nil (fun nq => ?_)
  go_wp2_with fail
  have hc3 := set_at (w := W3.drewN ns) HF3.out.1 0 (.slice fa k k)
  obtain ⟨W4, hW4⟩ : ∃ W, W = ((W3.drewN ns).setCell ⟨c.blk, 0, none⟩ (.slice fa k k)).drewN nq := ⟨_, rfl⟩
  have K4 : Kp (One c.blk) W3 W4 := by rw [hW4]; exact (((Kp.refl (One c.blk) W3).drewN ns).setCell (p := ⟨c.blk, 0, none⟩) (.inl rfl) _).drewN nq
  have hc4 : W4.heap[c.blk]? = some (.cells #[.slice fa k k, .int .i64 (c.lasts : Int)] 67 (0, 0)) := by rw [hW4]; exact hc3
  have hbs : w.heap.size < W3.heap.size := World.block_lt_of_cell? (W3.drewN 0) _ (e4 0)
  have hbl : c.blk < w.heap.size := get_lt HF.out.1
  have q4 : ∀ n, (W4.drewN n).cell? ⟨w.heap.size, 1, none⟩ = some (.int .i64 (k : Int)) := fun n => ((K4.drewN n).cell (p := ⟨w.heap.size, 1, none⟩) hbs (fun h => by have h' : w.heap.size = c.blk := h; omega)).trans (e4 0)
  have q1 : ∀ n, (W4.drewN n).cell? ⟨c.blk, 1, none⟩ = some (.int .i64 (c.lasts : Int)) := fun n => by rw [cell_at (w := W4.drewN n) hc4]; rfl
  have s1 : ∀ n, (W4.drewN n).frozen? ⟨c.blk, 1, none⟩ = false := fun n => free_at (w := W4.drewN n) hc4 1
  rw [← hW4]
  have HC4 := Lib.hid hc4
  clear hW4 hc3 hc4 e0 e4 s0
  obtain ⟨lm, hlm⟩ : ∃ x, x = min c.lasts k := ⟨_, rfl⟩
  have hm1 : (if k < c.lasts then (k : Int) else (c.lasts : Int)) = (lm : Int) := by split <;> omega
  have hm2 : (if c.lasts < k then (c.lasts : Int) else (k : Int)) = (lm : Int) := by split <;> omega
  have hm3 : (if (k : Int) < (c.lasts : Int) then (k : Int) else (c.lasts : Int)) = (lm : Int) := by split <;> omega
  have HLM := Lib.hid hlm
  clear hlm
  refine wp_region_ord [0,0,0,0,1,0,1,1,0,0,2] [0,1,2,3,5,4,6,7,8,9,10] (by kernel_rfl) (by kernel_rfl) ?_
  repeat (first
    | (apply wpOrd_skip rfl (by decide) rfl; (focus (go_simp; rfl)))
    | (apply wpOrd_pure rfl rfl rfl; (focus (intro _ _; go_simp; (try go_ints); rfl)); (focus (go_simp; rfl)))
    | (apply wpOrd_read rfl rfl rfl; (focus (intro _; go_simp; (try go_ints); rfl)); (focus (go_simp; rfl))))
  refine wpOrd_eff rfl rfl (fun nt => ?_)
  go_wp2_with fail
  refine wpOrd_nil (fun nq => ?_)
  go_wp2_with fail
  go_ret
  have kE : Kp (One c.blk) W3 (((W4.drewN nt).setCell ⟨c.blk, 1, none⟩ (.int .i64 (lm : Int))).drewN nq) := ((K4.drewN nt).setCell (p := ⟨c.blk, 1, none⟩) (.inl rfl) _).drewN nq
  have hcE : (((W4.drewN nt).setCell ⟨c.blk, 1, none⟩ (.int .i64 (lm : Int))).drewN nq).heap[c.blk]? = some (.cells #[.slice fa k k, .int .i64 (lm : Int)] 67 (0, 0)) := set_at (w := W4.drewN nt) HC4.out 1 _
  have h1 := HF3.out.2.1
  rw [HV.out] at h1
  have h2 := own_cut h1 k hk
  rw [u8s_take] at h2
  have hl : (c.data.take k).length = k := by rw [List.length_take]; omega
  have hown : Own (((W4.drewN nt).setCell ⟨c.blk, 1, none⟩ (.int .i64 (lm : Int))).drewN nq) 5 1 (.slice fa k k) (c.data.take k).length (u8s (c.data.take k)) := by
    rw [hl]
    refine h2.keep kE fun g hg e => ?_
    obtain ⟨cur, hcur⟩ := h2.type g hg
    exact ne_of_type hcur HF3.out.1 (by decide) e
  have hrow : (Value.slice fa k k).ownBlock = c.v.ownBlock := by rw [HV.out]; cases fa <;> rfl
  have hlmk : lm ≤ k := by rw [HLM.out]; exact Nat.min_le_right _ _
  have htot := totF_gset (l := absL L) (k := name) (x := c.abs) (y := ⟨c.data.take k, lm⟩) (by rw [keys_absL]; exact HD.out.keys) (by rw [gget_abs, HC.out]; rfl)
  have hfits := HD.out.fits
  obtain ⟨r1, r2, r3⟩ := (HD.out.keep_no H3).setFile (c' := ⟨c.blk, .slice fa k k, c.data.take k, lm⟩) HC.out rfl (kE.mono fun i _ hi => .inl hi) ⟨hcE, hown, by show lm ≤ _; rw [hl]; exact hlmk⟩ (.inl hrow) (by
    rw [gset_abs]
    simp only [FileR.abs] at htot ⊢
    rw [hl] at htot
    omega)
  have hlm := HLM.out
  subst hlm
  exact ⟨rfl, _, r1, fun i hi => (r2 i hi).imp id fun h => Nat.le_trans H3.size h, (Kp.of_no H3).trans_same r3⟩

def cuCode (s : DSt) (name : ByteArray) (n : Int) : Int :=
  match gget s.files name with
  | none => 7
  | some x => if n < 0 ∨ (x.data.length : Int) < n then 1 else 0
def cuFiles (l : Files) (name : ByteArray) (n : Int) : Files :=
  match gget l name with
  | some x => gset l name ⟨x.data.take n.toNat, min x.lasts n.toNat⟩
  | none => l
def cuS (s : DSt) (name : ByteArray) (n : Int) : Int × DSt := five s [name] (cuCode s name n) (cuFiles s.files name n)
set_option maxHeartbeats 400000 in
theorem Cut_any (w : World) (d : Nat) (s : DSt) (F : Nat → Prop) (hD : DiskAt w d s F) (name : ByteArray) (n : Int) :
    Calls Try.prog 28 #[.pointer (some ⟨d, 0, none⟩), .string name, .int .i64 n] w (Said5 w d F (cuS s name n)) := by
  obtain ⟨m, fused, left, L, hC, hf, hs, hF, hFs⟩ := hD
  have h1 : Kp No w (w.alloc (.cells #[.string name] 9)) := (Kp.refl _ _).alloc _
  have hcf : ∀ args w, (callFunc 50 args).run Try.prog w = .ok (.enter 50 args) w := fun args w => by simp [go_sem]
  have hg := gate_five (w.alloc (.cells #[.string name] 9)) d m fused left L s F (hC.keep_no h1) hf hs hF (fun k hk => h1.lt (hFs k hk)) 50 hcf (some ⟨w.heap.size, 0, none⟩) 1 [name] n (.slice none 0 0)
    (name_rd w name) (by simp) (cuCode s name n) (cuFiles s.files name n) (by
      intro _ w1 hw1
      have hC1 := (hC.keep_no h1).keep_no hw1
      have hn1 := ((name_rd w name).keep hw1 fun _ _ x => x).mono hw1.size (Nat.le_refl _)
      cases hc : gget L name with
      | none =>
        have hga : gget s.files name = none := by rw [hs, gget_abs, hc]; rfl
        refine (cut_none w1 d m s.room fused left L hC1 name hc (some ⟨w.heap.size, 0, none⟩) 1 hn1 n (.slice none 0 0)).mono fun e w2 ⟨he, hw⟩ => ?_
        have e7 : cuCode s name n = 7 := by unfold cuCode; rw [hga]
        rw [e7]
        exact ⟨he, L, hC1.keep_no hw, rfl, Foot.refl _ _, Kp.of_no hw⟩
      | some c =>
        have hga : gget s.files name = some c.abs := by rw [hs, gget_abs, hc]; rfl
        by_cases hbad : n < 0 ∨ (c.data.length : Int) < n
        · refine (cut_bad w1 d m s.room fused left L hC1 name c hc (some ⟨w.heap.size, 0, none⟩) 1 hn1 n (.slice none 0 0) hbad).mono fun e w2 ⟨he, hw⟩ => ?_
          have e1 : cuCode s name n = 1 := by unfold cuCode; rw [hga]; exact if_pos hbad
          rw [e1]
          exact ⟨he, L, hC1.keep_no hw, rfl, Foot.refl _ _, Kp.of_no hw⟩
        · refine (cut_some w1 d m s.room fused left L hC1 name c hc (some ⟨w.heap.size, 0, none⟩) 1 hn1 n (.slice none 0 0) n.toNat (by omega) (by omega)).mono fun e w2 ⟨he, v, h2, h3, h4⟩ => ?_
          have e0 : cuCode s name n = 0 := by unfold cuCode; rw [hga]; exact if_neg hbad
          have ef : cuFiles s.files name n = gset (absL L) name ⟨c.data.take n.toNat, min c.lasts n.toNat⟩ := by unfold cuFiles; rw [hga, hs]; rfl
          rw [e0, ef]
          exact ⟨he, _, h2, by rw [gset_abs]; rfl, h3, h4⟩)
  have HG := Lib.hid hg
  clear hg hC hF hFs hf hs
  go_enter Try.func28, Try.ntmps28
  go_wp2_with fail
  refine (HG.out).mono ?_
  rintro e w' ⟨rfl, F', h2, h3, h4⟩
  have H2 := Lib.hid h2
  have H3 := Lib.hid h3
  have H4 := Lib.hid h4
  clear h2 h3 h4
  go_wp2_with fail
  go_ret
  exact ⟨rfl, F', H2.out, fun k hk => (H3.out k hk).imp id fun h => Nat.le_trans h1.size h, (Kp.of_no h1).trans_same H4.out⟩
end Go.Proofs.Ytenidddbjobblaa
