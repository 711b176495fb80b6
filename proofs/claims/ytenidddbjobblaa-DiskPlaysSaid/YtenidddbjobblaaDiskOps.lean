/-
  disk: what is done behind the gate.
-/
import Derived.Test.YtenidddbjobblaaDiskUsed
namespace Go.Proofs.Ytenidddbjobblaa
open Go.RowKit Go.Mer

/-- The thing that is handed to what is done: one name, a number, bytes. -/
def what1 (na : Option Addr) (nc : Nat) (N : Int) (pv : Value) : Array Value := #[.slice na 1 nc, .int .i64 N, pv]

/-- What holds in every world from W1 on, as long as nothing turns. -/
structure Facts (W1 : World) (d m b g off : Nat) (na : Option Addr) (nc : Nat) (N : Int) (pv : Value) (room : Nat) (L : FilesR) (name : ByteArray) : Prop where
  d0 : ∀ W, Kp No W1 W → W.cell? ⟨d, 0, none⟩ = some (.int .i64 (room : Int))
  d1 : ∀ W, Kp No W1 W → W.cell? ⟨d, 1, none⟩ = some (.map (some m))
  b0 : ∀ W, Kp No W1 W → W.cell? ⟨b, 0, none⟩ = some (.slice na 1 nc)
  b1 : ∀ W, Kp No W1 W → W.cell? ⟨b, 1, none⟩ = some (.int .i64 N)
  b2 : ∀ W, Kp No W1 W → W.cell? ⟨b, 2, none⟩ = some pv
  nm : ∀ W, Kp No W1 W → W.cell? ⟨g, off, none⟩ = some (.string name)
  look : ∀ W, Kp No W1 W → (Instr.lookup 58 (.map (some m)) (.string name) false).run Try.prog W = .ok (((gget L name).map FileR.ptr).getD (.pointer none)) W
  many : ∀ W, Kp No W1 W → (Builtin.len_ #[58] 3 #[.map (some m)]).run Try.prog W = .ok (.int .i64 (L.length : Int)) W
  dr : ∀ n, Kp No W1 (W1.drewN n)
theorem facts {w : World} {d m room : Nat} {fused : Bool} {left : Int} {L : FilesR} (hD : DiskC w d m room fused left L) {name : ByteArray} {g off nc : Nat} {N : Int} {pv : Value}
    (hg : w.cell? ⟨g, off, none⟩ = some (.string name)) :
    Facts (w.alloc (.cells #[.slice (some ⟨g, off, none⟩) 1 nc, .int .i64 N, pv] 64)) d m w.heap.size g off (some ⟨g, off, none⟩) nc N pv room L name := by
  have h1 : Kp No w (w.alloc (.cells #[.slice (some ⟨g, off, none⟩) 1 nc, .int .i64 N, pv] 64)) := (Kp.refl _ _).alloc _
  have hd : ∀ W, Kp No (w.alloc (.cells #[.slice (some ⟨g, off, none⟩) 1 nc, .int .i64 N, pv] 64)) W → DiskC W d m room fused left L := fun W hW => hD.keep_no (h1.trans_same hW)
  have hb : ∀ W, Kp No (w.alloc (.cells #[.slice (some ⟨g, off, none⟩) 1 nc, .int .i64 N, pv] 64)) W → W.heap[w.heap.size]? = some (.cells #[.slice (some ⟨g, off, none⟩) 1 nc, .int .i64 N, pv] 64 (0, 0)) :=
    fun W hW => hW.get (heap_alloc_new w _) fun x => x
  have hgl := World.block_lt_of_cell? w _ hg
  refine ⟨fun W hW => ?_, fun W hW => ?_, fun W hW => ?_, fun W hW => ?_, fun W hW => ?_, fun W hW => ?_, fun W hW => ?_, fun W hW => ?_, fun n => (Kp.refl _ _).drewN n⟩
  · rw [cell_at (hd W hW).cell]; rfl
  · rw [cell_at (hd W hW).cell]; rfl
  · rw [cell_at (hb W hW)]; rfl
  · rw [cell_at (hb W hW)]; rfl
  · rw [cell_at (hb W hW)]; rfl
  · exact ((h1.trans_same hW).cell hgl fun x => x).trans hg
  · have := look_file (hd W hW).map name
    rw [show ptrL L = L.map fun p => (p.1, p.2.ptr) from rfl, gget_mapv] at this
    exact this
  · have := run_len_g (P := Try.prog) (ty := 3) Try.underlying58 (hd W hW).map
    rw [show (ptrL L).length = L.length from by simp [ptrL]] at this
    exact this


set_option maxHeartbeats 400000 in
/-- sync, of a file that is there. -/
theorem sync_some (w : World) (d m room : Nat) (fused : Bool) (left : Int) (L : FilesR) (hD : DiskC w d m room fused left L) (name : ByteArray) (c : FileR) (hc : gget L name = some c)
    (na : Option Addr) (nc : Nat) (hns : Rd w w.heap.size na [Value.string name]) (N : Int) (pv : Value) :
    Calls Try.prog 31 #[.pointer (some ⟨d, 0, none⟩), .agg #[.slice na 1 nc, .int .i64 N, pv]] w fun e w' =>
      e = .returned (.int .i64 0) ∧ DiskC w' d m room fused left (gset L name { c with lasts := c.data.length }) ∧ Foot (FP d m L) (FP d m (gset L name { c with lasts := c.data.length })) w ∧ Kp (FP d m L) w w' := by
  obtain ⟨g, off, rfl, hg, _, hcn⟩ := hns.at_ (i := 0) rfl
  simp only [Nat.add_zero] at hcn
  have FA := facts hD (nc := nc) (N := N) (pv := pv) hcn
  have f1 := FA.d0
  have f2 := FA.d1
  have f3 := FA.b0
  have f4 := FA.b1
  have f5 := FA.b2
  have f6 := FA.nm
  have f7 := FA.look
  have f8 := FA.many
  have f9 := FA.dr
  have hdl := get_lt hD.cell
  have H1 : Kp No w (w.alloc (.cells #[.slice (some ⟨g, off, none⟩) 1 nc, .int .i64 N, pv] 64)) := (Kp.refl _ _).alloc _
  have HD := Lib.hid hD
  clear FA hns hcn
  have hf := hD.files _ (gget_mem hc)
  have hfl := get_lt hf.1
  obtain ⟨fa, fc, hv, _⟩ := hf.2.1.rd
  have cf0 : ∀ n, ((w.alloc (.cells #[.slice (some ⟨g, off, none⟩) 1 nc, .int .i64 N, pv] 64)).drewN n).cell? ⟨c.blk, 0, none⟩ = some (.slice fa c.data.length fc) := fun n => by
    rw [cell_at ((H1.drewN n).get hf.1 fun x => x), hv]; rfl
  have cf1 : ∀ n, ((w.alloc (.cells #[.slice (some ⟨g, off, none⟩) 1 nc, .int .i64 N, pv] 64)).drewN n).cell? ⟨c.blk, 1, none⟩ = some (.int .i64 (c.lasts : Int)) := fun n => by
    rw [cell_at ((H1.drewN n).get hf.1 fun x => x)]; rfl
  have ff1 : ∀ n, ((w.alloc (.cells #[.slice (some ⟨g, off, none⟩) 1 nc, .int .i64 N, pv] 64)).drewN n).frozen? ⟨c.blk, 1, none⟩ = false := fun n => free_at ((H1.drewN n).get hf.1 fun x => x) 1
  rw [hc] at f7
  simp only [Option.map_some, Option.getD_some, FileR.ptr] at f7
  have HF := Lib.hid hf
  have HC := Lib.hid hc
  clear hf hv hc f8 f1 f4 f5 hD
  obtain ⟨W1, hW1⟩ : ∃ W, W = w.alloc (.cells #[.slice (some ⟨g, off, none⟩) 1 nc, .int .i64 N, pv] 64) := ⟨_, rfl⟩
  go_enter Try.func31, Try.ntmps31
  go_wp2_with fail
  rw [← hW1] at f2 f3 f6 f7 f9 cf0 cf1 ff1 H1 ⊢
  clear hW1
  refine wp_region_ord [0,0,0,1,0,1,0,1,1,0] [0,1,2,4,3,5,6,7,8,9] (by kernel_rfl) (by kernel_rfl) ?_
  repeat (first
    | (apply wpOrd_skip rfl (by decide) rfl; (focus (go_simp; rfl)))
    | (apply wpOrd_pure rfl rfl rfl; (focus (intro _ _; go_simp; (try go_ints); rfl)); (focus (go_simp; rfl)))
    | (apply wpOrd_read rfl rfl rfl; (focus (intro _; go_simp; (try go_ints); rfl)); (focus (go_simp; rfl))))
  refine wpOrd_nil (fun nq => ?_)
  go_wp2_with fail
  go_ret
  have hD2 := HD.out.keep_no (H1.drewN nq)
  have hf2 := HF.out.keep (H1.drewN nq) (fun x => x) (fun _ _ x => x)
  have hs : Kp (One c.blk) (W1.drewN nq) ((W1.drewN nq).setCell ⟨c.blk, 1, none⟩ (.int .i64 (c.data.length : Int))) := (Kp.refl (One c.blk) _).setCell (p := ⟨c.blk, 1, none⟩) (.inl rfl) _
  have hne : ∀ k, c.v.ownBlock = some k → k ≠ c.blk := fun k hk e => by
    obtain ⟨cur, hcur⟩ := hf2.2.1.type k hk
    exact ne_of_type hcur hf2.1 (by decide) e
  obtain ⟨h1, h2, h3⟩ := hD2.setFile (c' := { c with lasts := c.data.length }) HC.out rfl (hs.mono fun k _ hk => .inl hk)
    ⟨by have := set_at hf2.1 1 (.int .i64 (c.data.length : Int)); simpa using this, hf2.2.1.keep hs (fun k hk => hne k hk), Nat.le_refl _⟩ (.inl rfl) (by
      rw [gset_abs]
      have := totF_gset (l := absL L) (k := name) (x := c.abs) (y := FileR.abs { c with lasts := c.data.length }) (by rw [keys_absL]; exact HD.out.keys) (by rw [gget_abs, HC.out]; rfl)
      have := HD.out.fits
      simp only [FileR.abs] at *
      omega)
  exact ⟨rfl, h1, fun k hk => (h2 k hk).imp id fun h => Nat.le_trans (H1.drewN nq).size h, (Kp.of_no (H1.drewN nq)).trans_same h3⟩

set_option maxHeartbeats 400000 in
/-- sync, of no file. -/
theorem sync_none (w : World) (d m room : Nat) (fused : Bool) (left : Int) (L : FilesR) (hD : DiskC w d m room fused left L) (name : ByteArray) (hc : gget L name = none)
    (na : Option Addr) (nc : Nat) (hns : Rd w w.heap.size na [Value.string name]) (N : Int) (pv : Value) :
    Calls Try.prog 31 #[.pointer (some ⟨d, 0, none⟩), .agg #[.slice na 1 nc, .int .i64 N, pv]] w fun e w' =>
      e = .returned (.int .i64 7) ∧ Kp No w w' := by
  obtain ⟨g, off, rfl, hg, _, hcn⟩ := hns.at_ (i := 0) rfl
  simp only [Nat.add_zero] at hcn
  have FA := facts hD (nc := nc) (N := N) (pv := pv) hcn
  have f1 := FA.d0
  have f2 := FA.d1
  have f3 := FA.b0
  have f4 := FA.b1
  have f5 := FA.b2
  have f6 := FA.nm
  have f7 := FA.look
  have f8 := FA.many
  have f9 := FA.dr
  have hdl := get_lt hD.cell
  have H1 : Kp No w (w.alloc (.cells #[.slice (some ⟨g, off, none⟩) 1 nc, .int .i64 N, pv] 64)) := (Kp.refl _ _).alloc _
  have HD := Lib.hid hD
  clear FA hns hcn
  rw [hc] at f7
  simp only [Option.map_none, Option.getD_none] at f7
  clear hc f8 f1 f4 f5 hD
  obtain ⟨W1, hW1⟩ : ∃ W, W = w.alloc (.cells #[.slice (some ⟨g, off, none⟩) 1 nc, .int .i64 N, pv] 64) := ⟨_, rfl⟩
  go_enter Try.func31, Try.ntmps31
  go_wp2_with fail
  rw [← hW1] at f2 f3 f6 f7 f9 H1 ⊢
  clear hW1
  refine wp_region_ord [0,0,0,1,0,1,0,1,1,0] [0,1,2,4,3,5,6,7,8,9] (by kernel_rfl) (by kernel_rfl) ?_
  repeat (first
    | (apply wpOrd_skip rfl (by decide) rfl; (focus (go_simp; rfl)))
    | (apply wpOrd_pure rfl rfl rfl; (focus (intro _ _; go_simp; (try go_ints); rfl)); (focus (go_simp; rfl)))
    | (apply wpOrd_read rfl rfl rfl; (focus (intro _; go_simp; (try go_ints); rfl)); (focus (go_simp; rfl))))
  refine wpOrd_nil (fun nq => ?_)
  go_wp2_with fail
  go_ret
  exact ⟨rfl, H1.drewN _⟩


end Go.Proofs.Ytenidddbjobblaa
