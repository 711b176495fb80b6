/-
  disk: Remove and Rename, as the document says them.
-/
import Derived.Test.YtenidddbjobblaaDiskSame
namespace Go.Proofs.Ytenidddbjobblaa
open Go.RowKit Go.Mer

/-! ### Files under other names -/
theorem nodup_gset {α : Type} {f : FileR → Option α} {M : FilesR} {b : ByteArray} {c : FileR} (hk : (M.map (·.1)).Nodup) (h : (M.filterMap fun p => f p.2).Nodup) (hc : ∀ x, f c = some x → ∀ p ∈ M, f p.2 ≠ some x) :
    ((gset M b c).filterMap fun p => f p.2).Nodup := by
  cases hg : gget M b with
  | none =>
    rw [gset_new (gget_none_iff.1 hg), List.filterMap_append, List.nodup_append]
    refine ⟨h, ?_, fun x hx y hy e => ?_⟩
    · cases hv : f c <;> simp [hv]
    · obtain ⟨p, hp, hpx⟩ := List.mem_filterMap.1 hx
      obtain ⟨q, hq, hqy⟩ := List.mem_filterMap.1 hy
      simp only [List.mem_singleton] at hq
      subst hq
      exact hc y hqy p hp (e ▸ hpx)
  | some c2 =>
    obtain ⟨l1, l2, rfl, _⟩ := gget_split hg
    rw [gset_split hk]
    rw [List.filterMap_append, List.filterMap_cons] at h ⊢
    rw [List.nodup_append] at h ⊢
    have h2 : (l2.filterMap fun p => f p.2).Nodup := by
      cases hv : f c2 with
      | none => have := h.2.1; rw [hv] at this; exact this
      | some x => have := h.2.1; rw [hv] at this; exact (List.nodup_cons.1 this).2
    have h3 : ∀ x ∈ l1.filterMap fun p => f p.2, ∀ y ∈ l2.filterMap fun p => f p.2, x ≠ y := fun x hx y hy => by
      refine h.2.2 x hx y ?_
      cases hv : f c2 with
      | none => exact hy
      | some z => exact List.mem_cons_of_mem _ hy
    cases hv : f c with
    | none => exact ⟨h.1, by simpa only [hv] using h2, by simpa only [hv] using h3⟩
    | some z =>
      refine ⟨h.1, List.nodup_cons.2 ⟨fun hz => ?_, h2⟩, fun x hx y hy e => ?_⟩
      · obtain ⟨p, hp, hpz⟩ := List.mem_filterMap.1 hz
        exact hc z hv p (by simp [hp]) hpz
      · rcases List.mem_cons.1 hy with rfl | hy
        · obtain ⟨p, hp, hpz⟩ := List.mem_filterMap.1 hx
          exact hc y hv p (by simp [hp]) (e ▸ hpz)
        · exact h3 x hx y hy e
theorem nodup_gdel {α : Type} {f : FileR → Option α} {L : FilesR} {a : ByteArray} (h : (L.filterMap fun p => f p.2).Nodup) : ((gdel L a).filterMap fun p => f p.2).Nodup :=
  List.Nodup.sublist (List.Sublist.filterMap _ List.filter_sublist) h
theorem gdel_apart {α : Type} {f : FileR → Option α} {L : FilesR} {a : ByteArray} {c : FileR} (hk : (L.map (·.1)).Nodup) (hc : gget L a = some c) (h : (L.filterMap fun p => f p.2).Nodup) : ∀ x, f c = some x → ∀ p ∈ gdel L a, f p.2 ≠ some x := by
  obtain ⟨l1, l2, rfl, _⟩ := gget_split hc
  rw [gdel_split hk]
  intro x hx p hp he
  rw [List.filterMap_append, List.filterMap_cons, List.nodup_append] at h
  simp only [hx] at h
  rcases List.mem_append.1 hp with hp | hp
  · exact h.2.2 x (List.mem_filterMap.2 ⟨p, hp, he⟩) x (List.mem_cons_self ..) rfl
  · exact (List.nodup_cons.1 h.2.1).1 (List.mem_filterMap.2 ⟨p, hp, he⟩)
theorem totF_gdel (l : Files) (a : ByteArray) : totF (gdel l a) ≤ totF l := totF_filter _ _
theorem gdel_keys {β : Type} {l : List (ByteArray × β)} (a : ByteArray) (h : (l.map (·.1)).Nodup) : ((gdel l a).map (·.1)).Nodup := List.Nodup.sublist (List.Sublist.map _ List.filter_sublist) h
theorem gdel_no {β : Type} (l : List (ByteArray × β)) (a : ByteArray) : gget (gdel l a) a = none := gget_none (by
  intro h
  obtain ⟨p, hp, he⟩ := List.mem_map.1 h
  have := (List.mem_filter.1 hp).2
  simp at this
  exact this he)
theorem totF_move {l : Files} (hk : (l.map (·.1)).Nodup) {a b : ByteArray} {x : FileS} (h : gget l a = some x) : totF (gset (gdel l a) b x) ≤ totF l := by
  have h1 : totF (gdel l a) + x.data.length = totF l := by
    obtain ⟨l1, l2, rfl, _⟩ := gget_split h
    rw [gdel_split hk]
    simp only [totF_append, totF_cons]
    omega
  cases hg : gget (gdel l a) b with
  | none => rw [totF_gset_new hg]; omega
  | some y =>
    have := totF_gset (y := x) (gdel_keys a hk) hg
    omega
theorem gset_len_le {β : Type} (l : List (ByteArray × β)) (k : ByteArray) (v : β) : (gset l k v).length ≤ l.length + 1 := by
  unfold gset; split <;> simp
theorem gdel_len {β : Type} {l : List (ByteArray × β)} {a : ByteArray} {x : β} (hk : (l.map (·.1)).Nodup) (h : gget l a = some x) : (gdel l a).length + 1 = l.length := by
  obtain ⟨l1, l2, rfl, _⟩ := gget_split h
  rw [gdel_split hk]
  simp
  omega
theorem gset_mem {M : FilesR} {b : ByteArray} {c : FileR} {p : ByteArray × FileR} (h : p ∈ gset M b c) : p.2 = c ∨ p ∈ M := by
  unfold gset at h
  split at h
  · obtain ⟨q, hq, rfl⟩ := List.mem_map.1 h
    split
    · exact .inl rfl
    · exact .inr hq
  · rcases List.mem_append.1 h with h | h
    · exact .inr h
    · simp only [List.mem_singleton] at h
      exact .inl (by rw [h])
section
variable {w w' : World} {d m room : Nat} {fused : Bool} {left : Int} {L L' : FilesR}
/-- Other names for the same files, or fewer of them. -/
theorem DiskC.swap (h : DiskC w d m room fused left L) (hk : Kp (One m) w w') (hm' : GMap Value.string w' m (ptrL L')) (hsub : ∀ p ∈ L', ∃ q ∈ L, p.2 = q.2)
    (h1 : (L'.filterMap fun p => some p.2.blk).Nodup) (h2 : (L'.filterMap (·.2.v.ownBlock)).Nodup) (hfit : totF (absL L') ≤ room) (hfew : L'.length ≤ 4096) :
    DiskC w' d m room fused left L' ∧ Foot (FP d m L) (FP d m L') w ∧ Kp (FP d m L) w w' := by
  obtain ⟨es, ck, hm, _⟩ := h.map
  refine ⟨{ h with cell := ?_, map := hm', files := fun p hp => ?_, blks := (by simpa using h1), rows := h2, fits := hfit, few := hfew }, fun k hkk => ?_, hk.mono fun k _ hk => .inr (.inl hk)⟩
  · exact hk.get h.cell fun hS => by
      have hS : d = m := hS
      have hc := h.cell
      rw [hS, hm] at hc
      cases hc
  · obtain ⟨q, hq, e⟩ := hsub p hp
    rw [e]
    refine (h.files q hq).keep hk (fun hS => ?_) fun g hg hS => ?_
    · have hf := (h.files q hq).1
      rw [show q.2.blk = m from hS, hm] at hf
      cases hf
    · obtain ⟨cur, hcur⟩ := (h.files q hq).2.1.type g hg
      rw [show g = m from hS, hm] at hcur
      cases hcur
  · rcases hkk with rfl | rfl | ⟨p, hp, hpk⟩
    · exact .inl (.inl rfl)
    · exact .inl (.inr (.inl rfl))
    · obtain ⟨q, hq, e⟩ := hsub p hp
      exact .inl (.inr (.inr ⟨q, hq, e ▸ hpk⟩))
theorem DiskC.del (h : DiskC w d m room fused left L) (a : ByteArray) (hk : Kp (One m) w w') (hm' : GMap Value.string w' m (gdel (ptrL L) a)) :
    DiskC w' d m room fused left (gdel L a) ∧ Foot (FP d m L) (FP d m (gdel L a)) w ∧ Kp (FP d m L) w w' := by
  have e : ptrL (gdel L a) = gdel (ptrL L) a := gdel_mapv _ L a
  rw [← e] at hm'
  refine h.swap hk hm' (fun p hp => ⟨p, (List.mem_filter.1 hp).1, rfl⟩) (nodup_gdel (f := fun c => some c.blk) (by simpa using h.blks)) (nodup_gdel (f := fun c => c.v.ownBlock) h.rows) ?_ ?_
  · rw [gdel_abs]
    exact Nat.le_trans (totF_gdel _ _) h.fits
  · exact Nat.le_trans (List.length_filter_le _ _) h.few
theorem DiskC.move (h : DiskC w d m room fused left L) {a b : ByteArray} {c : FileR} (hc : gget L a = some c) (hk : Kp (One m) w w') (hm' : GMap Value.string w' m (gset (gdel (ptrL L) a) b c.ptr)) :
    DiskC w' d m room fused left (gset (gdel L a) b c) ∧ Foot (FP d m L) (FP d m (gset (gdel L a) b c)) w ∧ Kp (FP d m L) w w' := by
  have hb : (L.filterMap fun p => some p.2.blk).Nodup := by simpa using h.blks
  have e : ptrL (gset (gdel L a) b c) = gset (gdel (ptrL L) a) b c.ptr := by
    rw [show ptrL L = L.map fun p => (p.1, p.2.ptr) from rfl, ← gdel_mapv FileR.ptr, ← gset_mapv FileR.ptr]
    rfl
  rw [← e] at hm'
  refine h.swap hk hm' (fun p hp => ?_) (nodup_gset (f := fun c => some c.blk) (gdel_keys a h.keys) (nodup_gdel (f := fun c => some c.blk) hb) (gdel_apart (f := fun c => some c.blk) h.keys hc hb))
    (nodup_gset (f := fun c => c.v.ownBlock) (gdel_keys a h.keys) (nodup_gdel (f := fun c => c.v.ownBlock) h.rows) (gdel_apart (f := fun c => c.v.ownBlock) h.keys hc h.rows)) ?_ ?_
  · rcases gset_mem hp with hp | hp
    · exact ⟨_, gget_mem hc, hp⟩
    · exact ⟨p, (List.mem_filter.1 hp).1, rfl⟩
  · rw [gset_abs, gdel_abs]
    exact Nat.le_trans (totF_move (by rw [keys_absL]; exact h.keys) (by rw [gget_abs, hc]; rfl)) h.fits
  · have h1 := gset_len_le (gdel L a) b c
    have h2 := gdel_len h.keys hc
    have := h.few
    omega
end

/-- A cell stays where only a map has turned. -/
theorem cell_keep {W1 W : World} {m : Nat} {es : Array MapEntry} {c : Nat} (hm : W1.heap[m]? = some (.map es c)) (hk : Kp (One m) W1 W) {p : Addr} {v : Value} (h : W1.cell? p = some v) : W.cell? p = some v := by
  have hlt := World.block_lt_of_cell? W1 _ h
  refine (hk.cell hlt fun hS => ?_).trans h
  have hS : p.block = m := hS
  unfold World.cell? at h
  rw [hS, hm] at h
  cases h

set_option maxHeartbeats 400000 in
/-- remove, of a file that is there. -/
theorem remove_some (w : World) (d m room : Nat) (fused : Bool) (left : Int) (L : FilesR) (hD : DiskC w d m room fused left L) (name : ByteArray) (c : FileR) (hc : gget L name = some c)
    (na : Option Addr) (nc : Nat) (hns : Rd w w.heap.size na [Value.string name]) (N : Int) (pv : Value) :
    Calls Try.prog 33 #[.pointer (some ⟨d, 0, none⟩), .agg #[.slice na 1 nc, .int .i64 N, pv]] w fun e w' =>
      e = .returned (.int .i64 0) ∧ DiskC w' d m room fused left (gdel L name) ∧ Foot (FP d m L) (FP d m (gdel L name)) w ∧ Kp (FP d m L) w w' := by
  obtain ⟨g, off, rfl, hg, _, hcn⟩ := hns.at_ (i := 0) rfl
  simp only [Nat.add_zero] at hcn
  have FA := facts hD (nc := nc) (N := N) (pv := pv) hcn
  have f1 := FA.d0
  have f2 := FA.d1
  have f3 := FA.b0
  have f4 := FA.b1
  have f5 := FA.b2
  have f6 := FA.nm
  have f7 := FA.look
  have f8 := FA.many
  have f9 := FA.dr
  have hdl := get_lt hD.cell
  have H1 : Kp No w (w.alloc (.cells #[.slice (some ⟨g, off, none⟩) 1 nc, .int .i64 N, pv] 64)) := (Kp.refl _ _).alloc _
  have HD := Lib.hid hD
  clear FA hns hcn
  rw [hc] at f7
  simp only [Option.map_some, Option.getD_some, FileR.ptr] at f7
  clear hc f8 f1 f4 f5 hD
  obtain ⟨W1, hW1⟩ : ∃ W, W = w.alloc (.cells #[.slice (some ⟨g, off, none⟩) 1 nc, .int .i64 N, pv] 64) := ⟨_, rfl⟩
  go_enter Try.func33, Try.ntmps33
  go_wp2_with fail
  rw [← hW1] at f2 f3 f6 f7 f9 H1 ⊢
  clear hW1
  refine wp_region_ord [0,0,0,1,0,1,0,1,1,0] [0,1,2,4,3,5,6,7,8,9] (by kernel_rfl) (by kernel_rfl) ?_
  repeat (first
    | (apply wpOrd_skip rfl (by decide) rfl; (focus (go_simp; rfl)))
    | (apply wpOrd_pure rfl rfl rfl; (focus (intro _ _; go_simp; (try go_ints); rfl)); (focus (go_simp; rfl)))
    | (apply wpOrd_read rfl rfl rfl; (focus (intro _; go_simp; (try go_ints); rfl)); (focus (go_simp; rfl))))
  refine wpOrd_nil (fun nq => ?_)
  go_wp2_with fail
  obtain ⟨W2, hW2⟩ : ∃ W, W = W1.drewN nq := ⟨_, rfl⟩
  have K2 : ∀ n, Kp No W1 (W2.drewN n) := fun n => by rw [hW2]; exact (f9 nq).drewN n
  have g2 := fun n => f2 _ (K2 n)
  have g3 := fun n => f3 _ (K2 n)
  have g6 := fun n => f6 _ (K2 n)
  have H2 : Kp No w W2 := by rw [hW2]; exact H1.drewN nq
  rw [← hW2]
  clear hW2 f2 f3 f6 f7 f9
  refine wp_region_ord [0,0,0,1,0,1,0,1,2] [0,1,2,4,3,5,6,7,8] (by kernel_rfl) (by kernel_rfl) ?_
  repeat (first
    | (apply wpOrd_skip rfl (by decide) rfl; (focus (go_simp; rfl)))
    | (apply wpOrd_pure rfl rfl rfl; (focus (intro _ _; go_simp; (try go_ints); rfl)); (focus (go_simp; rfl)))
    | (apply wpOrd_read rfl rfl rfl; (focus (intro _; go_simp; (try go_ints); rfl)); (focus (go_simp; rfl))))
  refine wpOrd_eff rfl rfl (fun ng => ?_)
  have hDA := HD.out.keep_no (H2.drewN ng)
  obtain ⟨o, hdel, hG⟩ := run_delete_g (P := Try.prog) (ty := 0) (w := W2.drewN ng) Try.underlying58 kindStr strKey strInj hDA.map name
  have hml := hDA.map.lt
  have HG := Lib.hid hG
  clear hG hDA
  go_wp2_with fail
  refine wpOrd_nil (fun nq => ?_)
  go_wp2_with fail
  go_ret
  have hDA := HD.out.keep_no (H2.drewN ng)
  have kC : Kp (One m) (W2.drewN ng) ((ChangeMaps.setBlock (W2.drewN ng) m o).drewN nq) := ((Kp.refl (One m) _).setBlock (.inl rfl) o).drewN nq
  have hmC : ((ChangeMaps.setBlock (W2.drewN ng) m o).drewN nq).heap[m]? = some o := setBlock_at (w := W2.drewN ng) hml o
  obtain ⟨h1, h2, h3⟩ := hDA.del name kC (HG.out _ hmC)
  exact ⟨rfl, h1, fun k hk => (h2 k hk).imp id fun h => Nat.le_trans (H2.drewN ng).size h, (Kp.of_no (H2.drewN ng)).trans_same h3⟩

/-! ### rename: two names -/
set_option maxHeartbeats 400000 in
theorem rename_none (w : World) (d m room : Nat) (fused : Bool) (left : Int) (L : FilesR) (hD : DiskC w d m room fused left L) (a b : ByteArray) (hc : gget L a = none)
    (na : Option Addr) (nc : Nat) (hns : Rd w w.heap.size na [Value.string a, Value.string b]) (N : Int) (pv : Value) :
    Calls Try.prog 34 #[.pointer (some ⟨d, 0, none⟩), .agg #[.slice na 2 nc, .int .i64 N, pv]] w fun e w' =>
      e = .returned (.int .i64 7) ∧ Kp No w w' := by
  obtain ⟨g, off, rfl, hg, _, hcn0⟩ := hns.at_ (i := 0) (u := Value.string a) rfl
  obtain ⟨g', off', e', _, _, hcn1⟩ := hns.at_ (i := 1) (u := Value.string b) rfl
  injection e' with e'
  injection e' with e1 e2
  subst e1; subst e2
  simp only [Nat.add_zero] at hcn0
  have H1 : Kp No w (w.alloc (.cells #[.slice (some ⟨g, off, none⟩) 2 nc, .int .i64 N, pv] 64)) := (Kp.refl _ _).alloc _
  have hD1 := hD.keep_no H1
  obtain ⟨es, ck, hmm, _⟩ := hD1.map
  have hb0 := heap_alloc_new w (.cells #[.slice (some ⟨g, off, none⟩) 2 nc, .int .i64 N, pv] 64)
  have f2 : ∀ W, Kp (One m) (w.alloc (.cells #[.slice (some ⟨g, off, none⟩) 2 nc, .int .i64 N, pv] 64)) W → W.cell? ⟨d, 1, none⟩ = some (.map (some m)) := fun W hW => cell_keep hmm hW (by rw [cell_at hD1.cell]; rfl)
  have f3 : ∀ W, Kp (One m) (w.alloc (.cells #[.slice (some ⟨g, off, none⟩) 2 nc, .int .i64 N, pv] 64)) W → W.cell? ⟨w.heap.size, 0, none⟩ = some (.slice (some ⟨g, off, none⟩) 2 nc) := fun W hW => cell_keep hmm hW (by rw [cell_at hb0]; rfl)
  have f6 : ∀ W, Kp (One m) (w.alloc (.cells #[.slice (some ⟨g, off, none⟩) 2 nc, .int .i64 N, pv] 64)) W → W.cell? ⟨g, off, none⟩ = some (.string a) := fun W hW => cell_keep hmm hW ((H1.cell (World.block_lt_of_cell? w _ hcn0) fun x => x).trans hcn0)
  have f7 : ∀ W, Kp (One m) (w.alloc (.cells #[.slice (some ⟨g, off, none⟩) 2 nc, .int .i64 N, pv] 64)) W → W.cell? ⟨g, off + 1, none⟩ = some (.string b) := fun W hW => cell_keep hmm hW ((H1.cell (World.block_lt_of_cell? w _ hcn1) fun x => x).trans hcn1)
  have f8 : ∀ W, Kp No (w.alloc (.cells #[.slice (some ⟨g, off, none⟩) 2 nc, .int .i64 N, pv] 64)) W → (Instr.lookup 58 (.map (some m)) (.string a) false).run Try.prog W = .ok (((gget L a).map FileR.ptr).getD (.pointer none)) W := fun W hW => by
    have := look_file (hD1.keep_no hW).map a
    rw [show ptrL L = L.map fun p => (p.1, p.2.ptr) from rfl, gget_mapv] at this
    exact this
  obtain ⟨W1, hW1⟩ : ∃ W, W = w.alloc (.cells #[.slice (some ⟨g, off, none⟩) 2 nc, .int .i64 N, pv] 64) := ⟨_, rfl⟩
  obtain ⟨B, hB⟩ : ∃ B, B = w.heap.size := ⟨_, rfl⟩
  have HD := Lib.hid hD
  have hdl := get_lt hD.cell
  clear hns hcn0 hcn1 hb0 hmm hD1 hD
  (rw [hc] at f8; simp only [Option.map_none, Option.getD_none] at f8; clear hc)
  go_enter Try.func34, Try.ntmps34
  go_wp2_with fail
  rw [← hW1] at f2 f3 f6 f7 f8 H1 ⊢
  rw [← hB] at f3 ⊢
  clear hW1 hB
  have g2 := fun n => f2 _ ((Kp.refl (One m) W1).drewN n)
  have g3 := fun n => f3 _ ((Kp.refl (One m) W1).drewN n)
  have g6 := fun n => f6 _ ((Kp.refl (One m) W1).drewN n)
  have g8 := fun n => f8 _ ((Kp.refl No W1).drewN n)
  have F2 := Lib.hid f2
  have F3 := Lib.hid f3
  have F6 := Lib.hid f6
  have F7 := Lib.hid f7
  clear f2 f3 f6 f7 f8
  refine wp_region_ord [0,0,0,1,0,1,0,1,1,0] [0,1,2,4,3,5,6,7,8,9] (by kernel_rfl) (by kernel_rfl) ?_
  repeat (first
    | (apply wpOrd_skip rfl (by decide) rfl; (focus (go_simp; rfl)))
    | (apply wpOrd_pure rfl rfl rfl; (focus (intro _ _; go_simp; (try go_ints); rfl)); (focus (go_simp; rfl)))
    | (apply wpOrd_read rfl rfl rfl; (focus (intro _; go_simp; (try go_ints); rfl)); (focus (go_simp; rfl))))
  refine wpOrd_nil (fun nq => ?_)
  go_wp2_with fail
  clear g2 g3 g6 g8
  clear F2 F3 F6 F7
  go_ret
  exact ⟨rfl, H1.drewN _⟩

set_option maxHeartbeats 400000 in
theorem rename_some (w : World) (d m room : Nat) (fused : Bool) (left : Int) (L : FilesR) (hD : DiskC w d m room fused left L) (a b : ByteArray) (c : FileR) (hc : gget L a = some c)
    (na : Option Addr) (nc : Nat) (hns : Rd w w.heap.size na [Value.string a, Value.string b]) (N : Int) (pv : Value) :
    Calls Try.prog 34 #[.pointer (some ⟨d, 0, none⟩), .agg #[.slice na 2 nc, .int .i64 N, pv]] w fun e w' =>
      e = .returned (.int .i64 0) ∧ DiskC w' d m room fused left (gset (gdel L a) b c) ∧ Foot (FP d m L) (FP d m (gset (gdel L a) b c)) w ∧ Kp (FP d m L) w w' := by
  have HC := Lib.hid hc
  obtain ⟨g, off, rfl, hg, _, hcn0⟩ := hns.at_ (i := 0) (u := Value.string a) rfl
  obtain ⟨g', off', e', _, _, hcn1⟩ := hns.at_ (i := 1) (u := Value.string b) rfl
  injection e' with e'
  injection e' with e1 e2
  subst e1; subst e2
  simp only [Nat.add_zero] at hcn0
  have H1 : Kp No w (w.alloc (.cells #[.slice (some ⟨g, off, none⟩) 2 nc, .int .i64 N, pv] 64)) := (Kp.refl _ _).alloc _
  have hD1 := hD.keep_no H1
  obtain ⟨es, ck, hmm, _⟩ := hD1.map
  have hb0 := heap_alloc_new w (.cells #[.slice (some ⟨g, off, none⟩) 2 nc, .int .i64 N, pv] 64)
  have f2 : ∀ W, Kp (One m) (w.alloc (.cells #[.slice (some ⟨g, off, none⟩) 2 nc, .int .i64 N, pv] 64)) W → W.cell? ⟨d, 1, none⟩ = some (.map (some m)) := fun W hW => cell_keep hmm hW (by rw [cell_at hD1.cell]; rfl)
  have f3 : ∀ W, Kp (One m) (w.alloc (.cells #[.slice (some ⟨g, off, none⟩) 2 nc, .int .i64 N, pv] 64)) W → W.cell? ⟨w.heap.size, 0, none⟩ = some (.slice (some ⟨g, off, none⟩) 2 nc) := fun W hW => cell_keep hmm hW (by rw [cell_at hb0]; rfl)
  have f6 : ∀ W, Kp (One m) (w.alloc (.cells #[.slice (some ⟨g, off, none⟩) 2 nc, .int .i64 N, pv] 64)) W → W.cell? ⟨g, off, none⟩ = some (.string a) := fun W hW => cell_keep hmm hW ((H1.cell (World.block_lt_of_cell? w _ hcn0) fun x => x).trans hcn0)
  have f7 : ∀ W, Kp (One m) (w.alloc (.cells #[.slice (some ⟨g, off, none⟩) 2 nc, .int .i64 N, pv] 64)) W → W.cell? ⟨g, off + 1, none⟩ = some (.string b) := fun W hW => cell_keep hmm hW ((H1.cell (World.block_lt_of_cell? w _ hcn1) fun x => x).trans hcn1)
  have f8 : ∀ W, Kp No (w.alloc (.cells #[.slice (some ⟨g, off, none⟩) 2 nc, .int .i64 N, pv] 64)) W → (Instr.lookup 58 (.map (some m)) (.string a) false).run Try.prog W = .ok (((gget L a).map FileR.ptr).getD (.pointer none)) W := fun W hW => by
    have := look_file (hD1.keep_no hW).map a
    rw [show ptrL L = L.map fun p => (p.1, p.2.ptr) from rfl, gget_mapv] at this
    exact this
  obtain ⟨W1, hW1⟩ : ∃ W, W = w.alloc (.cells #[.slice (some ⟨g, off, none⟩) 2 nc, .int .i64 N, pv] 64) := ⟨_, rfl⟩
  obtain ⟨B, hB⟩ : ∃ B, B = w.heap.size := ⟨_, rfl⟩
  have HD := Lib.hid hD
  have hdl := get_lt hD.cell
  clear hns hcn0 hcn1 hb0 hmm hD1 hD
  (rw [hc] at f8; simp only [Option.map_some, Option.getD_some, FileR.ptr] at f8; clear hc)
  go_enter Try.func34, Try.ntmps34
  go_wp2_with fail
  rw [← hW1] at f2 f3 f6 f7 f8 H1 ⊢
  rw [← hB] at f3 ⊢
  clear hW1 hB
  have g2 := fun n => f2 _ ((Kp.refl (One m) W1).drewN n)
  have g3 := fun n => f3 _ ((Kp.refl (One m) W1).drewN n)
  have g6 := fun n => f6 _ ((Kp.refl (One m) W1).drewN n)
  have g8 := fun n => f8 _ ((Kp.refl No W1).drewN n)
  have F2 := Lib.hid f2
  have F3 := Lib.hid f3
  have F6 := Lib.hid f6
  have F7 := Lib.hid f7
  clear f2 f3 f6 f7 f8
  refine wp_region_ord [0,0,0,1,0,1,0,1,1,0] [0,1,2,4,3,5,6,7,8,9] (by kernel_rfl) (by kernel_rfl) ?_
  repeat (first
    | (apply wpOrd_skip rfl (by decide) rfl; (focus (go_simp; rfl)))
    | (apply wpOrd_pure rfl rfl rfl; (focus (intro _ _; go_simp; (try go_ints); rfl)); (focus (go_simp; rfl)))
    | (apply wpOrd_read rfl rfl rfl; (focus (intro _; go_simp; (try go_ints); rfl)); (focus (go_simp; rfl))))
  refine wpOrd_nil (fun nq => ?_)
  go_wp2_with fail
  clear g2 g3 g6 g8
  obtain ⟨W2, hW2⟩ : ∃ W, W = W1.drewN nq := ⟨_, rfl⟩
  have K2 : ∀ n, Kp (One m) W1 (W2.drewN n) := fun n => by rw [hW2]; exact ((Kp.refl (One m) W1).drewN nq).drewN n
  have H2 : Kp No w W2 := by rw [hW2]; exact H1.drewN nq
  rw [← hW2]
  clear hW2
  have g2 := fun n => F2.out _ (K2 n)
  have g3 := fun n => F3.out _ (K2 n)
  have g6 := fun n => F6.out _ (K2 n)
  refine wp_region_ord [0,0,0,1,0,1,0,1,2] [0,1,2,4,3,5,6,7,8] (by kernel_rfl) (by kernel_rfl) ?_
  repeat (first
    | (apply wpOrd_skip rfl (by decide) rfl; (focus (go_simp; rfl)))
    | (apply wpOrd_pure rfl rfl rfl; (focus (intro _ _; go_simp; (try go_ints); rfl)); (focus (go_simp; rfl)))
    | (apply wpOrd_read rfl rfl rfl; (focus (intro _; go_simp; (try go_ints); rfl)); (focus (go_simp; rfl))))
  refine wpOrd_eff rfl rfl (fun ng => ?_)
  have hDA := HD.out.keep_no (H2.drewN ng)
  obtain ⟨o, hdel, hG⟩ := run_delete_g (P := Try.prog) (ty := 0) (w := W2.drewN ng) Try.underlying58 kindStr strKey strInj hDA.map a
  have hml := hDA.map.lt
  have HG := Lib.hid hG
  clear hG hDA g2 g3 g6
  go_wp2_with fail
  refine wpOrd_nil (fun nq => ?_)
  go_wp2_with fail
  have hmC : ((ChangeMaps.setBlock (W2.drewN ng) m o).drewN nq).heap[m]? = some o := setBlock_at (w := W2.drewN ng) hml o
  have hGD := HG.out _ hmC
  have kC : Kp (One m) W2 ((ChangeMaps.setBlock (W2.drewN ng) m o).drewN nq) := (((Kp.refl (One m) W2).drewN ng).setBlock (.inl rfl) o).drewN nq
  obtain ⟨W3, hW3⟩ : ∃ W, W = (ChangeMaps.setBlock (W2.drewN ng) m o).drewN nq := ⟨_, rfl⟩
  rw [← hW3] at hGD kC ⊢
  clear hW3 hmC HG hdel
  have K3 : ∀ n, Kp (One m) W1 (W3.drewN n) := fun n => ((K2 0).trans_same kC).drewN n
  have g2 := fun n => F2.out _ (K3 n)
  have g3 := fun n => F3.out _ (K3 n)
  have g7 := fun n => F7.out _ (K3 n)
  have HGD := Lib.hid hGD
  clear hGD F2 F3 F6 F7
  refine wp_region_ord [0,0,0,1,0,1,0,1,0,2] [0,1,2,4,8,3,5,6,7,9] (by kernel_rfl) (by kernel_rfl) ?_
  repeat (first
    | (apply wpOrd_skip rfl (by decide) rfl; (focus (go_simp; rfl)))
    | (apply wpOrd_pure rfl rfl rfl; (focus (intro _ _; go_simp; (try go_ints); rfl)); (focus (go_simp; rfl)))
    | (apply wpOrd_read rfl rfl rfl; (focus (intro _; go_simp; (try go_ints); rfl)); (focus (go_simp; rfl))))
  refine wpOrd_eff rfl rfl (fun nu => ?_)
  obtain ⟨o2, hupd, hG2⟩ := run_update_g (P := Try.prog) (w := W3.drewN nu) Try.underlying58 kindStr strKey strInj (HGD.out.drewN nu) b (.pointer (some ⟨c.blk, 0, none⟩))
  have HG2 := Lib.hid hG2
  clear hG2 g2 g3 g7
  go_wp2_with fail
  refine wpOrd_nil (fun nq => ?_)
  go_wp2_with fail
  go_ret
  have kE : Kp (One m) W2 ((ChangeMaps.setBlock (W3.drewN nu) m o2).drewN nq) := ((kC.drewN nu).setBlock (.inl rfl) o2).drewN nq
  have hmE : ((ChangeMaps.setBlock (W3.drewN nu) m o2).drewN nq).heap[m]? = some o2 := setBlock_at (w := W3.drewN nu) (kC.lt (by have := (HD.out.keep_no H2).map.lt; exact this)) o2
  obtain ⟨h1, h2, h3⟩ := (HD.out.keep_no H2).move HC.out kE (HG2.out _ hmE)
  exact ⟨rfl, h1, fun k hk => (h2 k hk).imp id fun h => Nat.le_trans H2.size h, (Kp.of_no H2).trans_same h3⟩

/-! ### As the document says them -/
def rmCode (s : DSt) (name : ByteArray) : Int := if gget s.files name = none then 7 else 0
def rmS (s : DSt) (name : ByteArray) : Int × DSt := five s [name] (rmCode s name) (gdel s.files name)
set_option maxHeartbeats 400000 in
theorem Remove_any (w : World) (d : Nat) (s : DSt) (F : Nat → Prop) (hD : DiskAt w d s F) (name : ByteArray) :
    Calls Try.prog 18 #[.pointer (some ⟨d, 0, none⟩), .string name] w (Said5 w d F (rmS s name)) := by
  obtain ⟨m, fused, left, L, hC, hf, hs, hF, hFs⟩ := hD
  have h1 : Kp No w (w.alloc (.cells #[.string name] 9)) := (Kp.refl _ _).alloc _
  have hcf : ∀ args w, (callFunc 33 args).run Try.prog w = .ok (.enter 33 args) w := fun args w => by simp [go_sem]
  have hg := gate_five (w.alloc (.cells #[.string name] 9)) d m fused left L s F (hC.keep_no h1) hf hs hF (fun k hk => h1.lt (hFs k hk)) 33 hcf (some ⟨w.heap.size, 0, none⟩) 1 [name] 0 (.slice none 0 0)
    (name_rd w name) (by simp) (rmCode s name) (gdel s.files name) (by
      intro _ w1 hw1
      have hC1 := (hC.keep_no h1).keep_no hw1
      have hn1 := ((name_rd w name).keep hw1 fun _ _ x => x).mono hw1.size (Nat.le_refl _)
      cases hc : gget L name with
      | none =>
        have hga : gget s.files name = none := by rw [hs, gget_abs, hc]; rfl
        refine (remove_none w1 d m s.room fused left L hC1 name hc (some ⟨w.heap.size, 0, none⟩) 1 hn1 0 (.slice none 0 0)).mono fun e w2 ⟨he, hw⟩ => ?_
        have e7 : rmCode s name = 7 := by unfold rmCode; rw [if_pos hga]
        rw [e7]
        exact ⟨he, L, hC1.keep_no hw, rfl, Foot.refl _ _, Kp.of_no hw⟩
      | some c =>
        have hga : gget s.files name = some c.abs := by rw [hs, gget_abs, hc]; rfl
        refine (remove_some w1 d m s.room fused left L hC1 name c hc (some ⟨w.heap.size, 0, none⟩) 1 hn1 0 (.slice none 0 0)).mono fun e w2 ⟨he, h2, h3, h4⟩ => ?_
        have e0 : rmCode s name = 0 := by unfold rmCode; rw [if_neg (by rw [hga]; simp)]
        rw [e0, hs]
        exact ⟨he, _, h2, gdel_abs L name, h3, h4⟩)
  have HG := Lib.hid hg
  clear hg hC hF hFs hf hs
  go_enter Try.func18, Try.ntmps18
  go_wp2_with fail
  refine (HG.out).mono ?_
  rintro e w' ⟨rfl, F', h2, h3, h4⟩
  have H2 := Lib.hid h2
  have H3 := Lib.hid h3
  have H4 := Lib.hid h4
  clear h2 h3 h4
  go_wp2_with fail
  go_ret
  exact ⟨rfl, F', H2.out, fun k hk => (H3.out k hk).imp id fun h => Nat.le_trans h1.size h, (Kp.of_no h1).trans_same H4.out⟩
def mvCode (s : DSt) (a : ByteArray) : Int := if gget s.files a = none then 7 else 0
def mvFiles (l : Files) (a b : ByteArray) : Files :=
  match gget l a with
  | some x => gset (gdel l a) b x
  | none => l
def mvS (s : DSt) (a b : ByteArray) : Int × DSt := five s [a, b] (mvCode s a) (mvFiles s.files a b)
theorem names_rd (w : World) (a b : ByteArray) : Rd (w.alloc (.cells #[.string a, .string b] 9)) (w.alloc (.cells #[.string a, .string b] 9)).heap.size (some ⟨w.heap.size, 0, none⟩) ([a, b].map Value.string) :=
  Rd.row (off := 0) (n := 2) (heap_alloc_new w _) (by simp) (by simp) (Nat.le_refl _)
set_option maxHeartbeats 400000 in
theorem Rename_any (w : World) (d : Nat) (s : DSt) (F : Nat → Prop) (hD : DiskAt w d s F) (a b : ByteArray) :
    Calls Try.prog 19 #[.pointer (some ⟨d, 0, none⟩), .string a, .string b] w (Said5 w d F (mvS s a b)) := by
  obtain ⟨m, fused, left, L, hC, hf, hs, hF, hFs⟩ := hD
  have h1 : Kp No w (w.alloc (.cells #[.string a, .string b] 9)) := (Kp.refl _ _).alloc _
  have hcf : ∀ args w, (callFunc 34 args).run Try.prog w = .ok (.enter 34 args) w := fun args w => by simp [go_sem]
  have hg := gate_five (w.alloc (.cells #[.string a, .string b] 9)) d m fused left L s F (hC.keep_no h1) hf hs hF (fun k hk => h1.lt (hFs k hk)) 34 hcf (some ⟨w.heap.size, 0, none⟩) 2 [a, b] 0 (.slice none 0 0)
    (names_rd w a b) (by simp) (mvCode s a) (mvFiles s.files a b) (by
      intro _ w1 hw1
      have hC1 := (hC.keep_no h1).keep_no hw1
      have hn1 := ((names_rd w a b).keep hw1 fun _ _ x => x).mono hw1.size (Nat.le_refl _)
      cases hc : gget L a with
      | none =>
        have hga : gget s.files a = none := by rw [hs, gget_abs, hc]; rfl
        refine (rename_none w1 d m s.room fused left L hC1 a b hc (some ⟨w.heap.size, 0, none⟩) 2 hn1 0 (.slice none 0 0)).mono fun e w2 ⟨he, hw⟩ => ?_
        have e7 : mvCode s a = 7 := by unfold mvCode; rw [if_pos hga]
        rw [e7]
        exact ⟨he, L, hC1.keep_no hw, rfl, Foot.refl _ _, Kp.of_no hw⟩
      | some c =>
        have hga : gget s.files a = some c.abs := by rw [hs, gget_abs, hc]; rfl
        refine (rename_some w1 d m s.room fused left L hC1 a b c hc (some ⟨w.heap.size, 0, none⟩) 2 hn1 0 (.slice none 0 0)).mono fun e w2 ⟨he, h2, h3, h4⟩ => ?_
        have e0 : mvCode s a = 0 := by unfold mvCode; rw [if_neg (by rw [hga]; simp)]
        have ef : mvFiles s.files a b = gset (gdel (absL L) a) b c.abs := by unfold mvFiles; rw [hga, hs]
        rw [e0, ef]
        exact ⟨he, _, h2, by rw [gset_abs, gdel_abs]; rfl, h3, h4⟩)
  have HG := Lib.hid hg
  clear hg hC hF hFs hf hs
  go_enter Try.func19, Try.ntmps19
  go_wp2_with fail
  refine (HG.out).mono ?_
  rintro e w' ⟨rfl, F', h2, h3, h4⟩
  have H2 := Lib.hid h2
  have H3 := Lib.hid h3
  have H4 := Lib.hid h4
  clear h2 h3 h4
  go_wp2_with fail
  go_ret
  exact ⟨rfl, F', H2.out, fun k hk => (H3.out k hk).imp id fun h => Nat.le_trans h1.size h, (Kp.of_no h1).trans_same H4.out⟩
end Go.Proofs.Ytenidddbjobblaa
