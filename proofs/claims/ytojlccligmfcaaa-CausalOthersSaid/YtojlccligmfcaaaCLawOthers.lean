/-
  The law CausalOthers, walked.
-/
import Derived.Test.YtojlccligmfcaaaCOthers
import Derived.Deep.CutRange
namespace Go.Proofs.Ytojlccligmfcaaa
open Go.RowKit Go.Mer

theorem ev1_at {W : World} {x : EvR} (hx : x.At W) {g : Nat} {cs : Array Value} {t : TypeId} (hg : W.heap[g]? = some (.cells cs t (0, 0))) (hcs : cs.toList = x.cells) : EvsAt W (some ⟨g, 0, none⟩) [x] := by
  refine ⟨Rd.row (n := 18) hg ?_ (get_lt hg) (Nat.le_refl _), fun y hy => ?_⟩
  · rw [List.drop_zero, hcs, List.flatMap_cons, List.flatMap_nil, List.append_nil]
    exact List.take_of_length_le (by rw [EvR.cells_len]; omega)
  · obtain rfl := List.mem_singleton.1 hy
    exact hx
/-- While events are gathered in a slice of one's own. -/
def MRel (w0 wr : World) (v : Value) (n : Nat) (Q : List EvR) : Prop :=
  n = Q.length ∧ Own wr 47 18 v n (Q.flatMap EvR.cells) ∧ (∀ g, v.ownBlock = some g → w0.heap.size ≤ g) ∧ Kp No w0 wr
theorem MRel.keep {w0 wr W : World} {v : Value} {n : Nat} {Q : List EvR} (h : MRel w0 wr v n Q) (hk : Kp No wr W) : MRel w0 W v n Q := ⟨h.1, h.2.1.keep hk fun _ _ x => x, h.2.2.1, h.2.2.2.trans_same hk⟩
theorem MRel.made {w0 W : World} (h : Kp No w0 W) : MRel w0 (W.alloc (.cells #[] 47)) (.slice (some ⟨W.heap.size, 0, none⟩) 0 0) 0 [] :=
  ⟨rfl, Own.made W 47 18 #[] 0 0 (Nat.le_refl _) (by simp [maxLen]) (by simp) rfl, fun g hg => by
    have hg : W.heap.size = g := by simpa [Value.ownBlock] using hg
    have := h.size
    omega, h.alloc _⟩
theorem infoMEvent : (Try.prog.info? 47).map (fun i => ((i.zero.map fun z => z.cells.size), i.size, i.bytes)) = some (some 18, 18, 208) := by kernel_rfl
theorem MRel.app {w0 W : World} {v : Value} {n : Nat} {Q : List EvR} (h : MRel w0 W v n Q) (N : List EvR) {x : Value} {m : Nat} (hsrc : Src W 18 x m (N.flatMap EvR.cells)) (hm : m = N.length) (hn : n + m ≤ 1000) :
    ∃ a' c' W', (Builtin.append_ #[22, 22] 22 #[v, x]).run Try.prog W = .ok (.slice a' (n + m) c') W' ∧ MRel w0 W' (.slice a' (n + m) c') (n + m) (Q ++ N) ∧ Kp (fun k => v.ownBlock = some k) W W' := by
  obtain ⟨rfl, h3, h4, h6⟩ := h
  obtain ⟨i0, hi, hz⟩ := Option.map_eq_some_iff.1 infoMEvent
  injection hz with hz0 hz
  injection hz with hz1 hz2
  obtain ⟨z, hz, hz3⟩ := Option.map_eq_some_iff.1 hz0
  obtain ⟨v', w', hrun, ho, hkp, hblk⟩ := run_append_Own (P := Try.prog) 22 22 22 47 i0 z 18 208 Try.underlying22 ⟨_, Try.underlying22⟩ hi hz hz1 hz2 hz3 v Q.length _ h3 x m _ hsrc
    (fun u hu => by obtain ⟨y, _, hy⟩ := List.mem_flatMap.1 hu; exact y.cells_one u hy) (by unfold maxLen; omega) (by omega)
  obtain ⟨_, a', c', rfl, _⟩ := id ho
  refine ⟨a', c', w', hrun, ⟨by rw [List.length_append]; omega, by rw [List.flatMap_append]; exact ho, fun g' hg' => ?_, h6.trans hkp fun i hi hs => by
    have := h4 i hs
    omega⟩, hkp⟩
  rcases hblk with hb | ⟨g2, hb, hb2⟩
  · exact h4 g' (hb.symm.trans hg')
  · obtain rfl := Option.some.inj (hb.symm.trans hg')
    have h7 := h6.size
    omega
theorem evs_src {W : World} {a : Option Addr} {c : Nat} {Q : List EvR} (h : Rd W W.heap.size a (Q.flatMap EvR.cells)) : Src W 18 (.slice a Q.length c) Q.length (Q.flatMap EvR.cells) := ⟨chunk_len EvR.cells 18 EvR.cells_len Q, a, c, rfl, h⟩
theorem ev_src {W : World} {g : Nat} {x : EvR} {cs : Array Value} (hg : W.heap[g]? = some (.cells cs 47 (0, 0))) (hcs : cs.toList = x.cells) : Src W 18 (.slice (some ⟨g, 0, none⟩) 1 1) 1 ([x].flatMap EvR.cells) := by
  refine ⟨by rw [chunk_len EvR.cells 18 EvR.cells_len]; rfl, some ⟨g, 0, none⟩, 1, rfl, Rd.row (n := 18) hg ?_ (get_lt hg) (Nat.le_refl _)⟩
  rw [List.drop_zero, hcs, List.flatMap_cons, List.flatMap_nil, List.append_nil]
  exact List.take_of_length_le (by rw [EvR.cells_len]; omega)
def Cut38 (W3 : World) (x : EvR) (v : Value) (wx : World) : Prop := ∃ b : Bool, v = .bool b ∧ (b = false → Neutral x) ∧ Kp No W3 wx
set_option maxRecDepth 100000 in
set_option maxHeartbeats 4000000 in
theorem others_law (w : World) (a : Option Addr) (cap : Nat) (L : List EvR) (at_ : Int) (s : StepR) (er : Int) (h : EvsAt w a L) (hz : ∀ x ∈ L, x.Sz) (hl : L.length ≤ cap) (hcap : cap ≤ 140737488351232) (hs : StepOk w s) (he : I64 er) :
    Calls Try.prog 4 #[.slice a L.length cap, .int .i64 at_, .agg s.cells.toArray, .int .i64 er] w fun e w' => e = .returned (.bool true) ∧ Kp No w w' := by
  obtain ⟨kind, node, n, m, by_, s1, s2, key, to_, va, vcap, val⟩ := s
  obtain ⟨hsat, hsk, hst, hsv⟩ := hs
  simp only at hsk hst hsv
  show Calls Try.prog 4 #[.slice a L.length cap, .int .i64 at_, .agg #[.int .i64 kind, .int .i64 node, .int .i64 n, .int .i64 m, .int .u8 by_, .int .i64 s1, .int .i64 s2, .string key, .string to_, .slice va val.length vcap], .int .i64 er] w _
  obtain ⟨W1, hW1⟩ : ∃ W, W = w.alloc (.cells #[.int .i64 kind, .int .i64 node, .int .i64 n, .int .i64 m, .int .u8 by_, .int .i64 s1, .int .i64 s2, .string key, .string to_, .slice va val.length vcap] 41) := ⟨_, rfl⟩
  have k1 : Kp No w W1 := by rw [hW1]; exact (Kp.refl _ _).alloc _
  have b1 : W1.heap[w.heap.size]? = some (.cells #[.int .i64 kind, .int .i64 node, .int .i64 n, .int .i64 m, .int .u8 by_, .int .i64 s1, .int .i64 s2, .string key, .string to_, .slice va val.length vcap] 41 (0, 0)) := by rw [hW1]; exact heap_alloc_new w _
  have HH := Lib.hid (heavy_any W1 a cap L (h.keep k1) hz (by omega))
  have HA := Lib.hid (h.keep k1)
  have HSA := Lib.hid (hsat.keep k1)
  have HSz := Lib.hid (show key.size ≤ 140737488351232 ∧ to_.size ≤ 140737488351232 ∧ val.length ≤ 140737488351232 from ⟨hsk, hst, hsv⟩)
  have HK1 := Lib.hid k1
  have HB1 := Lib.hid b1
  have HER := Lib.hid he
  have HW1 := Lib.hid hW1
  clear hW1 k1 b1 h hz hsat hsk hst hsv he
  go_enter Try.func4, Try.ntmps4
  go_upto_region 1 with fail
  rw [← HW1.out]
  clear HW1
  go_wp2_with fail
  refine HH.out.mono ?_
  rintro e w2 ⟨hv, rfl, hb, hk2⟩
  have HB := Lib.hid hb
  have HK2 := Lib.hid (HK1.out.trans_same hk2)
  have HK12 := Lib.hid hk2
  clear HH hb hk2
  cases hv with
  | true =>
    go_wp2_with fail
    go_ret
    exact ⟨rfl, HK2.out⟩
  | false =>
  obtain ⟨hli, h150⟩ := HB.out rfl
  have HLI := Lib.hid hli
  clear hli HB
  have B2 := Lib.hid (HK12.out.get HB1.out fun x => x)
  have R2 : Hid (w2.rangeAt w.heap.size 0 [.int .i64 kind, .int .i64 node, .int .i64 n, .int .i64 m, .int .u8 by_, .int .i64 s1, .int .i64 s2, .string key, .string to_, .slice va val.length vcap]) := Lib.hid (rangeAt_block B2.out 0 10)
  obtain ⟨W3, hW3⟩ : ∃ W, W = w2.alloc (.cells
    #[.int .i64 0, .int .i64 kind, .int .i64 node, .int .i64 n, .int .i64 m, .int .u8 by_, .int .i64 s1, .int .i64 s2, .string key, .string to_, .slice va val.length vcap, .int .i64 0, .int .i64 0, .int .i64 0, .int .i64 0, .bool false, .slice none 0 0, .slice none 0 0]
    47) := ⟨_, rfl⟩
  have k3 : Kp No w2 W3 := by rw [hW3]; exact (Kp.refl _ _).alloc _
  have b3 : W3.heap[w2.heap.size]? = some (.cells
    #[.int .i64 0, .int .i64 kind, .int .i64 node, .int .i64 n, .int .i64 m, .int .u8 by_, .int .i64 s1, .int .i64 s2, .string key, .string to_, .slice va val.length vcap, .int .i64 0, .int .i64 0, .int .i64 0, .int .i64 0, .bool false, .slice none 0 0, .slice none 0 0]
    47 (0, 0)) := by rw [hW3]; exact heap_alloc_new w2 _
  have i0 : I64 0 := ⟨by decide, by decide⟩
  obtain ⟨x0, hx0⟩ : ∃ x : EvR, x = ⟨0, ⟨kind, node, n, m, by_, s1, s2, key, to_, va, vcap, val⟩, ⟨0, 0, 0, 0, false, none, 0, [], none, 0, []⟩⟩ := ⟨_, rfl⟩
  have hx0At : x0.At W3 := by rw [hx0]; exact ⟨i0, HSA.out.keep (HK12.out.trans_same k3), ⟨⟨i0, i0, i0, i0⟩, Rd.nil _ _ _, Rd.nil _ _ _, fun p hp => by cases hp⟩⟩
  have hev := ev1_at hx0At b3 (by rw [hx0]; rfl)
  have HH := Lib.hid (heavy_any W3 (some ⟨w2.heap.size, 0, none⟩) 1 [x0] hev (fun y hy => by
    obtain rfl := List.mem_singleton.1 hy
    rw [hx0]
    exact ⟨HSz.out.1, HSz.out.2.1, HSz.out.2.2, by show 0 ≤ _; omega, by show 0 ≤ _; omega, fun p hp => by cases hp⟩) (by show 1 ≤ _; omega))
  have HK3 := Lib.hid (HK12.out.trans_same k3)
  have HW3 := Lib.hid hW3
  have HX0 := Lib.hid hx0
  clear hW3 k3 b3 hev hx0At hx0
  go_wp2_with (refine wpList_load_g rfl 41 _ rfl w.heap.size 0 rfl _ _ R2 Try.underlying41 rfl (by kernel_rfl) ?_)
  rw [← HW3.out]
  refine HH.out.mono ?_
  rintro e w4 ⟨hv, rfl, hb, hk4⟩
  have HB := Lib.hid hb
  have HK14 := Lib.hid (HK3.out.trans_same hk4)
  have HK4 := Lib.hid (HK1.out.trans_same (HK3.out.trans_same hk4))
  clear HH hb hk4 R2 HW3
  cases hv with
  | true =>
    go_wp2_with fail
    go_ret
    exact ⟨rfl, HK4.out⟩
  | false =>
  have hxli := (HB.out rfl).1 x0 (List.mem_singleton.2 rfl)
  have HXL := Lib.hid hxli
  have B4 := Lib.hid (HK14.out.get HB1.out fun x => x)
  have c0 : w4.cell? ⟨w.heap.size, 0, none⟩ = some (.int .i64 kind) := by rw [cell_at B4.out]; rfl
  have hs4 : w.heap.size < w4.heap.size := get_lt B4.out
  obtain ⟨x, hx⟩ : ∃ x : EvR, x = ⟨0, ⟨kind, node, n, m, by_, s1, s2, key, to_, va, vcap, val⟩, ⟨er, 0, 0, 0, false, none, 0, [], none, 0, []⟩⟩ := ⟨_, rfl⟩
  have HX := Lib.hid hx
  have HN := Lib.hid (show Neutral x ↔ ¬ ((1 ≤ kind ∧ kind ≤ 5) ∧ (er = 0 ∨ er = 9)) by rw [hx]; rfl)
  clear hxli HB hx
  go_upto_region 3 with fail
  go_cut [38] from 23 to 37 (fun v wx => Cut38 w4 x v wx)
  case first =>
    have h5 : kind < 1 ∨ (1 ≤ kind ∧ 5 < kind) ∨ (1 ≤ kind ∧ kind ≤ 5 ∧ er = 0) ∨ (1 ≤ kind ∧ kind ≤ 5 ∧ er = 9) ∨ (1 ≤ kind ∧ kind ≤ 5 ∧ er ≠ 0 ∧ er ≠ 9) := by omega
    rcases h5 with h1 | ⟨h1, h2⟩ | ⟨h1, h2, rfl⟩ | ⟨h1, h2, rfl⟩ | ⟨h1, h2, h3, h4⟩
    · have HQ : Hid (Neutral x) := Lib.hid (HN.out.2 (by omega))
      go_wp2_with fail
      go_meet
      case rel => exact ⟨false, rfl, fun _ => HQ.out, Kp.refl _ _⟩
    · have HQ : Hid (Neutral x) := Lib.hid (HN.out.2 (by omega))
      go_wp2_with fail
      go_meet
      case rel => exact ⟨false, rfl, fun _ => HQ.out, Kp.refl _ _⟩
    · go_wp2_with fail
      go_meet
      case rel => exact ⟨true, rfl, (fun h => by cases h), Kp.refl _ _⟩
    · go_wp2_with fail
      go_meet
      case rel => exact ⟨true, rfl, (fun h => by cases h), Kp.refl _ _⟩
    · have HQ : Hid (Neutral x) := Lib.hid (HN.out.2 (by omega))
      have f0 : (er == 0) = false := by simpa using h3
      have f9 : (er == 9) = false := by simpa using h4
      go_wp2_with fail
      go_meet
      case rel => exact ⟨false, rfl, fun _ => HQ.out, Kp.refl _ _⟩
  case rest =>
  obtain ⟨b, rfl, hn, hk5⟩ := hcut
  rename World => w5
  have HN5 := Lib.hid hn
  have HK5 := Lib.hid (HK4.out.trans_same hk5)
  have HK15 := Lib.hid (HK14.out.trans_same hk5)
  clear c0 hs4 hn hk5
  cases b with
  | true =>
    go_wp2_with fail
    refine (known_any _).mono ?_
    rintro e w6 ⟨rfl, hk6⟩
    have HK6 := Lib.hid (HK5.out.trans_same hk6)
    clear hk6
    go_wp2_with fail
    go_ret
    exact ⟨rfl, HK6.out⟩
  | false =>
  have HNX := Lib.hid (HN5.out rfl)
  clear HN HN5
  obtain ⟨v, hv1, hv2⟩ := low_bits at_
  have hkk : (v : Int) % ((L.length : Int) + 1) = ((v % (L.length + 1) : Nat) : Int) := by push_cast; rfl
  obtain ⟨k, hk⟩ : ∃ k, k = v % (L.length + 1) := ⟨_, rfl⟩
  rw [← hk] at hkk
  have hkl : k ≤ L.length := by have := Nat.mod_lt v (show 0 < L.length + 1 by omega); omega
  go_upto_region 6 with fail
  rw [hkk]
  have B5 := Lib.hid (HK15.out.get HB1.out fun x => x)
  have hA5 := HA.out.keep HK15.out
  have hxAt : x.At w5 := by rw [HX.out]; exact ⟨i0, HSA.out.keep HK15.out, ⟨⟨HER.out, i0, i0, i0⟩, Rd.nil _ _ _, Rd.nil _ _ _, fun p hp => by cases hp⟩⟩
  have HAT := Lib.hid hxAt
  have R5 : Hid (∀ W, Kp No w5 W → W.rangeAt w.heap.size 0 [.int .i64 kind, .int .i64 node, .int .i64 n, .int .i64 m, .int .u8 by_, .int .i64 s1, .int .i64 s2, .string key, .string to_, .slice va val.length vcap]) := Lib.hid fun W hW => rangeAt_block (hW.get B5.out fun x => x) 0 10
  have hLT : (L.take k).length = k := by rw [List.length_take]; omega
  have HLT := Lib.hid hLT
  have HS1 := Lib.hid (show ∀ W, Kp No w5 W → Src W 18 (.slice a k cap) k ((L.take k).flatMap EvR.cells) from fun W hW => by
    have h1 : Rd W W.heap.size a ((L.take k).flatMap EvR.cells) := by
      rw [← chunk_take EvR.cells 18 EvR.cells_len]
      exact (hA5.top.kp hW).take _
    have h2 := evs_src (c := cap) h1
    rwa [HLT.out] at h2)
  have HX18 := Lib.hid (show (
    #[.int .i64 0, .int .i64 kind, .int .i64 node, .int .i64 n, .int .i64 m, .int .u8 by_, .int .i64 s1, .int .i64 s2, .string key, .string to_, .slice va val.length vcap, .int .i64 er, .int .i64 0, .int .i64 0, .int .i64 0, .bool false, .slice none 0 0, .slice none 0 0]
    ).toList = x.cells by rw [HX.out]; rfl)
  have HK1x := Lib.hid hxAt
  clear hv1 hv2 hkk hk hA5 hxAt hLT
  go_cut [10] from 46 to 56 (fun v10 wx => ∃ (a' : Option Addr) (c' : Nat), v10 = .slice a' (k + 1) c' ∧ Hid (MRel w5 wx (.slice a' (k + 1) c') (k + 1) (L.take k ++ [x])))
  case first =>
    refine wp_region_tree (Kp No w5) [2,0,0,0,2,0,0,0,0,2,2,0] (.fork [1,2,3,5,6,7,8] 0 9 (.fork [] 4 9 (.leaf [9,10,11]) (.leaf [4,10,11])) (.leaf [0,4,10,11])) (by kernel_rfl) (by kernel_rfl) (fun _ n h => h.drewN n) (Kp.refl _ _) ?_
    refine tree_fork ?_
    have hkc : k ≤ cap := by omega
    repeat (first
      | (apply wpOrd_skip rfl (by decide) rfl; (focus (go_simp; rfl)))
      | (apply wpOrd_pure rfl rfl rfl; (focus (intro _ _; go_simp; (try go_ints); rfl)); (focus (go_simp; rfl)))
      | (apply wpOrd_read rfl rfl rfl; (focus (intro _; go_simp; (try go_ints); rfl)); (focus (go_simp; rfl))))
    refine wpOrd_pure rfl rfl rfl (v := .agg #[.int .i64 kind, .int .i64 node, .int .i64 n, .int .i64 m, .int .u8 by_, .int .i64 s1, .int .i64 s2, .string key, .string to_, .slice va val.length vcap]) (fun W0 hW => exec_load_w 41 _ rfl w.heap.size 0 rfl _ _ (R5.out W0 hW) Try.underlying41 rfl (by kernel_rfl)) rfl ?_
    repeat (first
      | (apply wpOrd_skip rfl (by decide) rfl; (focus (go_simp; rfl)))
      | (apply wpOrd_pure rfl rfl rfl; (focus (intro _ _; go_simp; (try go_ints); rfl)); (focus (go_simp; rfl)))
      | (apply wpOrd_read rfl rfl rfl; (focus (intro _; go_simp; (try go_ints); rfl)); (focus (go_simp; rfl))))
    refine tree_both (fun n => (Kp.refl _ _).drewN n) (fun n0 => ?_) (fun n0 => ?_)
    ·
      obtain ⟨V0, hW⟩ : ∃ W, W = w5.drewN n0 := ⟨_, rfl⟩
      have kq0 : Kp No w5 V0 := by rw [hW]; first | exact (Kp.refl _ _).drewN _ | exact ((Kp.refl _ _).drewN _).drewN _
      have kV0 : Kp No w5 V0 := (Kp.refl No w5).trans_same kq0
      rw [← hW]
      clear hW
      refine wpOrd_eff rfl rfl (fun nn => ?_)
      go_wp2_with fail
      obtain ⟨V1, hW⟩ : ∃ W, W = (V0.drewN nn).alloc (.cells #[] 47) := ⟨_, rfl⟩
      rw [← hW]
      have kq1 : Kp No V0 V1 := by rw [hW]; exact ((Kp.refl _ _).drewN nn).alloc _
      have kV1 : Kp No w5 V1 := kV0.trans_same kq1
      have HM0 := Lib.hid (show MRel w5 V1 (.slice (some ⟨V0.heap.size, 0, none⟩) 0 0) 0 [] by rw [hW]; exact MRel.made (kV0.drewN nn))
      have B0 := Lib.hid (show V1.heap[V0.heap.size]? = some (.cells #[] 47 (0, 0)) by rw [hW]; exact heap_alloc_new (V0.drewN nn) _)
      clear hW
      refine ⟨kV1, ?_⟩
      refine tree_next (fun n1 => ?_)
      refine tree_fork ?_
      refine tree_both (fun n => (kV1.drewN n1).drewN n) (fun n2 => ?_) (fun n2 => ?_)
      ·
        obtain ⟨V2, hW⟩ : ∃ W, W = (V1.drewN n1).drewN n2 := ⟨_, rfl⟩
        have kq2 : Kp No V1 V2 := by rw [hW]; first | exact (Kp.refl _ _).drewN _ | exact ((Kp.refl _ _).drewN _).drewN _
        have kV2 : Kp No w5 V2 := kV1.trans_same kq2
        rw [← hW]
        clear hW
        refine wpOrd_eff rfl rfl (fun nn => ?_)
        obtain ⟨a4, c4, V3, hrun, hm, hkp4⟩ := (HM0.out.keep (kq2.drewN nn)).app (L.take k) (HS1.out (V2.drewN nn) (kV2.drewN nn)) HLT.out.symm (by omega)
        simp only [Nat.zero_add, List.nil_append] at hrun hm
        have HX4 := Lib.hid hrun
        have HM4 := Lib.hid hm
        have kV3 : Kp No w5 V3 := hm.2.2.2
        clear hrun hm
        refine wpList_append_run rfl rfl rfl rfl HX4.out (wpList_nil ⟨rfl, kV3, ?_⟩)
        clear HX4
        refine tree_next (fun n3 => ?_)
        refine tree_leaf ?_
        obtain ⟨V4, hW⟩ : ∃ W, W = V3.drewN n3 := ⟨_, rfl⟩
        have kq4 : Kp No V3 V4 := by rw [hW]; first | exact (Kp.refl _ _).drewN _ | exact ((Kp.refl _ _).drewN _).drewN _
        have kV4 : Kp No w5 V4 := kV3.trans_same kq4
        rw [← hW]
        clear hW
        refine wpOrd_eff rfl rfl (fun nn => ?_)
        go_wp2_with fail
        obtain ⟨V5, hW⟩ : ∃ W, W = (V4.drewN nn).alloc (.cells
          #[.int .i64 0, .int .i64 kind, .int .i64 node, .int .i64 n, .int .i64 m, .int .u8 by_, .int .i64 s1, .int .i64 s2, .string key, .string to_, .slice va val.length vcap, .int .i64 er, .int .i64 0, .int .i64 0, .int .i64 0, .bool false, .slice none 0 0, .slice none 0 0]
          47) := ⟨_, rfl⟩
        rw [← hW]
        have kq5 : Kp No V4 V5 := by rw [hW]; exact ((Kp.refl _ _).drewN nn).alloc _
        have kV5 : Kp No w5 V5 := kV4.trans_same kq5
        have HBE := Lib.hid (show V5.heap[V4.heap.size]? = some (.cells
          #[.int .i64 0, .int .i64 kind, .int .i64 node, .int .i64 n, .int .i64 m, .int .u8 by_, .int .i64 s1, .int .i64 s2, .string key, .string to_, .slice va val.length vcap, .int .i64 er, .int .i64 0, .int .i64 0, .int .i64 0, .bool false, .slice none 0 0, .slice none 0 0]
          47 (0, 0)) by rw [hW]; exact heap_alloc_new (V4.drewN nn) _)
        clear hW
        refine ⟨kV5, ?_⟩
        refine wpOrd_eff rfl rfl (fun nn => ?_)
        obtain ⟨a5, c5, W9, hrun, hm, _⟩ := (HM4.out.keep ((kq4.trans_same kq5).drewN nn)).app [x] (ev_src (show (V5.drewN nn).heap[V4.heap.size]? = _ from HBE.out) HX18.out) rfl (by omega)
        have HX10 := Lib.hid hrun
        have HM10 := Lib.hid hm
        have kW9 : Kp No w5 W9 := hm.2.2.2
        clear hrun hm
        refine wpList_append_run rfl rfl rfl rfl HX10.out (wpList_nil ⟨rfl, kW9, ?_⟩)
        clear HX10
        repeat (first
          | (apply wpOrd_skip rfl (by decide) rfl; (focus (go_simp; rfl)))
          | (apply wpOrd_pure rfl rfl rfl; (focus (intro _ _; go_simp; (try go_ints); rfl)); (focus (go_simp; rfl)))
          | (apply wpOrd_read rfl rfl rfl; (focus (intro _; go_simp; (try go_ints); rfl)); (focus (go_simp; rfl))))
        refine wpOrd_nil (fun nq => ?_)
        have HM11 := Lib.hid (HM10.out.keep ((Kp.refl _ _).drewN nq))
        go_wp2_with fail
        go_meet
        case rel => exact ⟨a5, c5, rfl, HM11⟩
      ·
        obtain ⟨V2, hW⟩ : ∃ W, W = (V1.drewN n1).drewN n2 := ⟨_, rfl⟩
        have kq2 : Kp No V1 V2 := by rw [hW]; first | exact (Kp.refl _ _).drewN _ | exact ((Kp.refl _ _).drewN _).drewN _
        have kV2 : Kp No w5 V2 := kV1.trans_same kq2
        rw [← hW]
        clear hW
        refine wpOrd_eff rfl rfl (fun nn => ?_)
        go_wp2_with fail
        obtain ⟨V3, hW⟩ : ∃ W, W = (V2.drewN nn).alloc (.cells
          #[.int .i64 0, .int .i64 kind, .int .i64 node, .int .i64 n, .int .i64 m, .int .u8 by_, .int .i64 s1, .int .i64 s2, .string key, .string to_, .slice va val.length vcap, .int .i64 er, .int .i64 0, .int .i64 0, .int .i64 0, .bool false, .slice none 0 0, .slice none 0 0]
          47) := ⟨_, rfl⟩
        rw [← hW]
        have kq3 : Kp No V2 V3 := by rw [hW]; exact ((Kp.refl _ _).drewN nn).alloc _
        have kV3 : Kp No w5 V3 := kV2.trans_same kq3
        have HBE := Lib.hid (show V3.heap[V2.heap.size]? = some (.cells
          #[.int .i64 0, .int .i64 kind, .int .i64 node, .int .i64 n, .int .i64 m, .int .u8 by_, .int .i64 s1, .int .i64 s2, .string key, .string to_, .slice va val.length vcap, .int .i64 er, .int .i64 0, .int .i64 0, .int .i64 0, .bool false, .slice none 0 0, .slice none 0 0]
          47 (0, 0)) by rw [hW]; exact heap_alloc_new (V2.drewN nn) _)
        clear hW
        refine ⟨kV3, ?_⟩
        refine tree_next (fun n3 => ?_)
        refine tree_leaf ?_
        obtain ⟨V4, hW⟩ : ∃ W, W = V3.drewN n3 := ⟨_, rfl⟩
        have kq4 : Kp No V3 V4 := by rw [hW]; first | exact (Kp.refl _ _).drewN _ | exact ((Kp.refl _ _).drewN _).drewN _
        have kV4 : Kp No w5 V4 := kV3.trans_same kq4
        rw [← hW]
        clear hW
        have hg0 : V0.heap.size < V2.heap.size := Nat.lt_of_lt_of_le (get_lt B0.out) kq2.size
        have BE4 := Lib.hid (kq4.get HBE.out fun x => x)
        refine wpOrd_eff rfl rfl (fun nn => ?_)
        obtain ⟨a4, c4, V5, hrun, hm, hkp4⟩ := (HM0.out.keep (((kq2.trans_same kq3).trans_same kq4).drewN nn)).app (L.take k) (HS1.out (V4.drewN nn) (kV4.drewN nn)) HLT.out.symm (by omega)
        simp only [Nat.zero_add, List.nil_append] at hrun hm
        have HX4 := Lib.hid hrun
        have HM4 := Lib.hid hm
        have kV5 : Kp No w5 V5 := hm.2.2.2
        clear hrun hm
        refine wpList_append_run rfl rfl rfl rfl HX4.out (wpList_nil ⟨rfl, kV5, ?_⟩)
        clear HX4
        have BE5 := Lib.hid (hkp4.get (show (V4.drewN nn).heap[V2.heap.size]? = _ from BE4.out) (fun hs => by
          have hs : V0.heap.size = V2.heap.size := by simpa [Value.ownBlock] using hs
          omega))
        refine wpOrd_eff rfl rfl (fun nn => ?_)
        obtain ⟨a5, c5, W9, hrun, hm, _⟩ := (HM4.out.keep ((Kp.refl No V5).drewN nn)).app [x] (ev_src (show (V5.drewN nn).heap[V2.heap.size]? = _ from BE5.out) HX18.out) rfl (by omega)
        have HX10 := Lib.hid hrun
        have HM10 := Lib.hid hm
        have kW9 : Kp No w5 W9 := hm.2.2.2
        clear hrun hm
        refine wpList_append_run rfl rfl rfl rfl HX10.out (wpList_nil ⟨rfl, kW9, ?_⟩)
        clear HX10
        repeat (first
          | (apply wpOrd_skip rfl (by decide) rfl; (focus (go_simp; rfl)))
          | (apply wpOrd_pure rfl rfl rfl; (focus (intro _ _; go_simp; (try go_ints); rfl)); (focus (go_simp; rfl)))
          | (apply wpOrd_read rfl rfl rfl; (focus (intro _; go_simp; (try go_ints); rfl)); (focus (go_simp; rfl))))
        refine wpOrd_nil (fun nq => ?_)
        have HM11 := Lib.hid (HM10.out.keep ((Kp.refl _ _).drewN nq))
        go_wp2_with fail
        go_meet
        case rel => exact ⟨a5, c5, rfl, HM11⟩
    ·
      obtain ⟨V0, hW⟩ : ∃ W, W = w5.drewN n0 := ⟨_, rfl⟩
      have kq0 : Kp No w5 V0 := by rw [hW]; first | exact (Kp.refl _ _).drewN _ | exact ((Kp.refl _ _).drewN _).drewN _
      have kV0 : Kp No w5 V0 := (Kp.refl No w5).trans_same kq0
      rw [← hW]
      clear hW
      refine wpOrd_eff rfl rfl (fun nn => ?_)
      go_wp2_with fail
      obtain ⟨V1, hW⟩ : ∃ W, W = (V0.drewN nn).alloc (.cells
        #[.int .i64 0, .int .i64 kind, .int .i64 node, .int .i64 n, .int .i64 m, .int .u8 by_, .int .i64 s1, .int .i64 s2, .string key, .string to_, .slice va val.length vcap, .int .i64 er, .int .i64 0, .int .i64 0, .int .i64 0, .bool false, .slice none 0 0, .slice none 0 0]
        47) := ⟨_, rfl⟩
      rw [← hW]
      have kq1 : Kp No V0 V1 := by rw [hW]; exact ((Kp.refl _ _).drewN nn).alloc _
      have kV1 : Kp No w5 V1 := kV0.trans_same kq1
      have HBE := Lib.hid (show V1.heap[V0.heap.size]? = some (.cells
        #[.int .i64 0, .int .i64 kind, .int .i64 node, .int .i64 n, .int .i64 m, .int .u8 by_, .int .i64 s1, .int .i64 s2, .string key, .string to_, .slice va val.length vcap, .int .i64 er, .int .i64 0, .int .i64 0, .int .i64 0, .bool false, .slice none 0 0, .slice none 0 0]
        47 (0, 0)) by rw [hW]; exact heap_alloc_new (V0.drewN nn) _)
      clear hW
      refine ⟨kV1, ?_⟩
      refine tree_next (fun n1 => ?_)
      refine tree_leaf ?_
      obtain ⟨V2, hW⟩ : ∃ W, W = V1.drewN n1 := ⟨_, rfl⟩
      have kq2 : Kp No V1 V2 := by rw [hW]; first | exact (Kp.refl _ _).drewN _ | exact ((Kp.refl _ _).drewN _).drewN _
      have kV2 : Kp No w5 V2 := kV1.trans_same kq2
      rw [← hW]
      clear hW
      refine wpOrd_eff rfl rfl (fun nn => ?_)
      go_wp2_with fail
      obtain ⟨V3, hW⟩ : ∃ W, W = (V2.drewN nn).alloc (.cells #[] 47) := ⟨_, rfl⟩
      rw [← hW]
      have kq3 : Kp No V2 V3 := by rw [hW]; exact ((Kp.refl _ _).drewN nn).alloc _
      have kV3 : Kp No w5 V3 := kV2.trans_same kq3
      have HM0 := Lib.hid (show MRel w5 V3 (.slice (some ⟨V2.heap.size, 0, none⟩) 0 0) 0 [] by rw [hW]; exact MRel.made (kV2.drewN nn))
      have B0 := Lib.hid (show V3.heap[V2.heap.size]? = some (.cells #[] 47 (0, 0)) by rw [hW]; exact heap_alloc_new (V2.drewN nn) _)
      clear hW
      refine ⟨kV3, ?_⟩
      have hg0 : V0.heap.size < V2.heap.size := Nat.lt_of_lt_of_le (get_lt HBE.out) kq2.size
      have BE4 := Lib.hid ((kq2.trans_same kq3).get HBE.out fun x => x)
      refine wpOrd_eff rfl rfl (fun nn => ?_)
      obtain ⟨a4, c4, V5, hrun, hm, hkp4⟩ := (HM0.out.keep ((Kp.refl No V3).drewN nn)).app (L.take k) (HS1.out (V3.drewN nn) (kV3.drewN nn)) HLT.out.symm (by omega)
      simp only [Nat.zero_add, List.nil_append] at hrun hm
      have HX4 := Lib.hid hrun
      have HM4 := Lib.hid hm
      have kV5 : Kp No w5 V5 := hm.2.2.2
      clear hrun hm
      refine wpList_append_run rfl rfl rfl rfl HX4.out (wpList_nil ⟨rfl, kV5, ?_⟩)
      clear HX4
      have BE5 := Lib.hid (hkp4.get (show (V3.drewN nn).heap[V0.heap.size]? = _ from BE4.out) (fun hs => by
        have hs : V2.heap.size = V0.heap.size := by simpa [Value.ownBlock] using hs
        omega))
      refine wpOrd_eff rfl rfl (fun nn => ?_)
      obtain ⟨a5, c5, W9, hrun, hm, _⟩ := (HM4.out.keep ((Kp.refl No V5).drewN nn)).app [x] (ev_src (show (V5.drewN nn).heap[V0.heap.size]? = _ from BE5.out) HX18.out) rfl (by omega)
      have HX10 := Lib.hid hrun
      have HM10 := Lib.hid hm
      have kW9 : Kp No w5 W9 := hm.2.2.2
      clear hrun hm
      refine wpList_append_run rfl rfl rfl rfl HX10.out (wpList_nil ⟨rfl, kW9, ?_⟩)
      clear HX10
      repeat (first
        | (apply wpOrd_skip rfl (by decide) rfl; (focus (go_simp; rfl)))
        | (apply wpOrd_pure rfl rfl rfl; (focus (intro _ _; go_simp; (try go_ints); rfl)); (focus (go_simp; rfl)))
        | (apply wpOrd_read rfl rfl rfl; (focus (intro _; go_simp; (try go_ints); rfl)); (focus (go_simp; rfl))))
      refine wpOrd_nil (fun nq => ?_)
      have HM11 := Lib.hid (HM10.out.keep ((Kp.refl _ _).drewN nq))
      go_wp2_with fail
      go_meet
      case rel => exact ⟨a5, c5, rfl, HM11⟩
  case rest =>
  obtain ⟨a6, c6, rfl, HM6⟩ := hcut
  rename World => w6
  have hkc : k ≤ cap := by omega
  have hA6 := HA.out.top.kp (HK15.out.trans_same HM6.out.2.2.2)
  have HA6 := Lib.hid hA6
  go_upto_region 7 with fail
  go_cut [10] from 57 to 61 (fun v10 wx => ∃ (a' : Option Addr) (c' : Nat), v10 = .slice a' (L.length + 1) c' ∧ Hid (MRel w5 wx (.slice a' (L.length + 1) c') (L.length + 1) (L.take k ++ [x] ++ L.drop k)))
  case first =>
    rcases Nat.lt_or_ge k L.length with hlt | hge
    · have hkc2 : k < cap := by omega
      obtain ⟨g, off, rfl, _, _, _⟩ := hA6 (by rw [chunk_len EvR.cells 18 EvR.cells_len]; omega)
      have hd := hA6.drop (k * 18)
      rw [chunk_drop EvR.cells 18 EvR.cells_len] at hd
      have hsrc := evs_src (c := cap - k) hd
      rw [List.length_drop] at hsrc
      obtain ⟨a7, c7, w7, hrun, hm, _⟩ := HM6.out.app (L.drop k) hsrc (by rw [List.length_drop]) (by omega)
      rw [show k + 1 + (L.length - k) = L.length + 1 from by omega] at hrun hm
      simp only [Option.map_some, add_lit'] at hrun
      have HX7 := Lib.hid hrun
      have HM7 := Lib.hid hm
      clear hd hsrc hrun hm hA6
      go_wp2_with (at_builtin; refine wpList_append_run rfl rfl rfl rfl HX7.out ?_)
      go_meet
      case rel => exact ⟨a7, c7, rfl, HM7⟩
    · obtain rfl : k = L.length := by omega
      have hm0 := fun (v : Option Addr) (c : Nat) => HM6.out.app (L.drop L.length) (x := .slice v 0 c) (m := 0) ⟨by rw [List.drop_length]; rfl, v, c, rfl, by rw [List.drop_length]; exact Rd.nil _ _ _⟩ (by simp) (by omega)
      have HM0 := Lib.hid hm0
      clear hA6 hm0
      cases a with
      | none =>
        obtain ⟨a7, c7, w7, hrun, hm, _⟩ := HM0.out none (cap - L.length)
        rw [Nat.add_zero] at hrun hm
        have HX7 := Lib.hid hrun
        have HM7 := Lib.hid hm
        clear hrun hm
        go_wp2_with (at_builtin; refine wpList_append_run rfl rfl rfl rfl HX7.out ?_)
        go_meet
        case rel => exact ⟨a7, c7, rfl, HM7⟩
      | some a0 =>
        by_cases hcc : L.length = cap
        · subst hcc
          obtain ⟨a7, c7, w7, hrun, hm, _⟩ := HM0.out (some a0) 0
          rw [Nat.add_zero] at hrun hm
          have HX7 := Lib.hid hrun
          have HM7 := Lib.hid hm
          clear hrun hm hkc hl
          go_wp2_with (at_builtin; refine wpList_append_run rfl rfl rfl rfl HX7.out ?_)
          go_meet
          case rel => exact ⟨a7, c7, rfl, HM7⟩
        · have hcc2 : L.length < cap := by omega
          obtain ⟨a7, c7, w7, hrun, hm, _⟩ := HM0.out (some (a0.add (L.length * 18))) (cap - L.length)
          rw [Nat.add_zero] at hrun hm
          have HX7 := Lib.hid hrun
          have HM7 := Lib.hid hm
          clear hrun hm
          go_wp2_with (at_builtin; refine wpList_append_run rfl rfl rfl rfl HX7.out ?_)
          go_meet
          case rel => exact ⟨a7, c7, rfl, HM7⟩
  case rest =>
  obtain ⟨a8, c8, rfl, HM8⟩ := hcut
  rename World => w7
  have hN := wrF_neutral HNX.out
  obtain ⟨i, b, hi, e1, e2⟩ := others_check (L.take k) (L.drop k) HNX.out
  rw [List.take_append_drop] at e1
  rw [HLT.out] at e2 hi
  have hf : (L.take k ++ [x] ++ L.drop k).filterMap wrF = L.filterMap wrF := by
    conv => rhs; rw [← List.take_append_drop k L]
    rw [List.filterMap_append, List.filterMap_append, List.filterMap_append]
    simp [hN]
  obtain ⟨M, hM⟩ : ∃ M, M = L.take k ++ [x] ++ L.drop k := ⟨_, rfl⟩
  rw [← hM] at HM8 e2 hf
  have hMl : M.length = L.length + 1 := by have := HM8.out.1; omega
  have hK7 : Kp No w5 w7 := HM8.out.2.2.2
  have hAL7 : EvsAt w7 a L := HA.out.keep (HK15.out.trans_same hK7)
  have hmem : ∀ y ∈ M, y ∈ L ∨ y = x := fun y hy => by
    rw [hM] at hy
    simp only [List.mem_append, List.mem_singleton] at hy
    rcases hy with (hy | rfl) | hy
    · exact .inl (List.mem_of_mem_take hy)
    · exact .inr rfl
    · exact .inl (List.mem_of_mem_drop hy)
  have hAM : EvsAt w7 a8 M := ⟨HM8.out.2.1.rd', fun y hy => by
    rcases hmem y hy with hy | rfl
    · exact hAL7.each _ hy
    · exact HAT.out.keep hK7⟩
  have hLM : ∀ y ∈ M, y.Li := fun y hy => by
    rcases hmem y hy with hy | rfl
    · exact HLI.out _ hy
    · have h0 := HXL.out
      rw [HX0.out] at h0
      rw [HX.out]
      exact ⟨h0.key, h0.to, h0.val, h0.aval, h0.many, h0.pairs⟩
  have hcc := Check_any w7 a cap L hAL7 (by omega) HLI.out
  rw [e1] at hcc
  have HC1 := Lib.hid hcc
  have HAL7 := Lib.hid hAL7
  have HAM := Lib.hid hAM
  have HLM := Lib.hid hLM
  have HML := Lib.hid hMl
  have HF := Lib.hid hf
  have HE2 := Lib.hid e2
  have HK7 := Lib.hid (HK5.out.trans_same hK7)
  have hi2 : i ≤ 300 := by
    have : (L.drop k).length = L.length - k := List.length_drop
    omega
  clear hN hi e1 e2 hf hM hMl hK7 hAL7 hmem hAM hLM hcc
  go_wp2_with fail
  refine HC1.out.mono ?_
  rintro e w8 ⟨rfl, hk8⟩
  have hcc := Check_any w8 a8 c8 M (HAM.out.keep hk8) (by have := HML.out; omega) HLM.out
  rw [HE2.out, HML.out] at hcc
  have HC2 := Lib.hid hcc
  have HK8 := Lib.hid hk8
  clear hk8 hcc HE2
  go_wp2_with fail
  refine HC2.out.mono ?_
  rintro e w9 ⟨rfl, hk9⟩
  have HK9 := Lib.hid (HK8.out.trans_same hk9)
  clear hk9 HC2
  have h3 : b = false ∨ (b = true ∧ k ≤ i) ∨ (b = true ∧ i < k) := by
    cases b
    · exact .inl rfl
    · rcases Nat.lt_or_ge i k with h | h
      · exact .inr (.inr ⟨rfl, h⟩)
      · exact .inr (.inl ⟨rfl, h⟩)
  rcases h3 with rfl | ⟨rfl, h3⟩ | ⟨rfl, h3⟩
  · simp only [Bool.false_eq_true, false_and, if_false]
    go_wp2_with fail
    have hcc := Writes_any w9 a cap L (HAL7.out.keep HK9.out) (by omega) (fun y hy => by have := (HLI.out y hy).val; omega)
    have HC3 := Lib.hid hcc
    clear hcc
    refine HC3.out.mono ?_
    rintro e w10 ⟨b1, d1, R1, rfl, hR1, _, hk10⟩
    have HK10 := Lib.hid (HK9.out.trans_same hk10)
    have hcc := Writes_any w10 a8 c8 M (HAM.out.keep HK10.out) (by have := HML.out; omega) (fun y hy => by have := (HLM.out y hy).val; omega)
    rw [HML.out] at hcc
    have HC4 := Lib.hid hcc
    have HR1 := Lib.hid hR1
    clear hcc hk10 hR1 HC3
    go_wp2_with fail
    refine HC4.out.mono ?_
    rintro e w11 ⟨b2, d2, R2, rfl, hR2, _, hk11⟩
    have hlen : R2.length = R1.length := by
      have h1 := congrArg List.length (hR2.trans (HF.out.trans HR1.out.symm))
      simpa using h1
    rw [hlen]
    have HK11 := Lib.hid ((HK7.out.trans_same HK10.out).trans_same hk11)
    clear hlen hR2 hk11 HC4
    go_wp2_with fail
    refine (known_any _).mono ?_
    rintro e w12 ⟨rfl, hk12⟩
    have HK12' := Lib.hid (HK11.out.trans_same hk12)
    clear hk12
    go_wp2_with fail
    go_ret
    exact ⟨rfl, HK12'.out⟩
  · rw [if_pos ⟨rfl, h3⟩]
    go_wp2_with fail
    have hcc := Writes_any w9 a cap L (HAL7.out.keep HK9.out) (by omega) (fun y hy => by have := (HLI.out y hy).val; omega)
    have HC3 := Lib.hid hcc
    clear hcc
    refine HC3.out.mono ?_
    rintro e w10 ⟨b1, d1, R1, rfl, hR1, _, hk10⟩
    have HK10 := Lib.hid (HK9.out.trans_same hk10)
    have hcc := Writes_any w10 a8 c8 M (HAM.out.keep HK10.out) (by have := HML.out; omega) (fun y hy => by have := (HLM.out y hy).val; omega)
    rw [HML.out] at hcc
    have HC4 := Lib.hid hcc
    have HR1 := Lib.hid hR1
    clear hcc hk10 hR1 HC3
    go_wp2_with fail
    refine HC4.out.mono ?_
    rintro e w11 ⟨b2, d2, R2, rfl, hR2, _, hk11⟩
    have hlen : R2.length = R1.length := by
      have h1 := congrArg List.length (hR2.trans (HF.out.trans HR1.out.symm))
      simpa using h1
    rw [hlen]
    have HK11 := Lib.hid ((HK7.out.trans_same HK10.out).trans_same hk11)
    clear hlen hR2 hk11 HC4
    go_wp2_with fail
    refine (known_any _).mono ?_
    rintro e w12 ⟨rfl, hk12⟩
    have HK12' := Lib.hid (HK11.out.trans_same hk12)
    clear hk12
    go_wp2_with fail
    go_ret
    exact ⟨rfl, HK12'.out⟩
  · rw [if_neg (show ¬ (true = true ∧ k ≤ i) from by omega)]
    go_wp2_with fail
    have hcc := Writes_any w9 a cap L (HAL7.out.keep HK9.out) (by omega) (fun y hy => by have := (HLI.out y hy).val; omega)
    have HC3 := Lib.hid hcc
    clear hcc
    refine HC3.out.mono ?_
    rintro e w10 ⟨b1, d1, R1, rfl, hR1, _, hk10⟩
    have HK10 := Lib.hid (HK9.out.trans_same hk10)
    have hcc := Writes_any w10 a8 c8 M (HAM.out.keep HK10.out) (by have := HML.out; omega) (fun y hy => by have := (HLM.out y hy).val; omega)
    rw [HML.out] at hcc
    have HC4 := Lib.hid hcc
    have HR1 := Lib.hid hR1
    clear hcc hk10 hR1 HC3
    go_wp2_with fail
    refine HC4.out.mono ?_
    rintro e w11 ⟨b2, d2, R2, rfl, hR2, _, hk11⟩
    have hlen : R2.length = R1.length := by
      have h1 := congrArg List.length (hR2.trans (HF.out.trans HR1.out.symm))
      simpa using h1
    rw [hlen]
    have HK11 := Lib.hid ((HK7.out.trans_same HK10.out).trans_same hk11)
    clear hlen hR2 hk11 HC4
    go_wp2_with fail
    refine (known_any _).mono ?_
    rintro e w12 ⟨rfl, hk12⟩
    have HK12' := Lib.hid (HK11.out.trans_same hk12)
    clear hk12
    go_wp2_with fail
    go_ret
    exact ⟨rfl, HK12'.out⟩
end Go.Proofs.Ytojlccligmfcaaa
