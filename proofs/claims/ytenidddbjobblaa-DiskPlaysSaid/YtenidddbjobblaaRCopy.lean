/-
  The reference's disk: Copy.
-/
import Derived.Test.YtenidddbjobblaaRWalk
import Derived.Test.YtenidddbjobblaaWide
import Derived.Deep.CutRange
namespace Go.Proofs.Ytenidddbjobblaa
open Go.RowKit Go.Mer

/-- A disk that is being laid: all of it is new. -/
structure RNew (w0 W : World) (ro room : Nat) (v : Value) (Lo : List RFile) : Prop where
  cell : W.heap[ro]? = some (.cells #[.int .i64 (room : Int), v, .int .i64 (-1)] 75 (0, 0))
  row : RowRel 77 3 RFile.cells w0 W v Lo.length Lo
  files : ∀ f ∈ Lo, RFileOk W f ∧ ∀ k, f.val.ownBlock = some k → w0.heap.size ≤ k
  new : w0.heap.size ≤ ro
theorem RNew.no {w0 W W' : World} {ro room : Nat} {v : Value} {Lo : List RFile} (h : RNew w0 W ro room v Lo) (hk : Kp No W W') : RNew w0 W' ro room v Lo :=
  ⟨hk.get h.cell fun x => x, h.row.keep hk, fun f hf => ⟨(h.files f hf).1.keep hk fun _ _ x => x, (h.files f hf).2⟩, h.new⟩
theorem RNew.put {w V W9 : World} {ro room n' : Nat} {v v' : Value} {Lo : List RFile} {f' : RFile} (h : RNew w V ro room v Lo) (hf : RFileOk V f') (hfn : ∀ k, f'.val.ownBlock = some k → w.heap.size ≤ k) (hm : RowRel 77 3 RFile.cells w W9 v' n' (Lo ++ [f'])) (hk : Kp (fun k => v.ownBlock = some k) V W9) :
    RNew w (W9.setCell ⟨ro, 1, none⟩ v') ro room v' (Lo ++ [f']) ∧ W9.cell? ⟨ro, 1, none⟩ = some v ∧ W9.frozen? ⟨ro, 1, none⟩ = false ∧ ro < W9.heap.size := by
  have hrow := h.row.2.1
  have hc9 := hk.get h.cell fun hs => by
    obtain ⟨cur, hcur⟩ := hrow.type ro hs
    exact ne_of_type hcur h.cell (by decide) rfl
  have hs9 : Kp (One ro) W9 (W9.setCell ⟨ro, 1, none⟩ v') := (Kp.refl (One ro) _).setCell (p := ⟨ro, 1, none⟩) (.inl rfl) _
  have hok : ∀ f, RFileOk V f → RFileOk (W9.setCell ⟨ro, 1, none⟩ v') f := fun f hf => by
    have h1 : RFileOk W9 f := hf.keep hk fun k hk1 hk2 => by
      obtain ⟨cur, hcur⟩ := hf.1.type k hk1
      obtain ⟨cur', hcur'⟩ := hrow.type k hk2
      exact ne_of_type hcur hcur' (by decide) rfl
    refine h1.keep hs9 fun k hk1 (e : k = ro) => ?_
    obtain ⟨cur, hcur⟩ := h1.1.type k hk1
    exact ne_of_type hcur hc9 (by decide) e
  obtain ⟨e, h1, h2, h3⟩ := hm
  subst e
  refine ⟨⟨?_, ⟨rfl, h1.keep hs9 fun k hk1 (e : k = ro) => ?_, h2, h3.setCell (p := ⟨ro, 1, none⟩) (.inr h.new) _⟩, fun f hf' => ?_, h.new⟩, by rw [cell_at hc9]; rfl, free_at hc9 _, get_lt hc9⟩
  · have := set_at hc9 1 v'
    simpa using this
  · obtain ⟨cur, hcur⟩ := h1.type k hk1
    exact ne_of_type hcur hc9 (by decide) e
  · rcases List.mem_append.1 hf' with hf' | hf'
    · exact ⟨hok f (h.files f hf').1, (h.files f hf').2⟩
    · obtain rfl := List.mem_singleton.1 hf'
      exact ⟨hok f hf, hfn⟩
set_option maxRecDepth 100000 in
set_option maxHeartbeats 2000000 in
theorem rCopy_any (w : World) (r : Nat) (s : DSt) (G : Nat → Prop) (h : RAt w r s G) :
    Calls Try.prog 25 #[.pointer (some ⟨r, 0, none⟩)] w fun e w' => ∃ ro, e = .returned (.pointer (some ⟨ro, 0, none⟩)) ∧ Kp No w w' ∧ ∃ G', RAt w' ro ⟨s.room, none, s.files⟩ G' ∧ ∀ k, G' k → w.heap.size ≤ k := by
  obtain ⟨rv, L, hR, hp, hGl⟩ := RRun.start h
  obtain ⟨ra, rcap, hrv, hrc, hrd⟩ := hR.c.row.rd
  have HC1 := Lib.hid (show ∀ W, Kp No w W → W.cell? ⟨r, 1, none⟩ = some (.slice ra L.length rcap) ∧ r < W.heap.size from fun W hW => ⟨by rw [cell_at (hW.get hR.c.cell fun x => x), hrv]; rfl, get_lt (hW.get hR.c.cell fun x => x)⟩)
  have c0 := cell_at hR.c.cell 0
  have rl := get_lt hR.c.cell
  simp at c0
  have HRD := Lib.hid hrd
  have HP := Lib.hid hp
  have HR := Lib.hid hR.c
  have hfew := hR.c.few
  have hroom := hR.c.roomy
  obtain ⟨ro, hro⟩ : ∃ ro, ro = w.heap.size := ⟨_, rfl⟩
  obtain ⟨W1, hW1⟩ : ∃ W, W = w.alloc (.cells #[.int .i64 (s.room : Int), .slice none 0 0, .int .i64 (-1)] 75) := ⟨_, rfl⟩
  have k1 : Kp No w W1 := by rw [hW1]; exact (Kp.refl _ _).alloc _
  have HN1 := Lib.hid (show RNew w W1 ro s.room (.slice none 0 0) [] from ⟨by rw [hW1, hro]; exact heap_alloc_new w _, (RowRel.nil _ _ _ w).keep k1, (fun f hf => by cases hf), by omega⟩)
  have HW1 := Lib.hid hW1
  have HRO := Lib.hid hro
  clear hR hp hGl h hrd hrv hW1 k1
  go_enter Try.func25, Try.ntmps25
  go_upto_region 2 with fail
  rw [← HW1.out, ← hro]
  clear HW1 hro c0 rl
  go_wp2_with fail
  go_loopw [4, 5] (fun s4 s5 wr => ∃ (i : Nat) (a : Option Addr) (c : Nat) (Lo : List RFile), i ≤ L.length ∧ s4 = .int .i64 (i : Int) ∧ Hid (Lo.length = i) ∧ Hid (absR Lo = absR (L.take i)) ∧ Hid (RNew w wr ro s.room (.slice a i c) Lo)) (fun s4 _ _ => L.length - (intOf s4).toNat)
  case atStart => exact ⟨0, none, 0, [], Nat.zero_le _, rfl, Lib.hid rfl, Lib.hid rfl, HN1⟩
  case round =>
    obtain ⟨i, ao, co, Lo, hi, rfl, HLO, HAB, HN⟩ := hrel
    have HKP := Lib.hid HN.out.row.2.2.2
    obtain ⟨c1, rl⟩ := HC1.out _ HKP.out
    by_cases hlt : i < L.length
    · obtain ⟨g, off, rfl, l0⟩ := rd_chunk (f := RFile.cells) (c := 3) RFile.cells_len (by decide) HRD.out hlt
      have HTK := Lib.hid (List.take_succ_eq_append_getElem hlt)
      have hF0 := HR.out.files _ (List.getElem_mem hlt)
      obtain ⟨f, hf⟩ : ∃ f, f = L[i] := ⟨_, rfl⟩
      rw [← hf] at l0 HTK hF0
      have d0 := l0 wr HKP.out 0 _ rfl
      have d1 := l0 wr HKP.out 1 _ rfl
      have d2 := l0 wr HKP.out 2 _ rfl
      rw [Nat.add_zero] at d0
      have gl : g < wr.heap.size := World.block_lt_of_cell? wr _ d0
      have hFr := hF0.keep HKP.out fun _ _ x => x
      obtain ⟨m, hm⟩ : ∃ m, m = f.data.length := ⟨_, rfl⟩
      have hmm : m ≤ 1073741824 := by
        have h1 := HR.out.fits
        have h2 := totF_take L hlt
        have h3 := totF_le L (i + 1)
        rw [← hf] at h2
        omega
      rw [← hm] at d1
      have HMm := Lib.hid hm
      obtain ⟨b0, hb0⟩ : ∃ b0, b0 = wr.heap.size := ⟨_, rfl⟩
      obtain ⟨W4, hW4⟩ : ∃ W, W = wr.alloc (.cells #[.string f.name, .slice f.a m f.cap, .int .i64 (f.lasts : Int)] 77) := ⟨_, rfl⟩
      have k4 : Kp No wr W4 := by rw [hW4]; exact (Kp.refl _ _).alloc _
      have b4 : W4.heap[b0]? = some (.cells #[.string f.name, .slice f.a m f.cap, .int .i64 (f.lasts : Int)] 77 (0, 0)) := by rw [hW4, hb0]; exact heap_alloc_new wr _
      obtain ⟨a7, c7, W6, hrun, ho7, hk7, hb7⟩ := cpy_bytes W4 f.data f.a f.cap ((hFr.1.rd').kp k4) (by omega)
      rw [← hm] at hrun
      have k6 : Kp No wr W6 := k4.trans_same hk7
      have b6 := hk7.get b4 fun x => x
      obtain ⟨W7, hW7⟩ : ∃ W, W = W6.setCell ⟨b0, 1, none⟩ (.slice a7 m c7) := ⟨_, rfl⟩
      have k7 : Kp No wr W7 := by rw [hW7]; exact k6.setCell (p := ⟨b0, 1, none⟩) (.inr (by rw [hb0]; exact Nat.le_refl _)) _
      have b7 : W7.heap[b0]? = some (.cells #[.string f.name, .slice a7 m c7, .int .i64 (f.lasts : Int)] 77 (0, 0)) := by
        rw [hW7]
        have := set_at b6 1 (.slice a7 m c7)
        simpa using this
      have ho9 : Own W7 5 1 (.slice a7 m c7) m (u8s f.data) := by
        rw [hW7, hm]
        refine ho7.keep ((Kp.refl (One b0) W6).setCell (p := ⟨b0, 1, none⟩) (.inl rfl) _) fun k hk (e : k = b0) => ?_
        obtain ⟨cur, hcur⟩ := ho7.type k hk
        exact ne_of_type hcur b6 (by decide) e
      have g1 : W4.cell? ⟨b0, 1, none⟩ = some (.slice f.a m f.cap) := by rw [cell_at b4]; rfl
      have g6 : W6.cell? ⟨b0, 1, none⟩ = some (.slice f.a m f.cap) := by rw [cell_at b6]; rfl
      have f6 : W6.frozen? ⟨b0, 1, none⟩ = false := free_at b6 _
      have bl4 : b0 < W4.heap.size := get_lt b4
      have bl6 : b0 < W6.heap.size := get_lt b6
      have HX := Lib.hid hrun
      have HK7 := Lib.hid k7
      have HB7 := Lib.hid b7
      have HO9 := Lib.hid ho9
      have HN7 := Lib.hid (HN.out.no k7)
      have HNB := Lib.hid (show ∀ k, (Value.slice a7 m c7).ownBlock = some k → w.heap.size ≤ k from fun k hk => by
        have h1 := hb7 k (by rw [← hm]; exact hk)
        have h2 := HKP.out.size
        have h3 := k4.size
        omega)
      have HW4 := Lib.hid hW4
      have HW7 := Lib.hid hW7
      have HB0 := Lib.hid hb0
      clear l0 hf hF0 hFr hm hrun ho7 hk7 hb7 k4 k6 k7 b4 b6 b7 ho9 hW4 hW7
      go_upto_region 6 with fail
      rw [← HW4.out, ← hb0]
      clear hb0 d0 d1 d2 c1 rl gl
      go_upto_region 7 with (at_builtin; refine wpList_append_run rfl rfl rfl rfl HX.out ?_)
      rw [← HW7.out]
      clear HX g1 g6 f6 bl4 bl6 HW4 HW7
      have HQ := Lib.hid (show ∀ k, (Value.slice ao i co).ownBlock = some k → k < b0 from fun k hk => by rw [HB0.out]; exact HN.out.row.2.1.lt k hk)
      have HRT := Lib.hid (show ∀ k, (Value.slice ao i co).ownBlock = some k → k ≠ ro from fun k hk e => by
        obtain ⟨cur, hcur⟩ := HN7.out.row.2.1.type k hk
        exact ne_of_type hcur HN7.out.cell (by decide) e)
      have q1 : ∀ W, Kp (fun k => (Value.slice ao i co).ownBlock = some k) W7 W → W.cell? ⟨ro, 1, none⟩ = some (.slice ao i co) := fun W hW => by
        rw [cell_at (hW.get HN7.out.cell fun hs => HRT.out ro hs rfl)]
        rfl
      have R5 : Hid (∀ W, Kp (fun k => (Value.slice ao i co).ownBlock = some k) W7 W → W.rangeAt b0 0 [.string f.name, .slice a7 m c7, .int .i64 (f.lasts : Int)]) := Lib.hid fun W hW => rangeAt_block (hW.get HB7.out fun hs => by have := HQ.out b0 hs; omega) 0 3
      refine wp_region_last (Kp (fun k => (Value.slice ao i co).ownBlock = some k) W7) [0,0,0,0,0,0,2,2,0,0,2] [0,1,2,3,4,5,6,7,8,9] 10 (by kernel_rfl) (by kernel_rfl) (fun _ n h => h.drewN n) (Kp.refl _ _) ?_
      repeat (first
        | (apply wpOrd_skip rfl (by decide) rfl; (focus (go_simp; rfl)))
        | (apply wpOrd_pure rfl rfl rfl; (focus (intro _ _; go_simp; (try go_ints); rfl)); (focus (go_simp; rfl)))
        | (apply wpOrd_read rfl rfl rfl; (focus (intro _; go_simp; (try go_ints); rfl)); (focus (go_simp; rfl))))
      refine wpOrd_pure rfl rfl rfl (v := .agg #[.string f.name, .slice a7 m c7, .int .i64 (f.lasts : Int)]) (fun W0 hW => exec_load_w 77 _ rfl b0 0 rfl _ _ (R5.out W0 hW) Try.underlying77 rfl (by kernel_rfl)) rfl ?_
      refine wpOrd_eff rfl rfl (fun n1 => ?_)
      go_wp2_with fail
      obtain ⟨W8, hW8⟩ : ∃ W, W = (W7.drewN n1).alloc (.cells #[.string f.name, .slice a7 m c7, .int .i64 (f.lasts : Int)] 77) := ⟨_, rfl⟩
      have k8 : Kp No W7 W8 := by rw [hW8]; exact ((Kp.refl _ _).drewN _).alloc _
      have b8 : W8.heap[W7.heap.size]? = some (.cells #[.string f.name, .slice a7 m c7, .int .i64 (f.lasts : Int)] 77 (0, 0)) := by rw [hW8]; exact heap_alloc_new (W7.drewN n1) _
      rw [← hW8]
      clear hW8
      refine ⟨Kp.of_no k8, ?_⟩
      refine wpOrd_eff rfl rfl (fun n2 => ?_)
      obtain ⟨a9, c9, W9, hrun, hm9, hk9⟩ := ((HN7.out.row).keep (k8.drewN n2)).app Try.underlying73 infoRFile RFile.cells_one [(⟨f.name, a7, c7, f.data, f.lasts⟩ : RFile)] (one_src RFile.cells_len (show (W8.drewN n2).heap[W7.heap.size]? = _ from b8) (by show [_, _, _] = [_, _, _]; rw [← HMm.out])) rfl (by have := HLO.out; unfold maxLen; omega) (by have := HLO.out; omega)
      rw [HLO.out] at hrun hm9
      have HX9 := Lib.hid hrun
      have k9 : Kp (fun k => (Value.slice ao i co).ownBlock = some k) W7 W9 := (Kp.of_no (k8.drewN n2)).trans_same hk9
      clear hrun hk9
      refine wpList_append_run rfl rfl rfl rfl HX9.out (wpList_nil ⟨rfl, k9, ?_⟩)
      clear HX9 q1
      repeat (first
        | (apply wpOrd_skip rfl (by decide) rfl; (focus (go_simp; rfl)))
        | (apply wpOrd_pure rfl rfl rfl; (focus (intro _ _; go_simp; (try go_ints); rfl)); (focus (go_simp; rfl)))
        | (apply wpOrd_read rfl rfl rfl; (focus (intro _; go_simp; (try go_ints); rfl)); (focus (go_simp; rfl))))
      refine last_now (fun n4 => ?_)
      refine wpOrd_eff rfl rfl (fun n5 => ?_)
      obtain ⟨Wa, hWa⟩ : ∃ W, W = (W9.drewN n4).drewN n5 := ⟨_, rfl⟩
      have hma : RowRel 77 3 RFile.cells w Wa (.slice a9 (i + 1) c9) (i + 1) (Lo ++ [⟨f.name, a7, c7, f.data, f.lasts⟩]) := by rw [hWa]; exact hm9.keep (((Kp.refl _ _).drewN n4).drewN n5)
      have ka : Kp (fun k => (Value.slice ao i co).ownBlock = some k) W7 Wa := by rw [hWa]; exact (k9.drewN n4).drewN n5
      rw [← hWa]
      obtain ⟨hR9, ec, fc, rc⟩ := HN7.out.put (f' := ⟨f.name, a7, c7, f.data, f.lasts⟩) ⟨by have := HO9.out; rw [HMm.out] at this; exact this, (HR.out.files f (by have h1 := HTK.out; exact List.mem_of_mem_take (i := i + 1) (by rw [h1]; simp))).2⟩ (fun k hk => HNB.out k (by rw [HMm.out]; exact hk)) hma ka
      clear hWa hma ka k9 k8 b8 hm9
      go_wp2_with fail
      intro nr
      have HN9 := Lib.hid (hR9.no ((Kp.refl No _).drewN nr))
      clear hR9 ec fc rc
      go_wp2_with fail
      go_roundw
      case rel =>
        refine ⟨i + 1, a9, c9, Lo ++ [⟨f.name, a7, c7, f.data, f.lasts⟩], by omega, by go_num, Lib.hid (by rw [List.length_append, HLO.out]; rfl), Lib.hid ?_, HN9⟩
        rw [absR_append, HAB.out, HTK.out, absR_append]
        rfl
      case measure => simp [intOf]; omega
    · obtain rfl : i = L.length := by omega
      have hab := HAB.out
      rw [List.take_length] at hab
      have HABL := Lib.hid hab
      have HSO := Lib.hid (show SortedR Lo by
        have h1 : (absR Lo).map (·.1) = (absR L).map (·.1) := by rw [hab]
        rw [keys_absR, keys_absR] at h1
        have h2 : (L.map (·.name)).Pairwise NLt := List.pairwise_map.2 (show L.Pairwise fun a b => NLt a.name b.name from HR.out.sorted)
        rw [← h1] at h2
        exact List.pairwise_map.1 h2)
      clear hab hlt
      go_wp2_with fail
      go_ret
      have hN := HN.out
      refine ⟨ro, rfl, hN.row.2.2.2, RFP ro _ Lo, ⟨_, Lo, ⟨hN.cell, ?_, fun f hf => (hN.files f hf).1, HSO.out, ?_, hroom, ?_, by simp [leftOf], by simp [leftOf]⟩, by rw [HABL.out]; exact HP.out, fun _ x => x, ?_⟩, ?_⟩
      · exact hN.row.2.1
      · rw [HABL.out]; exact HR.out.fits
      · rw [HLO.out]; exact hfew
      · rintro k (rfl | hk | ⟨f, hf, hk⟩)
        · exact get_lt hN.cell
        · exact hN.row.2.1.lt k hk
        · exact (hN.files f hf).1.1.lt k hk
      · rintro k (rfl | hk | ⟨f, hf, hk⟩)
        · exact hN.new
        · exact hN.row.2.2.1 k hk
        · exact (hN.files f hf).2 k hk
end Go.Proofs.Ytenidddbjobblaa
