/-
  The reference's disk: remove, Remove.
-/
import Derived.Test.YtenidddbjobblaaRWalk
import Derived.Test.YtenidddbjobblaaDiskMove
namespace Go.Proofs.Ytenidddbjobblaa
open Go.RowKit Go.Mer

def rdel (L : List RFile) (k : ByteArray) : List RFile := L.filter fun f => decide (f.name ≠ k)
theorem rdel_abs (L : List RFile) (k : ByteArray) : absR (rdel L k) = gdel (absR L) k := by
  unfold rdel absR gdel
  rw [List.filter_map]
  rfl
theorem rdel_no {L1 L2 : List RFile} {k : ByteArray} (h1 : ∀ f ∈ L1, NLt f.name k) (h2 : ∀ f ∈ L2, NLt k f.name) : rdel (L1 ++ L2) k = L1 ++ L2 := by
  refine List.filter_eq_self.2 fun f hf => ?_
  simp only [decide_eq_true_eq]
  rintro rfl
  rcases List.mem_append.1 hf with hf | hf
  · exact nlt_irr _ (h1 f hf)
  · exact nlt_irr _ (h2 f hf)
theorem rdel_is {L1 L2 : List RFile} {f : RFile} (hs : SortedR (L1 ++ f :: L2)) : rdel (L1 ++ f :: L2) f.name = L1 ++ L2 := by
  have hs1 := hs
  unfold SortedR at hs1
  rw [List.pairwise_append, List.pairwise_cons] at hs1
  unfold rdel
  rw [List.filter_append, List.filter_cons]
  simp only [ne_eq, not_true_eq_false, decide_false, Bool.false_eq_true, if_false]
  rw [List.filter_eq_self.2 fun g hg => ?_, List.filter_eq_self.2 fun g hg => ?_]
  · simp only [decide_eq_true_eq]
    intro e
    have := hs1.2.1.1 g hg
    rw [e] at this
    exact nlt_irr _ this
  · simp only [decide_eq_true_eq]
    intro e
    have := hs1.2.2 g hg f (List.mem_cons_self ..)
    rw [e] at this
    exact nlt_irr _ this
set_option maxRecDepth 100000 in
set_option maxHeartbeats 2000000 in
theorem rrem_any (w V : World) (r room : Nat) (left : Int) (rv : Value) (L : List RFile) (G : Nat → Prop) (h : RRun w V r room left rv L G) (name : ByteArray) :
    Calls Try.prog 57 #[.pointer (some ⟨r, 0, none⟩), .string name] V fun e V' => e = .returned (.tuple #[]) ∧ (∃ rv', RRun w V' r room left rv' (rdel L name) G) ∧ Kp (One r) V V' := by
  have HR2 := Lib.hid h
  have hs := rspot_any V r room left rv L h.c name
  have HSP := Lib.hid hs
  clear hs h
  go_enter Try.func57, Try.ntmps57
  go_wp2_with fail
  refine HSP.out.mono ?_
  rintro e w3 ⟨i, b, rfl, hsp, hk3⟩
  have HR3 := Lib.hid (HR2.out.no hk3)
  have HK3 := Lib.hid hk3
  clear hk3 HSP HR2
  cases hsp with
  | no L1 L2 hL h1 h2 =>
    have HDEL := Lib.hid (show rdel L name = L by rw [hL]; exact rdel_no h1 h2)
    clear hL h1 h2
    go_wp2_with fail
    go_end0
    refine ⟨rfl, ⟨rv, ?_⟩, Kp.of_no HK3.out⟩
    rw [HDEL.out]
    exact HR3.out
  | is L1 f L2 hL hk =>
    subst hL
    have HDEL := Lib.hid (show rdel (L1 ++ f :: L2) name = L1 ++ L2 by rw [← hk]; exact rdel_is HR3.out.c.sorted)
    have HFIT := Lib.hid (show totF (absR (L1 ++ L2)) ≤ room by have := HR3.out.c.fits; rw [totF_mid] at this; omega)
    have HFEW := Lib.hid (show (L1 ++ L2).length ≤ 4096 by have := HR3.out.c.few; simp at this ⊢; omega)
    obtain ⟨ra, rcap0, _, _, hrd⟩ := HR3.out.c.row.rd
    obtain ⟨g, off, rcap, n, hn, hlt, hcap, hgr, hrv, hcells⟩ := HR3.out.c.at_
    have hrd2 : Rd w3 w3.heap.size (some ⟨g, off, none⟩) ((L1 ++ f :: L2).flatMap RFile.cells) := by
      have := HR3.out.c.row
      rw [hrv] at this
      exact this.rd'
    have HRD := Lib.hid hrd2
    have q1 : ∀ W, Kp No w3 W → W.cell? ⟨r, 1, none⟩ = some (.slice (some ⟨g, off, none⟩) n rcap) := fun W hW => (hcells W hW).c1
    have rl := (hcells w3 (Kp.refl _ _)).rl
    obtain ⟨i, hi⟩ : ∃ i, i = L1.length := ⟨_, rfl⟩
    rw [← hi] at hlt ⊢
    have HI := Lib.hid hi
    have hn4 : n ≤ 4096 := by rw [hn]; exact HR3.out.c.few
    have HTK := Lib.hid (show ((L1 ++ f :: L2).flatMap RFile.cells).take (i * 3) = L1.flatMap RFile.cells by rw [chunk_take RFile.cells 3 RFile.cells_len, hi]; simp)
    have hdr : ((L1 ++ f :: L2).flatMap RFile.cells).drop ((i + 1) * 3) = L2.flatMap RFile.cells := by
      rw [chunk_drop RFile.cells 3 RFile.cells_len, hi]
      simp
    obtain ⟨j, hj⟩ : ∃ j, j = i + 1 := ⟨_, rfl⟩
    rw [← hj] at hdr
    have hL2 : L2.length = n - j := by rw [hn, hj, hi]; simp; omega
    have hji : (i : Int) + 1 = (j : Int) := by omega
    have hjn : j ≤ n := by omega
    have hjc : j ≤ rcap := by omega
    have hic : i ≤ rcap := by omega
    have hib : i ≤ 4096 := by omega
    have HDR := Lib.hid hdr
    have HHJ := Lib.hid hj
    have HRV := Lib.hid hrv
    clear hk hrd hrd2 hn hcells hi hdr hj hrv
    rcases Nat.lt_or_ge j n with hlt2 | hge
    · have hjc2 : j < rcap := by omega
      have HL2n := Lib.hid hL2
      have HSRC := Lib.hid (show ∀ W, Kp No w3 W → Src W 3 (.slice (some ⟨g, off + j * 3, none⟩) (n - j) (rcap - j)) (n - j) (L2.flatMap RFile.cells) from fun W hW => by
        have hd := (HRD.out.kp hW).drop (j * 3)
        rw [HDR.out] at hd
        have hsrc := rows_src RFile.cells_len (c := rcap - j) hd
        rw [HL2n.out] at hsrc
        simp only [Option.map_some, add_lit'] at hsrc
        exact hsrc)
      clear hL2
      go_wp2_with fail
      refine wp_region_last (Kp No w3) [0,2,0,0,0,0,0,0,2,0,0,0,0,0,0,0,2,0,0,2] [0,2,3,4,5,6,7,9,10,11,12,13,14,15,1,8,16,17,18] 19 (by kernel_rfl) (by kernel_rfl) (fun _ n h => h.drewN n) (Kp.refl _ _) ?_
      repeat (first
        | (apply wpOrd_skip rfl (by decide) rfl; (focus (go_simp; rfl)))
        | (apply wpOrd_pure rfl rfl rfl; (focus (intro _ _; go_simp; (try go_ints); rfl)); (focus (go_simp; rfl)))
        | (apply wpOrd_read rfl rfl rfl; (focus (intro _; go_simp; (try go_ints); rfl)); (focus (go_simp; rfl))))
      refine wpOrd_eff rfl rfl (fun n1 => ?_)
      go_wp2_with fail
      obtain ⟨W5, hW5⟩ : ∃ W, W = (w3.drewN n1).alloc (.cells #[] 77) := ⟨_, rfl⟩
      have k5 : Kp No w3 W5 := by rw [hW5]; exact ((Kp.refl _ _).drewN _).alloc _
      have rr5 : RowRel 77 3 RFile.cells w3 W5 (.slice (some ⟨w3.heap.size, 0, none⟩) 0 0) 0 [] := by rw [hW5]; exact RowRel.made (W := w3.drewN n1) ((Kp.refl _ _).drewN _)
      rw [← hW5]
      clear hW5
      refine ⟨k5, ?_⟩
      refine wpOrd_eff rfl rfl (fun n2 => ?_)
      have hrd5 := (HRD.out.kp (k5.drewN n2)).take (i * 3)
      rw [HTK.out] at hrd5
      have hiL := HI.out
      obtain ⟨a6, c6, W6, hrun, hm, _⟩ := (rr5.keep ((Kp.refl _ _).drewN n2)).app Try.underlying73 infoRFile RFile.cells_one L1 (rows_src RFile.cells_len (c := rcap) hrd5) rfl (by unfold maxLen; omega) (by omega)
      simp only [Nat.zero_add, List.nil_append] at hrun hm
      rw [← HI.out] at hrun hm
      have HX6 := Lib.hid hrun
      have k6 := hm.2.2.2
      clear hrun rr5 hrd5 hiL
      refine wpList_append_run rfl rfl rfl rfl HX6.out (wpList_nil ⟨rfl, k6, ?_⟩)
      clear HX6
      refine wpOrd_eff rfl rfl (fun n3 => ?_)
      have hsrc := HSRC.out (W6.drewN n3) (k6.drewN n3)
      obtain ⟨a7, c7, W7, hrun, hm7, _⟩ := (hm.keep ((Kp.refl _ _).drewN n3)).app Try.underlying73 infoRFile RFile.cells_one L2 hsrc HL2n.out.symm (by unfold maxLen; omega) (by omega)
      have HX7 := Lib.hid hrun
      have k7 := hm7.2.2.2
      obtain ⟨N, hN⟩ : ∃ N, N = i + (n - j) := ⟨_, rfl⟩
      rw [← hN] at hm7 HX7
      clear hrun hsrc hm q1 hN
      refine wpList_append_run rfl rfl rfl rfl HX7.out (wpList_nil ⟨rfl, k7, ?_⟩)
      clear HX7
      repeat (first
        | (apply wpOrd_skip rfl (by decide) rfl; (focus (go_simp; rfl)))
        | (apply wpOrd_pure rfl rfl rfl; (focus (intro _ _; go_simp; (try go_ints); rfl)); (focus (go_simp; rfl)))
        | (apply wpOrd_read rfl rfl rfl; (focus (intro _; go_simp; (try go_ints); rfl)); (focus (go_simp; rfl))))
      refine last_now (fun n4 => ?_)
      refine wpOrd_eff rfl rfl (fun n5 => ?_)
      obtain ⟨W9, hW9⟩ : ∃ W, W = (W7.drewN n4).drewN n5 := ⟨_, rfl⟩
      have hm9 : RowRel 77 3 RFile.cells w3 W9 (.slice a7 N c7) N (L1 ++ L2) := by rw [hW9]; exact hm7.keep (((Kp.refl _ _).drewN n4).drewN n5)
      rw [← hW9]
      obtain ⟨hR9, ec, fc, rc⟩ := HR3.out.laid hm9 (fun f hf => .inl (by
        rcases List.mem_append.1 hf with hf | hf
        · exact List.mem_append_left _ hf
        · exact List.mem_append_right _ (List.mem_cons_of_mem _ hf))) (sorted_del HR3.out.c.sorted) HFIT.out HFEW.out
      have k9 := hm9.2.2.2
      clear hW9 hm9 hm7
      go_wp2_with fail
      intro nq
      have HRn := Lib.hid (hR9.no ((Kp.refl No _).drewN nq))
      have HKK := Lib.hid (((Kp.of_no (S := One r) (HK3.out.trans_same k9)).trans_same ((Kp.refl (One r) W9).setCell (p := ⟨r, 1, none⟩) (.inl rfl) (.slice a7 N c7))).drewN nq)
      clear hR9 ec fc rc
      go_wp2_with fail
      go_end0
      refine ⟨rfl, ⟨.slice a7 N c7, ?_⟩, HKK.out⟩
      rw [HDEL.out]
      exact HRn.out
    · obtain rfl : j = n := by omega
      have hl2 : L2 = [] := List.eq_nil_of_length_eq_zero (by omega)
      subst hl2
      have HL2n := Lib.hid (show ([] : List RFile).length = 0 from rfl)
      clear hL2
      by_cases hcc : j = rcap
      · subst hcc
        have HSRC := Lib.hid (show ∀ W, Kp No w3 W → Src W 3 (.slice (some ⟨g, off, none⟩) 0 0) 0 (([] : List RFile).flatMap RFile.cells) from fun W hW => nil_src _ _)
        clear hcap hjn hjc hge
        go_wp2_with fail
        refine wp_region_last (Kp No w3) [0,2,0,0,0,0,0,0,2,0,0,0,0,0,0,0,2,0,0,2] [0,2,3,4,5,6,7,9,10,11,12,13,14,15,1,8,16,17,18] 19 (by kernel_rfl) (by kernel_rfl) (fun _ n h => h.drewN n) (Kp.refl _ _) ?_
        repeat (first
          | (apply wpOrd_skip rfl (by decide) rfl; (focus (go_simp; rfl)))
          | (apply wpOrd_pure rfl rfl rfl; (focus (intro _ _; go_simp; (try go_ints); rfl)); (focus (go_simp; rfl)))
          | (apply wpOrd_read rfl rfl rfl; (focus (intro _; go_simp; (try go_ints); rfl)); (focus (go_simp; rfl))))
        refine wpOrd_eff rfl rfl (fun n1 => ?_)
        go_wp2_with fail
        obtain ⟨W5, hW5⟩ : ∃ W, W = (w3.drewN n1).alloc (.cells #[] 77) := ⟨_, rfl⟩
        have k5 : Kp No w3 W5 := by rw [hW5]; exact ((Kp.refl _ _).drewN _).alloc _
        have rr5 : RowRel 77 3 RFile.cells w3 W5 (.slice (some ⟨w3.heap.size, 0, none⟩) 0 0) 0 [] := by rw [hW5]; exact RowRel.made (W := w3.drewN n1) ((Kp.refl _ _).drewN _)
        rw [← hW5]
        clear hW5
        refine ⟨k5, ?_⟩
        refine wpOrd_eff rfl rfl (fun n2 => ?_)
        have hrd5 := (HRD.out.kp (k5.drewN n2)).take (i * 3)
        rw [HTK.out] at hrd5
        have hiL := HI.out
        obtain ⟨a6, c6, W6, hrun, hm, _⟩ := (rr5.keep ((Kp.refl _ _).drewN n2)).app Try.underlying73 infoRFile RFile.cells_one L1 (rows_src RFile.cells_len (c := j) hrd5) rfl (by unfold maxLen; omega) (by omega)
        simp only [Nat.zero_add, List.nil_append] at hrun hm
        rw [← HI.out] at hrun hm
        have HX6 := Lib.hid hrun
        have k6 := hm.2.2.2
        clear hrun rr5 hrd5 hiL
        refine wpList_append_run rfl rfl rfl rfl HX6.out (wpList_nil ⟨rfl, k6, ?_⟩)
        clear HX6
        refine wpOrd_eff rfl rfl (fun n3 => ?_)
        have hsrc := HSRC.out (W6.drewN n3) (k6.drewN n3)
        obtain ⟨a7, c7, W7, hrun, hm7, _⟩ := (hm.keep ((Kp.refl _ _).drewN n3)).app Try.underlying73 infoRFile RFile.cells_one [] hsrc HL2n.out.symm (by unfold maxLen; omega) (by omega)
        have HX7 := Lib.hid hrun
        have k7 := hm7.2.2.2
        obtain ⟨N, hN⟩ : ∃ N, N = i + 0 := ⟨_, rfl⟩
        rw [← hN] at hm7 HX7
        clear hrun hsrc hm q1 hN
        refine wpList_append_run rfl rfl rfl rfl HX7.out (wpList_nil ⟨rfl, k7, ?_⟩)
        clear HX7
        repeat (first
          | (apply wpOrd_skip rfl (by decide) rfl; (focus (go_simp; rfl)))
          | (apply wpOrd_pure rfl rfl rfl; (focus (intro _ _; go_simp; (try go_ints); rfl)); (focus (go_simp; rfl)))
          | (apply wpOrd_read rfl rfl rfl; (focus (intro _; go_simp; (try go_ints); rfl)); (focus (go_simp; rfl))))
        refine last_now (fun n4 => ?_)
        refine wpOrd_eff rfl rfl (fun n5 => ?_)
        obtain ⟨W9, hW9⟩ : ∃ W, W = (W7.drewN n4).drewN n5 := ⟨_, rfl⟩
        have hm9 : RowRel 77 3 RFile.cells w3 W9 (.slice a7 N c7) N (L1 ++ []) := by rw [hW9]; exact hm7.keep (((Kp.refl _ _).drewN n4).drewN n5)
        rw [← hW9]
        obtain ⟨hR9, ec, fc, rc⟩ := HR3.out.laid hm9 (fun f hf => .inl (by
          rcases List.mem_append.1 hf with hf | hf
          · exact List.mem_append_left _ hf
          · exact List.mem_append_right _ (List.mem_cons_of_mem _ hf))) (sorted_del HR3.out.c.sorted) HFIT.out HFEW.out
        have k9 := hm9.2.2.2
        clear hW9 hm9 hm7
        go_wp2_with fail
        intro nq
        have HRn := Lib.hid (hR9.no ((Kp.refl No _).drewN nq))
        have HKK := Lib.hid (((Kp.of_no (S := One r) (HK3.out.trans_same k9)).trans_same ((Kp.refl (One r) W9).setCell (p := ⟨r, 1, none⟩) (.inl rfl) (.slice a7 N c7))).drewN nq)
        clear hR9 ec fc rc
        go_wp2_with fail
        go_end0
        refine ⟨rfl, ⟨.slice a7 N c7, ?_⟩, HKK.out⟩
        rw [HDEL.out]
        exact HRn.out
      · have hjc2 : j < rcap := by omega
        have HSRC := Lib.hid (show ∀ W, Kp No w3 W → Src W 3 (.slice (some ⟨g, off + j * 3, none⟩) 0 (rcap - j)) 0 (([] : List RFile).flatMap RFile.cells) from fun W hW => nil_src _ _)
        go_wp2_with fail
        refine wp_region_last (Kp No w3) [0,2,0,0,0,0,0,0,2,0,0,0,0,0,0,0,2,0,0,2] [0,2,3,4,5,6,7,9,10,11,12,13,14,15,1,8,16,17,18] 19 (by kernel_rfl) (by kernel_rfl) (fun _ n h => h.drewN n) (Kp.refl _ _) ?_
        repeat (first
          | (apply wpOrd_skip rfl (by decide) rfl; (focus (go_simp; rfl)))
          | (apply wpOrd_pure rfl rfl rfl; (focus (intro _ _; go_simp; (try go_ints); rfl)); (focus (go_simp; rfl)))
          | (apply wpOrd_read rfl rfl rfl; (focus (intro _; go_simp; (try go_ints); rfl)); (focus (go_simp; rfl))))
        refine wpOrd_eff rfl rfl (fun n1 => ?_)
        go_wp2_with fail
        obtain ⟨W5, hW5⟩ : ∃ W, W = (w3.drewN n1).alloc (.cells #[] 77) := ⟨_, rfl⟩
        have k5 : Kp No w3 W5 := by rw [hW5]; exact ((Kp.refl _ _).drewN _).alloc _
        have rr5 : RowRel 77 3 RFile.cells w3 W5 (.slice (some ⟨w3.heap.size, 0, none⟩) 0 0) 0 [] := by rw [hW5]; exact RowRel.made (W := w3.drewN n1) ((Kp.refl _ _).drewN _)
        rw [← hW5]
        clear hW5
        refine ⟨k5, ?_⟩
        refine wpOrd_eff rfl rfl (fun n2 => ?_)
        have hrd5 := (HRD.out.kp (k5.drewN n2)).take (i * 3)
        rw [HTK.out] at hrd5
        have hiL := HI.out
        obtain ⟨a6, c6, W6, hrun, hm, _⟩ := (rr5.keep ((Kp.refl _ _).drewN n2)).app Try.underlying73 infoRFile RFile.cells_one L1 (rows_src RFile.cells_len (c := rcap) hrd5) rfl (by unfold maxLen; omega) (by omega)
        simp only [Nat.zero_add, List.nil_append] at hrun hm
        rw [← HI.out] at hrun hm
        have HX6 := Lib.hid hrun
        have k6 := hm.2.2.2
        clear hrun rr5 hrd5 hiL
        refine wpList_append_run rfl rfl rfl rfl HX6.out (wpList_nil ⟨rfl, k6, ?_⟩)
        clear HX6
        refine wpOrd_eff rfl rfl (fun n3 => ?_)
        have hsrc := HSRC.out (W6.drewN n3) (k6.drewN n3)
        obtain ⟨a7, c7, W7, hrun, hm7, _⟩ := (hm.keep ((Kp.refl _ _).drewN n3)).app Try.underlying73 infoRFile RFile.cells_one [] hsrc HL2n.out.symm (by unfold maxLen; omega) (by omega)
        have HX7 := Lib.hid hrun
        have k7 := hm7.2.2.2
        obtain ⟨N, hN⟩ : ∃ N, N = i + 0 := ⟨_, rfl⟩
        rw [← hN] at hm7 HX7
        clear hrun hsrc hm q1 hN
        refine wpList_append_run rfl rfl rfl rfl HX7.out (wpList_nil ⟨rfl, k7, ?_⟩)
        clear HX7
        repeat (first
          | (apply wpOrd_skip rfl (by decide) rfl; (focus (go_simp; rfl)))
          | (apply wpOrd_pure rfl rfl rfl; (focus (intro _ _; go_simp; (try go_ints); rfl)); (focus (go_simp; rfl)))
          | (apply wpOrd_read rfl rfl rfl; (focus (intro _; go_simp; (try go_ints); rfl)); (focus (go_simp; rfl))))
        refine last_now (fun n4 => ?_)
        refine wpOrd_eff rfl rfl (fun n5 => ?_)
        obtain ⟨W9, hW9⟩ : ∃ W, W = (W7.drewN n4).drewN n5 := ⟨_, rfl⟩
        have hm9 : RowRel 77 3 RFile.cells w3 W9 (.slice a7 N c7) N (L1 ++ []) := by rw [hW9]; exact hm7.keep (((Kp.refl _ _).drewN n4).drewN n5)
        rw [← hW9]
        obtain ⟨hR9, ec, fc, rc⟩ := HR3.out.laid hm9 (fun f hf => .inl (by
          rcases List.mem_append.1 hf with hf | hf
          · exact List.mem_append_left _ hf
          · exact List.mem_append_right _ (List.mem_cons_of_mem _ hf))) (sorted_del HR3.out.c.sorted) HFIT.out HFEW.out
        have k9 := hm9.2.2.2
        clear hW9 hm9 hm7
        go_wp2_with fail
        intro nq
        have HRn := Lib.hid (hR9.no ((Kp.refl No _).drewN nq))
        have HKK := Lib.hid (((Kp.of_no (S := One r) (HK3.out.trans_same k9)).trans_same ((Kp.refl (One r) W9).setCell (p := ⟨r, 1, none⟩) (.inl rfl) (.slice a7 N c7))).drewN nq)
        clear hR9 ec fc rc
        go_wp2_with fail
        go_end0
        refine ⟨rfl, ⟨.slice a7 N c7, ?_⟩, HKK.out⟩
        rw [HDEL.out]
        exact HRn.out
set_option maxRecDepth 100000 in
set_option maxHeartbeats 1000000 in
theorem rRemove_any (w : World) (r : Nat) (s : DSt) (G : Nat → Prop) (h : RAt w r s G) (name : ByteArray) :
    Calls Try.prog 44 #[.pointer (some ⟨r, 0, none⟩), .string name] w (SaidR w r G (rmS s name)) := by
  obtain ⟨rv, L, hR, hp, hGl⟩ := RRun.start h
  obtain ⟨W1, hW1⟩ : ∃ W, W = w.alloc (.cells #[.string name] 9) := ⟨_, rfl⟩
  have k1 : Kp No w W1 := by rw [hW1]; exact (Kp.refl _ _).alloc _
  have hR1 := hR.no k1
  have hm := rmay_any W1 r s.room (leftOf s.fuse) rv L hR1.c (some ⟨w.heap.size, 0, none⟩) 1 [name] (by rw [hW1]; exact name_rd w name) (by simp)
  rw [show (if leftOf s.fuse = 0 then (9 : Int) else if ([name] : List ByteArray).all nameOk = true then 0 else 1) = mayQ s.fuse [name] from rfl] at hm
  have hq := mayQ_cases s.fuse [name]
  obtain ⟨q, hq0⟩ : ∃ q, q = mayQ s.fuse [name] := ⟨_, rfl⟩
  rw [← hq0] at hm hq
  have HM := Lib.hid hm
  have HQ := Lib.hid hq
  have HP := Lib.hid hp
  have HR1 := Lib.hid hR1
  have HW1 := Lib.hid hW1
  skip
  clear hm hq hp hR1 hW1 k1 hR hGl h hq0
  go_enter Try.func44, Try.ntmps44
  go_wp2_with fail
  rw [← HW1.out]
  refine HM.out.mono ?_
  rintro e w2 ⟨rfl, hk2⟩
  have HR2 := Lib.hid (HR1.out.no hk2)
  clear hk2 HM
  rcases HQ.out with ⟨h0, rfl⟩ | ⟨h0, hns, rfl⟩ | ⟨h0, hns, rfl⟩
  ·
    have H0 := Lib.hid h0
    clear h0
    go_wp2_with fail
    go_ret
    rw [rmS, five9 H0.out]
    exact HR2.out.stop HP.out
  ·
    have H0 := Lib.hid h0
    have HNS := Lib.hid hns
    clear h0 hns
    go_wp2_with fail
    go_ret
    rw [rmS, five1 H0.out HNS.out]
    exact HR2.out.stop HP.out
  have H0 := Lib.hid h0
  have HNS := Lib.hid hns
  clear h0 hns HQ HR1 HW1
  have hs := rspot_any w2 r s.room (leftOf s.fuse) rv L HR2.out.c name
  have HSP := Lib.hid hs
  clear hs
  go_wp2_with fail
  refine HSP.out.mono ?_
  rintro e w3 ⟨i, b, rfl, hsp, hk3⟩
  have HR3 := Lib.hid (HR2.out.no hk3)
  clear hk3 HSP HR2
  have HGE := Lib.hid (gget_perm HP.out HR3.out.c.sorted.keys name)
  cases hsp with
  | no L1 L2 hL h1 h2 =>
    have HE := Lib.hid (show rmCode s name = 7 by
      unfold rmCode
      rw [if_pos]
      rw [← HGE.out, hL]
      exact get_no h1 h2)
    clear hL h1 h2
    go_wp2_with fail
    go_ret
    rw [rmS, fiveE H0.out HNS.out (by rw [HE.out]; decide), HE.out]
    exact HR3.out.stop HP.out
  | is L1 f L2 hL hk =>
    have HE := Lib.hid (show rmCode s name = 0 by
      unfold rmCode
      rw [if_neg]
      rw [← HGE.out, ← hk, hL, get_is (by rw [← hL]; exact HR3.out.c.sorted) rfl]
      simp)
    have HPn := Lib.hid (show (absR (rdel L name)).Perm (gdel s.files name) by rw [rdel_abs]; exact gdel_perm HP.out name)
    clear hL hk
    have hc := rrem_any w w3 r s.room (leftOf s.fuse) rv L G HR3.out name
    have HC := Lib.hid hc
    clear hc
    go_wp2_with fail
    refine HC.out.mono ?_
    rintro e V ⟨rfl, ⟨rv9, hR9⟩, _⟩
    have HRn := Lib.hid hR9
    clear hR9 HC
    have hd := rdid_any V r s.room (leftOf s.fuse) _ _ HRn.out.c
    rw [← left_next H0.out] at hd
    have HD := Lib.hid hd
    clear hd
    go_wp2_with fail
    refine HD.out.mono ?_
    rintro e wd ⟨rfl, hcd, hkd⟩
    have HRd := Lib.hid (HRn.out.setLeft hcd hkd)
    clear hcd hkd HD
    go_wp2_with fail
    go_ret
    rw [rmS, five0 H0.out HNS.out HE.out]
    exact RRun.stop (s := { s with fuse := s.fuse.map (· - 1), files := _ }) HRd.out HPn.out
end Go.Proofs.Ytenidddbjobblaa
