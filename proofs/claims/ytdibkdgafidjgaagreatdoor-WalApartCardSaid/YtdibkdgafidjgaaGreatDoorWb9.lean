/-
  Texts laid together: RRem, RCut.
-/
import Derived.Test.YtdibkdgafidjgaaGreatDoorWa9
import Derived.Test.YtdibkdgafidjgaaGreatDoorWa4
import Derived.Test.YtdibkdgafidjgaaGreatDoorWa3
import Derived.Deep.CutRange
namespace Go.Proofs.YtdibkdgafidjgaaGreatDoor
open Go.RowKit Go.Mer
def rdel (L : List RFile) (k : ByteArray) : List RFile := L.filter fun f => decide (f.name ≠ k)
theorem rdel_abs (L : List RFile) (k : ByteArray) : absR (rdel L k) = gdel (absR L) k := by
 unfold rdel absR gdel
 rw [List.filter_map]
 rfl
theorem rdel_no {L1 L2 : List RFile} {k : ByteArray} (h1 : ∀ f ∈ L1, NLt f.name k) (h2 : ∀ f ∈ L2, NLt k f.name) : rdel (L1 ++ L2) k = L1 ++ L2 := by
 refine List.filter_eq_self.2 fun f hf => ?_
 simp only [decide_eq_true_eq]
 rintro rfl
 rcases List.mem_append.1 hf with hf | hf
 ·exact nlt_irr _ (h1 f hf)
 ·exact nlt_irr _ (h2 f hf)
theorem rdel_is {L1 L2 : List RFile} {f : RFile} (hs : SortedR (L1 ++ f :: L2)) : rdel (L1 ++ f :: L2) f.name = L1 ++ L2 := by
 have hs1 := hs
 unfold SortedR at hs1
 rw [List.pairwise_append, List.pairwise_cons] at hs1
 unfold rdel
 rw [List.filter_append, List.filter_cons]
 simp only [ne_eq, not_true_eq_false, decide_false, Bool.false_eq_true, if_false]
 rw [List.filter_eq_self.2 fun g hg => ?_, List.filter_eq_self.2 fun g hg => ?_]
 ·simp only [decide_eq_true_eq]
  intro e
  have := hs1.2.1.1 g hg
  rw [e] at this
  exact nlt_irr _ this
 ·simp only [decide_eq_true_eq]
  intro e
  have := hs1.2.2 g hg f (List.mem_cons_self ..)
  rw [e] at this
  exact nlt_irr _ this
set_option maxRecDepth 100000 in
set_option maxHeartbeats 2000000 in
theorem rrem_any (w V : World) (r room : Nat) (left : Int) (rv : Value) (L : List RFile) (G : Nat → Prop) (h : RRun w V r room left rv L G) (name : ByteArray) :
  Calls Tryz.prog 100 #[.pointer (some ⟨r, 0, none⟩), .string name] V fun e V' => e = .returned (.tuple #[]) ∧ (∃ rv', RRun w V' r room left rv' (rdel L name) G) ∧ Kp (One r) V V' := by
 have HR2 := Lib.hid h
 have hs := rspot_any V r room left rv L h.c name
 have HSP := Lib.hid hs
 clear hs h
 go_enter Tryz.func100, Tryz.ntmps100
 go_wp2_with fail
 refine HSP.out.mono ?_
 rintro e w3 ⟨i, b, rfl, hsp, hk3⟩
 have HR3 := Lib.hid (HR2.out.no hk3)
 have HK3 := Lib.hid hk3
 clear hk3 HSP HR2
 cases hsp with
 | no L1 L2 hL h1 h2 =>
  have HDEL := Lib.hid (show rdel L name = L by rw [hL]; exact rdel_no h1 h2)
  clear hL h1 h2
  go_wp2_with fail
  go_end0
  refine ⟨rfl, ⟨rv, ?_⟩, Kp.of_no HK3.out⟩
  rw [HDEL.out]
  exact HR3.out
 | is L1 f L2 hL hk =>
  subst hL
  have HDEL := Lib.hid (show rdel (L1 ++ f :: L2) name = L1 ++ L2 by rw [← hk]; exact rdel_is HR3.out.c.sorted)
  have HFIT := Lib.hid (show totF (absR (L1 ++ L2)) ≤ room by have := HR3.out.c.fits; rw [totF_mid] at this; omega)
  have HFEW := Lib.hid (show (L1 ++ L2).length ≤ 4096 by have := HR3.out.c.few; simp at this ⊢; omega)
  obtain ⟨ra, rcap0, _, _, hrd⟩ := HR3.out.c.row.rd
  obtain ⟨g, off, rcap, n, hn, hlt, hcap, hgr, hrv, hcells⟩ := HR3.out.c.at_
  have hrd2 : Rd w3 w3.heap.size (some ⟨g, off, none⟩) ((L1 ++ f :: L2).flatMap RFile.cells) := by
   have := HR3.out.c.row
   rw [hrv] at this
   exact this.rd'
  have HRD := Lib.hid hrd2
  have q1 : ∀ W, Kp No w3 W → W.cell? ⟨r, 1, none⟩ = some (.slice (some ⟨g, off, none⟩) n rcap) := fun W hW => (hcells W hW).c1
  have rl := (hcells w3 (Kp.refl _ _)).rl
  obtain ⟨i, hi⟩ : ∃ i, i = L1.length := ⟨_, rfl⟩
  rw [← hi] at hlt ⊢
  have HI := Lib.hid hi
  have hn4 : n ≤ 4096 := by rw [hn]; exact HR3.out.c.few
  have HTK := Lib.hid (show ((L1 ++ f :: L2).flatMap RFile.cells).take (i * 3) = L1.flatMap RFile.cells by rw [chunk_take RFile.cells 3 RFile.cells_len, hi]; simp)
  have hdr : ((L1 ++ f :: L2).flatMap RFile.cells).drop ((i + 1) * 3) = L2.flatMap RFile.cells := by
   rw [chunk_drop RFile.cells 3 RFile.cells_len, hi]
   simp
  obtain ⟨j, hj⟩ : ∃ j, j = i + 1 := ⟨_, rfl⟩
  rw [← hj] at hdr
  have hL2 : L2.length = n - j := by rw [hn, hj, hi]; simp; omega
  have hji : (i : Int) + 1 = (j : Int) := by omega
  have hjn : j ≤ n := by omega
  have hjc : j ≤ rcap := by omega
  have hic : i ≤ rcap := by omega
  have hib : i ≤ 4096 := by omega
  have HDR := Lib.hid hdr
  have HHJ := Lib.hid hj
  have HRV := Lib.hid hrv
  clear hk hrd hrd2 hn hcells hi hdr hj hrv
  rcases Nat.lt_or_ge j n with hlt2 | hge
  ·have hjc2 : j < rcap := by omega
   have HL2n := Lib.hid hL2
   have HSRC := Lib.hid (show ∀ W, Kp No w3 W → Src W 3 (.slice (some ⟨g, off + j * 3, none⟩) (n - j) (rcap - j)) (n - j) (L2.flatMap RFile.cells) from fun W hW => by
    have hd := (HRD.out.kp hW).drop (j * 3)
    rw [HDR.out] at hd
    have hsrc := rows_src RFile.cells_len (c := rcap - j) hd
    rw [HL2n.out] at hsrc
    simp only [Option.map_some, add_lit'] at hsrc
    exact hsrc)
   clear hL2
   go_wp2_with fail
   refine wp_region_last (Kp No w3) [0,2,0,0,0,0,0,0,2,0,0,0,0,0,0,0,2,0,0,2] [0,2,3,4,5,6,7,9,10,11,12,13,14,15,1,8,16,17,18] 19 (by kernel_rfl) (by kernel_rfl) (fun _ n h => h.drewN n) (Kp.refl _ _) ?_
   repeat (first
    | (apply wpOrd_skip rfl (by decide) rfl; (focus (go_simp; rfl)))
    | (apply wpOrd_pure rfl rfl rfl; (focus (intro _ _; go_simp; (try go_ints); rfl)); (focus (go_simp; rfl)))
    | (apply wpOrd_read rfl rfl rfl; (focus (intro _; go_simp; (try go_ints); rfl)); (focus (go_simp; rfl))))
   refine wpOrd_eff rfl rfl (fun n1 => ?_)
   go_wp2_with fail
   obtain ⟨W5, hW5⟩ : ∃ W, W = (w3.drewN n1).alloc (.cells #[] 108) := ⟨_, rfl⟩
   have k5 : Kp No w3 W5 := by rw [hW5]; exact ((Kp.refl _ _).drewN _).alloc _
   have rr5 : RowRel 108 3 RFile.cells w3 W5 (.slice (some ⟨w3.heap.size, 0, none⟩) 0 0) 0 [] := by rw [hW5]; exact RowRel.made (W := w3.drewN n1) ((Kp.refl _ _).drewN _)
   rw [← hW5]
   clear hW5
   refine ⟨k5, ?_⟩
   refine wpOrd_eff rfl rfl (fun n2 => ?_)
   have hrd5 := (HRD.out.kp (k5.drewN n2)).take (i * 3)
   rw [HTK.out] at hrd5
   have hiL := HI.out
   obtain ⟨a6, c6, W6, hrun, hm, _⟩ := (rr5.keep ((Kp.refl _ _).drewN n2)).app Tryz.underlying81 infoRFile RFile.cells_one L1 (rows_src RFile.cells_len (c := rcap) hrd5) rfl (by unfold maxLen; omega) (by omega)
   simp only [Nat.zero_add, List.nil_append] at hrun hm
   rw [← HI.out] at hrun hm
   have HX6 := Lib.hid hrun
   have k6 := hm.2.2.2
   clear hrun rr5 hrd5 hiL
   refine wpList_append_run rfl rfl rfl rfl HX6.out (wpList_nil ⟨rfl, k6, ?_⟩)
   clear HX6
   refine wpOrd_eff rfl rfl (fun n3 => ?_)
   have hsrc := HSRC.out (W6.drewN n3) (k6.drewN n3)
   obtain ⟨a7, c7, W7, hrun, hm7, _⟩ := (hm.keep ((Kp.refl _ _).drewN n3)).app Tryz.underlying81 infoRFile RFile.cells_one L2 hsrc HL2n.out.symm (by unfold maxLen; omega) (by omega)
   have HX7 := Lib.hid hrun
   have k7 := hm7.2.2.2
   obtain ⟨N, hN⟩ : ∃ N, N = i + (n - j) := ⟨_, rfl⟩
   rw [← hN] at hm7 HX7
   clear hrun hsrc hm q1 hN
   refine wpList_append_run rfl rfl rfl rfl HX7.out (wpList_nil ⟨rfl, k7, ?_⟩)
   clear HX7
   repeat (first
    | (apply wpOrd_skip rfl (by decide) rfl; (focus (go_simp; rfl)))
    | (apply wpOrd_pure rfl rfl rfl; (focus (intro _ _; go_simp; (try go_ints); rfl)); (focus (go_simp; rfl)))
    | (apply wpOrd_read rfl rfl rfl; (focus (intro _; go_simp; (try go_ints); rfl)); (focus (go_simp; rfl))))
   refine last_now (fun n4 => ?_)
   refine wpOrd_eff rfl rfl (fun n5 => ?_)
   obtain ⟨W9, hW9⟩ : ∃ W, W = (W7.drewN n4).drewN n5 := ⟨_, rfl⟩
   have hm9 : RowRel 108 3 RFile.cells w3 W9 (.slice a7 N c7) N (L1 ++ L2) := by rw [hW9]; exact hm7.keep (((Kp.refl _ _).drewN n4).drewN n5)
   rw [← hW9]
   obtain ⟨hR9, ec, fc, rc⟩ := HR3.out.laid hm9 (fun f hf => .inl (by
    rcases List.mem_append.1 hf with hf | hf
    ·exact List.mem_append_left _ hf
    ·exact List.mem_append_right _ (List.mem_cons_of_mem _ hf))) (sorted_del HR3.out.c.sorted) HFIT.out HFEW.out
   have k9 := hm9.2.2.2
   clear hW9 hm9 hm7
   go_wp2_with fail
   intro nq
   have HRn := Lib.hid (hR9.no ((Kp.refl No _).drewN nq))
   have HKK := Lib.hid (((Kp.of_no (S := One r) (HK3.out.trans_same k9)).trans_same ((Kp.refl (One r) W9).setCell (p := ⟨r, 1, none⟩) (.inl rfl) (.slice a7 N c7))).drewN nq)
   clear hR9 ec fc rc
   go_wp2_with fail
   go_end0
   refine ⟨rfl, ⟨.slice a7 N c7, ?_⟩, HKK.out⟩
   rw [HDEL.out]
   exact HRn.out
  ·obtain rfl : j = n := by omega
   have hl2 : L2 = [] := List.eq_nil_of_length_eq_zero (by omega)
   subst hl2
   have HL2n := Lib.hid (show ([] : List RFile).length = 0 from rfl)
   clear hL2
   by_cases hcc : j = rcap
   ·subst hcc
    have HSRC := Lib.hid (show ∀ W, Kp No w3 W → Src W 3 (.slice (some ⟨g, off, none⟩) 0 0) 0 (([] : List RFile).flatMap RFile.cells) from fun W hW => nil_src _ _)
    clear hcap hjn hjc hge
    go_wp2_with fail
    refine wp_region_last (Kp No w3) [0,2,0,0,0,0,0,0,2,0,0,0,0,0,0,0,2,0,0,2] [0,2,3,4,5,6,7,9,10,11,12,13,14,15,1,8,16,17,18] 19 (by kernel_rfl) (by kernel_rfl) (fun _ n h => h.drewN n) (Kp.refl _ _) ?_
    repeat (first
     | (apply wpOrd_skip rfl (by decide) rfl; (focus (go_simp; rfl)))
     | (apply wpOrd_pure rfl rfl rfl; (focus (intro _ _; go_simp; (try go_ints); rfl)); (focus (go_simp; rfl)))
     | (apply wpOrd_read rfl rfl rfl; (focus (intro _; go_simp; (try go_ints); rfl)); (focus (go_simp; rfl))))
    refine wpOrd_eff rfl rfl (fun n1 => ?_)
    go_wp2_with fail
    obtain ⟨W5, hW5⟩ : ∃ W, W = (w3.drewN n1).alloc (.cells #[] 108) := ⟨_, rfl⟩
    have k5 : Kp No w3 W5 := by rw [hW5]; exact ((Kp.refl _ _).drewN _).alloc _
    have rr5 : RowRel 108 3 RFile.cells w3 W5 (.slice (some ⟨w3.heap.size, 0, none⟩) 0 0) 0 [] := by rw [hW5]; exact RowRel.made (W := w3.drewN n1) ((Kp.refl _ _).drewN _)
    rw [← hW5]
    clear hW5
    refine ⟨k5, ?_⟩
    refine wpOrd_eff rfl rfl (fun n2 => ?_)
    have hrd5 := (HRD.out.kp (k5.drewN n2)).take (i * 3)
    rw [HTK.out] at hrd5
    have hiL := HI.out
    obtain ⟨a6, c6, W6, hrun, hm, _⟩ := (rr5.keep ((Kp.refl _ _).drewN n2)).app Tryz.underlying81 infoRFile RFile.cells_one L1 (rows_src RFile.cells_len (c := j) hrd5) rfl (by unfold maxLen; omega) (by omega)
    simp only [Nat.zero_add, List.nil_append] at hrun hm
    rw [← HI.out] at hrun hm
    have HX6 := Lib.hid hrun
    have k6 := hm.2.2.2
    clear hrun rr5 hrd5 hiL
    refine wpList_append_run rfl rfl rfl rfl HX6.out (wpList_nil ⟨rfl, k6, ?_⟩)
    clear HX6
    refine wpOrd_eff rfl rfl (fun n3 => ?_)
    have hsrc := HSRC.out (W6.drewN n3) (k6.drewN n3)
    obtain ⟨a7, c7, W7, hrun, hm7, _⟩ := (hm.keep ((Kp.refl _ _).drewN n3)).app Tryz.underlying81 infoRFile RFile.cells_one [] hsrc HL2n.out.symm (by unfold maxLen; omega) (by omega)
    have HX7 := Lib.hid hrun
    have k7 := hm7.2.2.2
    obtain ⟨N, hN⟩ : ∃ N, N = i + 0 := ⟨_, rfl⟩
    rw [← hN] at hm7 HX7
    clear hrun hsrc hm q1 hN
    refine wpList_append_run rfl rfl rfl rfl HX7.out (wpList_nil ⟨rfl, k7, ?_⟩)
    clear HX7
    repeat (first
     | (apply wpOrd_skip rfl (by decide) rfl; (focus (go_simp; rfl)))
     | (apply wpOrd_pure rfl rfl rfl; (focus (intro _ _; go_simp; (try go_ints); rfl)); (focus (go_simp; rfl)))
     | (apply wpOrd_read rfl rfl rfl; (focus (intro _; go_simp; (try go_ints); rfl)); (focus (go_simp; rfl))))
    refine last_now (fun n4 => ?_)
    refine wpOrd_eff rfl rfl (fun n5 => ?_)
    obtain ⟨W9, hW9⟩ : ∃ W, W = (W7.drewN n4).drewN n5 := ⟨_, rfl⟩
    have hm9 : RowRel 108 3 RFile.cells w3 W9 (.slice a7 N c7) N (L1 ++ []) := by rw [hW9]; exact hm7.keep (((Kp.refl _ _).drewN n4).drewN n5)
    rw [← hW9]
    obtain ⟨hR9, ec, fc, rc⟩ := HR3.out.laid hm9 (fun f hf => .inl (by
     rcases List.mem_append.1 hf with hf | hf
     ·exact List.mem_append_left _ hf
     ·exact List.mem_append_right _ (List.mem_cons_of_mem _ hf))) (sorted_del HR3.out.c.sorted) HFIT.out HFEW.out
    have k9 := hm9.2.2.2
    clear hW9 hm9 hm7
    go_wp2_with fail
    intro nq
    have HRn := Lib.hid (hR9.no ((Kp.refl No _).drewN nq))
    have HKK := Lib.hid (((Kp.of_no (S := One r) (HK3.out.trans_same k9)).trans_same ((Kp.refl (One r) W9).setCell (p := ⟨r, 1, none⟩) (.inl rfl) (.slice a7 N c7))).drewN nq)
    clear hR9 ec fc rc
    go_wp2_with fail
    go_end0
    refine ⟨rfl, ⟨.slice a7 N c7, ?_⟩, HKK.out⟩
    rw [HDEL.out]
    exact HRn.out
   ·have hjc2 : j < rcap := by omega
    have HSRC := Lib.hid (show ∀ W, Kp No w3 W → Src W 3 (.slice (some ⟨g, off + j * 3, none⟩) 0 (rcap - j)) 0 (([] : List RFile).flatMap RFile.cells) from fun W hW => nil_src _ _)
    go_wp2_with fail
    refine wp_region_last (Kp No w3) [0,2,0,0,0,0,0,0,2,0,0,0,0,0,0,0,2,0,0,2] [0,2,3,4,5,6,7,9,10,11,12,13,14,15,1,8,16,17,18] 19 (by kernel_rfl) (by kernel_rfl) (fun _ n h => h.drewN n) (Kp.refl _ _) ?_
    repeat (first
     | (apply wpOrd_skip rfl (by decide) rfl; (focus (go_simp; rfl)))
     | (apply wpOrd_pure rfl rfl rfl; (focus (intro _ _; go_simp; (try go_ints); rfl)); (focus (go_simp; rfl)))
     | (apply wpOrd_read rfl rfl rfl; (focus (intro _; go_simp; (try go_ints); rfl)); (focus (go_simp; rfl))))
    refine wpOrd_eff rfl rfl (fun n1 => ?_)
    go_wp2_with fail
    obtain ⟨W5, hW5⟩ : ∃ W, W = (w3.drewN n1).alloc (.cells #[] 108) := ⟨_, rfl⟩
    have k5 : Kp No w3 W5 := by rw [hW5]; exact ((Kp.refl _ _).drewN _).alloc _
    have rr5 : RowRel 108 3 RFile.cells w3 W5 (.slice (some ⟨w3.heap.size, 0, none⟩) 0 0) 0 [] := by rw [hW5]; exact RowRel.made (W := w3.drewN n1) ((Kp.refl _ _).drewN _)
    rw [← hW5]
    clear hW5
    refine ⟨k5, ?_⟩
    refine wpOrd_eff rfl rfl (fun n2 => ?_)
    have hrd5 := (HRD.out.kp (k5.drewN n2)).take (i * 3)
    rw [HTK.out] at hrd5
    have hiL := HI.out
    obtain ⟨a6, c6, W6, hrun, hm, _⟩ := (rr5.keep ((Kp.refl _ _).drewN n2)).app Tryz.underlying81 infoRFile RFile.cells_one L1 (rows_src RFile.cells_len (c := rcap) hrd5) rfl (by unfold maxLen; omega) (by omega)
    simp only [Nat.zero_add, List.nil_append] at hrun hm
    rw [← HI.out] at hrun hm
    have HX6 := Lib.hid hrun
    have k6 := hm.2.2.2
    clear hrun rr5 hrd5 hiL
    refine wpList_append_run rfl rfl rfl rfl HX6.out (wpList_nil ⟨rfl, k6, ?_⟩)
    clear HX6
    refine wpOrd_eff rfl rfl (fun n3 => ?_)
    have hsrc := HSRC.out (W6.drewN n3) (k6.drewN n3)
    obtain ⟨a7, c7, W7, hrun, hm7, _⟩ := (hm.keep ((Kp.refl _ _).drewN n3)).app Tryz.underlying81 infoRFile RFile.cells_one [] hsrc HL2n.out.symm (by unfold maxLen; omega) (by omega)
    have HX7 := Lib.hid hrun
    have k7 := hm7.2.2.2
    obtain ⟨N, hN⟩ : ∃ N, N = i + 0 := ⟨_, rfl⟩
    rw [← hN] at hm7 HX7
    clear hrun hsrc hm q1 hN
    refine wpList_append_run rfl rfl rfl rfl HX7.out (wpList_nil ⟨rfl, k7, ?_⟩)
    clear HX7
    repeat (first
     | (apply wpOrd_skip rfl (by decide) rfl; (focus (go_simp; rfl)))
     | (apply wpOrd_pure rfl rfl rfl; (focus (intro _ _; go_simp; (try go_ints); rfl)); (focus (go_simp; rfl)))
     | (apply wpOrd_read rfl rfl rfl; (focus (intro _; go_simp; (try go_ints); rfl)); (focus (go_simp; rfl))))
    refine last_now (fun n4 => ?_)
    refine wpOrd_eff rfl rfl (fun n5 => ?_)
    obtain ⟨W9, hW9⟩ : ∃ W, W = (W7.drewN n4).drewN n5 := ⟨_, rfl⟩
    have hm9 : RowRel 108 3 RFile.cells w3 W9 (.slice a7 N c7) N (L1 ++ []) := by rw [hW9]; exact hm7.keep (((Kp.refl _ _).drewN n4).drewN n5)
    rw [← hW9]
    obtain ⟨hR9, ec, fc, rc⟩ := HR3.out.laid hm9 (fun f hf => .inl (by
     rcases List.mem_append.1 hf with hf | hf
     ·exact List.mem_append_left _ hf
     ·exact List.mem_append_right _ (List.mem_cons_of_mem _ hf))) (sorted_del HR3.out.c.sorted) HFIT.out HFEW.out
    have k9 := hm9.2.2.2
    clear hW9 hm9 hm7
    go_wp2_with fail
    intro nq
    have HRn := Lib.hid (hR9.no ((Kp.refl No _).drewN nq))
    have HKK := Lib.hid (((Kp.of_no (S := One r) (HK3.out.trans_same k9)).trans_same ((Kp.refl (One r) W9).setCell (p := ⟨r, 1, none⟩) (.inl rfl) (.slice a7 N c7))).drewN nq)
    clear hR9 ec fc rc
    go_wp2_with fail
    go_end0
    refine ⟨rfl, ⟨.slice a7 N c7, ?_⟩, HKK.out⟩
    rw [HDEL.out]
    exact HRn.out
set_option maxRecDepth 100000 in
set_option maxHeartbeats 1000000 in
theorem rRemove_any (w : World) (r : Nat) (s : DSt) (G : Nat → Prop) (h : RAt w r s G) (name : ByteArray) :
  Calls Tryz.prog 63 #[.pointer (some ⟨r, 0, none⟩), .string name] w (SaidR w r G (rmS s name)) := by
 obtain ⟨rv, L, hR, hp, hGl⟩ := RRun.start h
 obtain ⟨W1, hW1⟩ : ∃ W, W = w.alloc (.cells #[.string name] 9) := ⟨_, rfl⟩
 have k1 : Kp No w W1 := by rw [hW1]; exact (Kp.refl _ _).alloc _
 have hR1 := hR.no k1
 have hm := rmay_any W1 r s.room (leftOf s.fuse) rv L hR1.c (some ⟨w.heap.size, 0, none⟩) 1 [name] (by rw [hW1]; exact name_rd w name) (by simp)
 rw [show (if leftOf s.fuse = 0 then (9 : Int) else if ([name] : List ByteArray).all nameOk = true then 0 else 1) = mayQ s.fuse [name] from rfl] at hm
 have hq := mayQ_cases s.fuse [name]
 obtain ⟨q, hq0⟩ : ∃ q, q = mayQ s.fuse [name] := ⟨_, rfl⟩
 rw [← hq0] at hm hq
 have HM := Lib.hid hm
 have HQ := Lib.hid hq
 have HP := Lib.hid hp
 have HR1 := Lib.hid hR1
 have HW1 := Lib.hid hW1
 skip
 clear hm hq hp hR1 hW1 k1 hR hGl h hq0
 go_enter Tryz.func63, Tryz.ntmps63
 go_wp2_with fail
 rw [← HW1.out]
 refine HM.out.mono ?_
 rintro e w2 ⟨rfl, hk2⟩
 have HR2 := Lib.hid (HR1.out.no hk2)
 clear hk2 HM
 rcases HQ.out with ⟨h0, rfl⟩ | ⟨h0, hns, rfl⟩ | ⟨h0, hns, rfl⟩
 ·
  have H0 := Lib.hid h0
  clear h0
  go_wp2_with fail
  go_ret
  rw [rmS, five9 H0.out]
  exact HR2.out.stop HP.out
 ·
  have H0 := Lib.hid h0
  have HNS := Lib.hid hns
  clear h0 hns
  go_wp2_with fail
  go_ret
  rw [rmS, five1 H0.out HNS.out]
  exact HR2.out.stop HP.out
 have H0 := Lib.hid h0
 have HNS := Lib.hid hns
 clear h0 hns HQ HR1 HW1
 have hs := rspot_any w2 r s.room (leftOf s.fuse) rv L HR2.out.c name
 have HSP := Lib.hid hs
 clear hs
 go_wp2_with fail
 refine HSP.out.mono ?_
 rintro e w3 ⟨i, b, rfl, hsp, hk3⟩
 have HR3 := Lib.hid (HR2.out.no hk3)
 clear hk3 HSP HR2
 have HGE := Lib.hid (gget_perm HP.out HR3.out.c.sorted.keys name)
 cases hsp with
 | no L1 L2 hL h1 h2 =>
  have HE := Lib.hid (show rmCode s name = 7 by
   unfold rmCode
   rw [if_pos]
   rw [← HGE.out, hL]
   exact get_no h1 h2)
  clear hL h1 h2
  go_wp2_with fail
  go_ret
  rw [rmS, fiveE H0.out HNS.out (by rw [HE.out]; decide), HE.out]
  exact HR3.out.stop HP.out
 | is L1 f L2 hL hk =>
  have HE := Lib.hid (show rmCode s name = 0 by
   unfold rmCode
   rw [if_neg]
   rw [← HGE.out, ← hk, hL, get_is (by rw [← hL]; exact HR3.out.c.sorted) rfl]
   simp)
  have HPn := Lib.hid (show (absR (rdel L name)).Perm (gdel s.files name) by rw [rdel_abs]; exact gdel_perm HP.out name)
  clear hL hk
  have hc := rrem_any w w3 r s.room (leftOf s.fuse) rv L G HR3.out name
  have HC := Lib.hid hc
  clear hc
  go_wp2_with fail
  refine HC.out.mono ?_
  rintro e V ⟨rfl, ⟨rv9, hR9⟩, _⟩
  have HRn := Lib.hid hR9
  clear hR9 HC
  have hd := rdid_any V r s.room (leftOf s.fuse) _ _ HRn.out.c
  rw [← left_next H0.out] at hd
  have HD := Lib.hid hd
  clear hd
  go_wp2_with fail
  refine HD.out.mono ?_
  rintro e wd ⟨rfl, hcd, hkd⟩
  have HRd := Lib.hid (HRn.out.setLeft hcd hkd)
  clear hcd hkd HD
  go_wp2_with fail
  go_ret
  rw [rmS, five0 H0.out HNS.out HE.out]
  exact RRun.stop (s := { s with fuse := s.fuse.map (· - 1), files := _ }) HRd.out HPn.out
end Go.Proofs.YtdibkdgafidjgaaGreatDoor
namespace Go.Proofs.YtdibkdgafidjgaaGreatDoor
open Go.RowKit Go.Mer
set_option maxRecDepth 100000 in
set_option maxHeartbeats 2000000 in
theorem rCut_any (w : World) (r : Nat) (s : DSt) (G : Nat → Prop) (h : RAt w r s G) (name : ByteArray) (N0 : Int) :
  Calls Tryz.prog 64 #[.pointer (some ⟨r, 0, none⟩), .string name, .int .i64 N0] w (SaidR w r G (cuS s name N0)) := by
 obtain ⟨rv, L, hR, hp, hGl⟩ := RRun.start h
 obtain ⟨W1, hW1⟩ : ∃ W, W = w.alloc (.cells #[.string name] 9) := ⟨_, rfl⟩
 have k1 : Kp No w W1 := by rw [hW1]; exact (Kp.refl _ _).alloc _
 have hR1 := hR.no k1
 have hm := rmay_any W1 r s.room (leftOf s.fuse) rv L hR1.c (some ⟨w.heap.size, 0, none⟩) 1 [name] (by rw [hW1]; exact name_rd w name) (by simp)
 rw [show (if leftOf s.fuse = 0 then (9 : Int) else if ([name] : List ByteArray).all nameOk = true then 0 else 1) = mayQ s.fuse [name] from rfl] at hm
 have hq := mayQ_cases s.fuse [name]
 obtain ⟨q, hq0⟩ : ∃ q, q = mayQ s.fuse [name] := ⟨_, rfl⟩
 rw [← hq0] at hm hq
 have HM := Lib.hid hm
 have HQ := Lib.hid hq
 have HP := Lib.hid hp
 have HR1 := Lib.hid hR1
 have HW1 := Lib.hid hW1
 skip
 clear hm hq hp hR1 hW1 k1 hR hGl h hq0
 go_enter Tryz.func64, Tryz.ntmps64
 go_wp2_with fail
 rw [← HW1.out]
 refine HM.out.mono ?_
 rintro e w2 ⟨rfl, hk2⟩
 have HR2 := Lib.hid (HR1.out.no hk2)
 clear hk2 HM
 rcases HQ.out with ⟨h0, rfl⟩ | ⟨h0, hns, rfl⟩ | ⟨h0, hns, rfl⟩
 ·
  have H0 := Lib.hid h0
  clear h0
  go_wp2_with fail
  go_ret
  rw [cuS, five9 H0.out]
  exact HR2.out.stop HP.out
 ·
  have H0 := Lib.hid h0
  have HNS := Lib.hid hns
  clear h0 hns
  go_wp2_with fail
  go_ret
  rw [cuS, five1 H0.out HNS.out]
  exact HR2.out.stop HP.out
 have H0 := Lib.hid h0
 have HNS := Lib.hid hns
 clear h0 hns HQ HR1 HW1
 have hs := rspot_any w2 r s.room (leftOf s.fuse) rv L HR2.out.c name
 have HSP := Lib.hid hs
 clear hs
 go_wp2_with fail
 refine HSP.out.mono ?_
 rintro e w3 ⟨i, b, rfl, hsp, hk3⟩
 have HR3 := Lib.hid (HR2.out.no hk3)
 clear hk3 HSP HR2
 cases hsp with
 | no L1 L2 hL h1 h2 =>
  have HE := Lib.hid (show cuCode s name N0 = 7 by
   unfold cuCode
   rw [← gget_perm HP.out HR3.out.c.sorted.keys, hL, get_no h1 h2])
  clear hL h1 h2
  go_wp2_with fail
  go_ret
  rw [cuS, fiveE H0.out HNS.out (by rw [HE.out]; decide), HE.out]
  exact HR3.out.stop HP.out
 | is L1 f L2 hL hk =>
  subst hL
  obtain ⟨g, off, rcap, n, hn, hlt, hcap, hgr, rfl, hcells⟩ := HR3.out.c.at_
  have hga : gget s.files name = some ⟨f.data, f.lasts⟩ := by rw [← gget_perm HP.out HR3.out.c.sorted.keys, ← hk]; exact get_is HR3.out.c.sorted rfl
  have HGA := Lib.hid hga
  have HCE := Lib.hid hcells
  have HN := Lib.hid hn
  obtain ⟨i, hi⟩ : ∃ i, i = L1.length := ⟨_, rfl⟩
  rw [← hi] at hlt ⊢
  have HI := Lib.hid hi
  obtain ⟨c1, d0, d1, d2, fr, fg, rl, gl⟩ := hcells w3 (Kp.refl _ _)
  rw [← hi] at d0 d1 d2
  obtain ⟨m, hm⟩ : ∃ m, m = f.data.length := ⟨_, rfl⟩
  rw [← hm] at d1
  have hmm : m ≤ 1073741824 := by
   have h1 := HR3.out.c.fits
   have h2 := HR3.out.c.roomy
   rw [totF_mid] at h1
   omega
  have HMm := Lib.hid hm
  have HF := Lib.hid (HR3.out.c.files f (by simp))
  have HKn := Lib.hid hk
  clear hga hn hi hm hk
  by_cases hneg : N0 < 0
  ·have HE := Lib.hid (show cuCode s name N0 = 1 by unfold cuCode; rw [HGA.out]; exact if_pos (.inl hneg))
   clear hcells
   go_wp2_with fail
   go_ret
   rw [cuS, fiveE H0.out HNS.out (by rw [HE.out]; decide), HE.out]
   exact HR3.out.stop HP.out
  ·obtain ⟨N, rfl⟩ : ∃ N : Nat, N0 = (N : Int) := ⟨N0.toNat, by omega⟩
   clear hneg
   by_cases hbig : m < N
   ·have HE := Lib.hid (show cuCode s name N = 1 by unfold cuCode; rw [HGA.out]; exact if_pos (.inr (by rw [← HMm.out]; omega)))
    clear hcells
    go_wp2_with fail
    go_ret
    rw [cuS, fiveE H0.out HNS.out (by rw [HE.out]; decide), HE.out]
    exact HR3.out.stop HP.out
   ·have hNm : N ≤ m := by omega
    have HE := Lib.hid (show cuCode s name N = 0 by
     unfold cuCode
     rw [HGA.out]
     refine if_neg ?_
     rintro (h | h)
     ·omega
     ·rw [← HMm.out] at h; omega)
    have HPn : Hid (∀ a c, (absR (L1 ++ ⟨f.name, a, c, f.data.take N, min f.lasts N⟩ :: L2)).Perm (cuFiles s.files name N)) := Lib.hid fun a c => by
     unfold cuFiles
     rw [HGA.out, ← HKn.out]
     exact perm_turn (f' := ⟨f.name, a, c, f.data.take N, min f.lasts N⟩) HR3.out.c.sorted HP.out rfl
    have hlt2 : (f.data.take N).length = N := by rw [List.length_take, ← HMm.out]; omega
    have HLT2 := Lib.hid hlt2
    have HFIT : Hid (∀ a c, totF (absR (L1 ++ ⟨f.name, a, c, f.data.take N, min f.lasts N⟩ :: L2)) ≤ s.room) := Lib.hid fun a c => by
     have := HR3.out.c.fits
     rw [totF_mid] at this ⊢
     have h2 := HMm.out
     simp only [HLT2.out]
     omega
    have hmc : m ≤ f.cap := by
     obtain ⟨a, c, hv, hle, _⟩ := HF.out.1.rd
     have hv' : Value.slice f.a f.data.length f.cap = .slice a f.data.length c := hv
     injection hv' with _ _ h3
     rw [h3, HMm.out]
     exact hle
    have hNc : N ≤ f.cap := by omega
    have q1 : ∀ W, Kp No w3 W → W.cell? ⟨r, 1, none⟩ = some (.slice (some ⟨g, off, none⟩) n rcap) := fun W hW => (hcells W hW).c1
    have q2 : ∀ W, Kp No w3 W → W.cell? ⟨g, off + i * 3 + 1, none⟩ = some (.slice f.a m f.cap) := fun W hW => by rw [HI.out, HMm.out]; exact (hcells W hW).d1
    have hbg : decide ((m : Int) < (N : Int)) = false := by simp; omega
    clear hcells hbig hlt2
    go_upto_region 9 with fail
    refine wp_region_last (Kp No w3) [0,0,0,0,0,2,0,0,0,0,0,0,0,0,0,0,2,0,0,2] [0,1,2,3,4,6,7,8,9,10,11,12,13,14,15,5,16,17,18] 19 (by kernel_rfl) (by kernel_rfl) (fun _ n h => h.drewN n) (Kp.refl _ _) ?_
    repeat (first
     | (apply wpOrd_skip rfl (by decide) rfl; (focus (go_simp; rfl)))
     | (apply wpOrd_pure rfl rfl rfl; (focus (intro _ _; go_simp; (try go_ints); rfl)); (focus (go_simp; rfl)))
     | (apply wpOrd_read rfl rfl rfl; (focus (intro _; go_simp; (try go_ints); rfl)); (focus (go_simp; rfl))))
    refine wpOrd_eff rfl rfl (fun n1 => ?_)
    go_wp2_with fail
    obtain ⟨W6, hW6⟩ : ∃ W, W = (w3.drewN n1).alloc (.cells #[] 5) := ⟨_, rfl⟩
    have k6 : Kp No w3 W6 := by rw [hW6]; exact ((Kp.refl _ _).drewN _).alloc _
    have ho6 : Own W6 5 1 (.slice (some ⟨w3.heap.size, 0, none⟩) 0 0) 0 [] := by rw [hW6]; exact Own.made (w3.drewN n1) 5 1 #[] 0 0 (Nat.le_refl _) (by simp [maxLen]) (by simp) rfl
    rw [← hW6]
    have HO6 := Lib.hid ho6
    clear hW6 ho6
    refine ⟨k6, ?_⟩
    refine wpOrd_eff rfl rfl (fun n2 => ?_)
    have hrdf := ((HF.out.1.rd').kp (k6.drewN n2)).take N
    rw [u8s_take] at hrdf
    obtain ⟨a7, c7, W7, hrun, ho7, hk7, hb7⟩ := cpy_bytes' (W6.drewN n2) w3.heap.size (HO6.out.drewN n2) (f.data.take N) f.a f.cap hrdf (by rw [HLT2.out]; omega)
    rw [HLT2.out] at hrun
    have k7 : Kp No w3 W7 := (k6.drewN n2).trans hk7 (fun k hk (e : k = w3.heap.size) => by omega)
    have HX7 := Lib.hid hrun
    have HO7 := Lib.hid ho7
    have hs6 : w3.heap.size ≤ (W6.drewN n2).heap.size := k6.size
    have HB7 := Lib.hid (show ∀ k, (Value.slice a7 (f.data.take N).length c7).ownBlock = some k → w3.heap.size ≤ k from fun k hk => by
     rcases hb7 k hk with h1 | h1
     ·omega
     ·omega)
    clear hrun ho7 hk7 hb7 hrdf q1 q2
    refine wpList_append_run rfl rfl rfl rfl HX7.out (wpList_nil ⟨rfl, k7, ?_⟩)
    clear HX7
    repeat (first
     | (apply wpOrd_skip rfl (by decide) rfl; (focus (go_simp; rfl)))
     | (apply wpOrd_pure rfl rfl rfl; (focus (intro _ _; go_simp; (try go_ints); rfl)); (focus (go_simp; rfl)))
     | (apply wpOrd_read rfl rfl rfl; (focus (intro _; go_simp; (try go_ints); rfl)); (focus (go_simp; rfl))))
    refine last_now (fun n4 => ?_)
    refine wpOrd_eff rfl rfl (fun n5 => ?_)
    obtain ⟨W9, hW9⟩ : ∃ W, W = (W7.drewN n4).drewN n5 := ⟨_, rfl⟩
    have k9 : Kp No w3 W9 := by rw [hW9]; exact (k7.drewN n4).drewN n5
    have ho9 : Own W9 5 1 (.slice a7 (f.data.take N).length c7) (f.data.take N).length (u8s (f.data.take N)) := by rw [hW9]; exact HO7.out
    have HO9 := Lib.hid ho9
    rw [← hW9]
    have e1 : W9.cell? ⟨g, off + i * 3 + 1, none⟩ = some (.slice f.a m f.cap) := by rw [HI.out, HMm.out]; exact (HCE.out W9 k9).d1
    have fg9 := (HCE.out W9 k9).fg (off + i * 3 + 1)
    clear hW9 ho9 c1 d0 d1 d2 fr fg
    go_wp2_with fail
    intro nq
    obtain ⟨Wa, hWa⟩ : ∃ W, W = W9.setCell ⟨g, off + i * 3 + 1, none⟩ (.slice a7 N c7) := ⟨_, rfl⟩
    rw [← hWa]
    obtain ⟨Wb, hWb⟩ : ∃ W, W = Wa.drewN nq := ⟨_, rfl⟩
    have kab : Kp No Wa Wb := by rw [hWb]; exact (Kp.refl _ _).drewN _
    rw [← hWb]
    have hsa : Kp (One g) W9 Wa := by rw [hWa]; exact (Kp.refl (One g) _).setCell (p := ⟨g, off + i * 3 + 1, none⟩) (.inl rfl) _
    have hrow9 : Own W9 108 3 (.slice (some ⟨g, off, none⟩) n rcap) n ((L1 ++ f :: L2).flatMap RFile.cells) := by have := (HR3.out.c.keep_no k9).row; rwa [← HN.out] at this
    have hrowa := row_set (f' := ⟨f.name, a7, c7, f.data.take N, f.lasts⟩) (j := 1) (u := .slice a7 N c7) hrow9 HN.out (by omega) (by show [_, _, _] = [_, _, _]; rw [HLT2.out])
    rw [← HI.out, ← hWa] at hrowa
    have ena : (L1 ++ (⟨f.name, a7, c7, f.data.take N, f.lasts⟩ : RFile) :: L2).length = n := by rw [HN.out]; simp
    rw [ena] at hrowa
    obtain ⟨b0, b1, b2⟩ := row_cells (hrowa.keep kab fun _ _ x => x)
    rw [← HI.out] at b0 b1 b2
    obtain ⟨g2, o2, hp9, gl9, hfz⟩ := (hrowa.keep kab fun _ _ x => x).place (by omega)
    have e2 : g = g2 := by
     injection hp9 with hp9
     injection hp9
    rw [← e2] at gl9 hfz
    clear hp9 e2
    have r9 := HCE.out W9 k9
    have c1b : Wb.cell? ⟨r, 1, none⟩ = some (.slice (some ⟨g, off, none⟩) n rcap) := by
     rw [(hsa.trans_no kab).cell (p := ⟨r, 1, none⟩) r9.rl (fun (e : r = g) => hgr e.symm)]
     exact r9.c1
    have rlb : r < Wb.heap.size := (hsa.trans_no kab).lt r9.rl
    have hmin : min (f.lasts : Int) (N : Int) = ((min f.lasts N : Nat) : Int) := by omega
    have HRS := Lib.hid (fun (W2 : World) (h2 : Kp No Wa W2) => HR3.out.setAt2 (f1 := ⟨f.name, a7, c7, f.data.take N, f.lasts⟩) (f2 := ⟨f.name, a7, c7, f.data.take N, min f.lasts N⟩) (j1 := 1) (j2 := 2) (u1 := .slice a7 N c7) (u2 := .int .i64 ((min f.lasts N : Nat) : Int)) HN.out k9 (by omega)
     (by show [_, _, _] = [_, _, _]; rw [HLT2.out]) (by rw [hWa, HI.out]) h2 (by omega) rfl rfl ⟨HO9.out, by show min f.lasts N ≤ (f.data.take N).length; rw [HLT2.out]; omega⟩ (fun k hk => .inr (HB7.out k hk)) (HFIT.out _ _))
    have HKAB := Lib.hid kab
    clear hWa hWb hsa hrow9 hrowa ena r9 kab k9 k7 k6 hs6 e1 fg9
    obtain ⟨N2, hN2⟩ : ∃ N2, N2 = min f.lasts N := ⟨_, rfl⟩
    rw [← hN2] at hmin HRS
    have HN2 := Lib.hid hN2
    clear hN2
    go_upto_region 10 with fail
    refine wp_region_ord [0,0,0,1,0,0,0,0,1,0,0,0,1,0,1,0,0,2] [0,1,2,4,5,6,7,9,13,3,8,10,11,12,14,15,16,17] (by kernel_rfl) (by kernel_rfl) ?_
    repeat (first
     | (apply wpOrd_skip rfl (by decide) rfl; (focus (go_simp; rfl)))
     | (apply wpOrd_pure rfl rfl rfl; (focus (intro _ _; go_simp; (try go_ints); rfl)); (focus (go_simp; rfl)))
     | (apply wpOrd_read rfl rfl rfl; (focus (intro _; go_simp; (try go_ints); rfl)); (focus (go_simp; rfl))))
    refine wpOrd_eff rfl rfl (fun n6 => ?_)
    have b2' : (Wb.drewN n6).cell? ⟨g, off + i * 3 + 2, none⟩ = some (.int .i64 (f.lasts : Int)) := b2
    have fg' : (Wb.drewN n6).frozen? ⟨g, off + i * 3 + 2, none⟩ = false := hfz _
    go_wp2_with fail
    intro nr
    have hRn := HRS.out (Wb.drewN n6) (HKAB.out.drewN n6)
    rw [← HI.out] at hRn
    obtain ⟨V9, hV9⟩ : ∃ W, W = ((Wb.drewN n6).setCell ⟨g, off + i * 3 + 2, none⟩ (.int .i64 (N2 : Int))).drewN nr := ⟨_, rfl⟩
    have HRn := Lib.hid (show RRun w V9 r s.room (leftOf s.fuse) _ _ G by rw [hV9]; exact hRn.no ((Kp.refl No _).drewN nr))
    rw [← hV9]
    have HPm := Lib.hid (fun a c => (by have := HPn.out a c; rw [← HN2.out] at this; exact this : (absR (L1 ++ ⟨f.name, a, c, f.data.take N, N2⟩ :: L2)).Perm (cuFiles s.files name N)))
    clear hRn hV9 b0 b1 b2 b2' fg' hfz c1b rlb gl9 hmin
    have hd := rdid_any V9 r s.room (leftOf s.fuse) _ _ HRn.out.c
    rw [← left_next H0.out] at hd
    have HD := Lib.hid hd
    clear hd
    go_wp2_with fail
    refine HD.out.mono ?_
    rintro e wd ⟨rfl, hcd, hkd⟩
    have HRd := Lib.hid (HRn.out.setLeft hcd hkd)
    clear hcd hkd HD
    go_wp2_with fail
    go_ret
    rw [cuS, five0 H0.out HNS.out HE.out]
    exact RRun.stop (s := { s with fuse := s.fuse.map (· - 1), files := _ }) HRd.out (HPm.out _ _)
end Go.Proofs.YtdibkdgafidjgaaGreatDoor

