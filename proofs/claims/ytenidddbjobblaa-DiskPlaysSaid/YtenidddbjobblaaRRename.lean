/-
  The reference's disk: Rename.
-/
import Derived.Test.YtenidddbjobblaaRRem
import Derived.Deep.CutRange
namespace Go.Proofs.Ytenidddbjobblaa
open Go.RowKit Go.Mer

theorem mv_self {T S : Files} (hp : T.Perm S) (hn : (T.map (·.1)).Nodup) {k : ByteArray} {x : FileS} (h : gget S k = some x) : T.Perm (mvFiles S k k) := by
  unfold mvFiles
  rw [h]
  simp only
  have hT : gget T k = some x := by rw [gget_perm hp hn]; exact h
  obtain ⟨l1, l2, rfl, _⟩ := gget_split hT
  have h1 := gset_perm (gdel_perm hp k) k x
  rw [gdel_mid hn] at h1
  refine List.Perm.trans (gset_mid x ?_) h1
  rw [List.map_append, List.map_cons, List.nodup_append] at hn
  rw [List.map_append, List.mem_append]
  rintro (hm | hm)
  · exact hn.2.2 _ hm _ (List.mem_cons_self ..) rfl
  · exact (List.nodup_cons.1 hn.2.1).1 hm
theorem gset_gdel {S : Files} (hn : (S.map (·.1)).Nodup) (k : ByteArray) (v : FileS) : (gset (gdel S k) k v).Perm (gset S k v) := by
  cases h : gget S k with
  | none => rw [gdel_none (gget_none_iff.1 h)]
  | some u =>
    obtain ⟨l1, l2, rfl, _⟩ := gget_split h
    rw [gset_split hn, gdel_mid hn]
    refine (gset_mid v ?_).symm
    rw [List.map_append, List.map_cons, List.nodup_append] at hn
    rw [List.map_append, List.mem_append]
    rintro (hm | hm)
    · exact hn.2.2 _ hm _ (List.mem_cons_self ..) rfl
    · exact (List.nodup_cons.1 hn.2.1).1 hm
theorem names_all (a b : ByteArray) : ([a, b] : List ByteArray).length = 2 := rfl
set_option maxRecDepth 100000 in
set_option maxHeartbeats 2000000 in
theorem rRename_any (w : World) (r : Nat) (s : DSt) (G : Nat → Prop) (h : RAt w r s G) (old name : ByteArray) :
    Calls Try.prog 43 #[.pointer (some ⟨r, 0, none⟩), .string old, .string name] w (SaidR w r G (mvS s old name)) := by
  obtain ⟨rv, L, hR, hp, hGl⟩ := RRun.start h
  obtain ⟨W1, hW1⟩ : ∃ W, W = w.alloc (.cells #[.string old, .string name] 9) := ⟨_, rfl⟩
  have k1 : Kp No w W1 := by rw [hW1]; exact (Kp.refl _ _).alloc _
  have hR1 := hR.no k1
  have hm := rmay_any W1 r s.room (leftOf s.fuse) rv L hR1.c (some ⟨w.heap.size, 0, none⟩) 2 [old, name] (by rw [hW1]; exact names_rd w old name) (by simp)
  rw [show (if leftOf s.fuse = 0 then (9 : Int) else if ([old, name] : List ByteArray).all nameOk = true then 0 else 1) = mayQ s.fuse [old, name] from rfl] at hm
  have hq := mayQ_cases s.fuse [old, name]
  obtain ⟨q, hq0⟩ : ∃ q, q = mayQ s.fuse [old, name] := ⟨_, rfl⟩
  rw [← hq0] at hm hq
  have HM := Lib.hid hm
  have HQ := Lib.hid hq
  have HP := Lib.hid hp
  have HR1 := Lib.hid hR1
  have HW1 := Lib.hid hW1
  skip
  clear hm hq hp hR1 hW1 k1 hR hGl h hq0
  go_enter Try.func43, Try.ntmps43
  go_wp2_with fail
  rw [← HW1.out]
  refine HM.out.mono ?_
  rintro e w2 ⟨rfl, hk2⟩
  have HR2 := Lib.hid (HR1.out.no hk2)
  clear hk2 HM
  rcases HQ.out with ⟨h0, rfl⟩ | ⟨h0, hns, rfl⟩ | ⟨h0, hns, rfl⟩
  ·
    have H0 := Lib.hid h0
    clear h0
    go_wp2_with fail
    go_ret
    rw [mvS, five9 H0.out]
    exact HR2.out.stop HP.out
  ·
    have H0 := Lib.hid h0
    have HNS := Lib.hid hns
    clear h0 hns
    go_wp2_with fail
    go_ret
    rw [mvS, five1 H0.out HNS.out]
    exact HR2.out.stop HP.out
  have H0 := Lib.hid h0
  have HNS := Lib.hid hns
  clear h0 hns HQ HR1 HW1
  have hs := rspot_any w2 r s.room (leftOf s.fuse) rv L HR2.out.c old
  have HSP := Lib.hid hs
  clear hs
  go_wp2_with fail
  refine HSP.out.mono ?_
  rintro e w3 ⟨i, b, rfl, hsp, hk3⟩
  have HR3 := Lib.hid (HR2.out.no hk3)
  clear hk3 HSP HR2
  have HGE := Lib.hid (gget_perm HP.out HR3.out.c.sorted.keys old)
  cases hsp with
  | no L1 L2 hL h1 h2 =>
    have HE := Lib.hid (show mvCode s old = 7 by
      unfold mvCode
      rw [if_pos]
      rw [← HGE.out, hL]
      exact get_no h1 h2)
    clear hL h1 h2
    go_wp2_with fail
    go_ret
    rw [mvS, fiveE H0.out HNS.out (by rw [HE.out]; decide), HE.out]
    exact HR3.out.stop HP.out
  | is L1 f L2 hL hk =>
    subst hL
    have hga : gget s.files old = some ⟨f.data, f.lasts⟩ := by rw [← HGE.out, ← hk]; exact get_is HR3.out.c.sorted rfl
    have HGA := Lib.hid hga
    have HE := Lib.hid (show mvCode s old = 0 by unfold mvCode; rw [if_neg (by rw [hga]; simp)])
    have HKo := Lib.hid hk
    clear hga hk
    by_cases hsame : old = name
    · subst hsame
      have f1 : (old.toList == old.toList) = true := beq_self_eq_true _
      have HPn := Lib.hid (mv_self HP.out HR3.out.c.sorted.keys HGA.out)
      have HRn := HR3
      go_wp2_with fail
      have hd := rdid_any w3 r s.room (leftOf s.fuse) _ _ HRn.out.c
      rw [← left_next H0.out] at hd
      have HD := Lib.hid hd
      clear hd
      go_wp2_with fail
      refine HD.out.mono ?_
      rintro e wd ⟨rfl, hcd, hkd⟩
      have HRd := Lib.hid (HRn.out.setLeft hcd hkd)
      clear hcd hkd HD
      go_wp2_with fail
      go_ret
      rw [mvS, five0 H0.out HNS.out HE.out]
      exact RRun.stop (s := { s with fuse := s.fuse.map (· - 1), files := _ }) HRd.out HPn.out
    · have f1 : (old.toList == name.toList) = false := by rw [← beq_toListBytes]; exact beq_false_of_ne hsame
      clear hsame
      obtain ⟨g, off, rcap, n, hn, hlt, hcap, hgr, rfl, hcells⟩ := HR3.out.c.at_
      obtain ⟨i, hi⟩ : ∃ i, i = L1.length := ⟨_, rfl⟩
      rw [← hi] at hlt ⊢
      obtain ⟨c1, d0, d1, d2, fr, fg, rl, gl⟩ := hcells w3 (Kp.refl _ _)
      rw [← hi] at d0 d1 d2
      have HF := Lib.hid (HR3.out.c.files f (by simp))
      have HFG := Lib.hid (show ∀ k, f.val.ownBlock = some k → G k ∨ w.heap.size ≤ k from fun k hk => HR3.out.foot k (.inr (.inr ⟨f, by simp, hk⟩)))
      obtain ⟨m, hm⟩ : ∃ m, m = f.data.length := ⟨_, rfl⟩
      rw [← hm] at d1
      have HMm := Lib.hid hm
      obtain ⟨L0, hL0⟩ : ∃ L0, L0 = L1 ++ f :: L2 := ⟨_, rfl⟩
      rw [← hL0] at HR3 HP
      obtain ⟨W4, hW4⟩ : ∃ W, W = w3.alloc (.cells #[.string name, .slice f.a m f.cap, .int .i64 (f.lasts : Int)] 77) := ⟨_, rfl⟩
      have k4 : Kp No w3 W4 := by rw [hW4]; exact (Kp.refl No w3).alloc _
      have b4 : W4.heap[w3.heap.size]? = some (.cells #[.string name, .slice f.a m f.cap, .int .i64 (f.lasts : Int)] 77 (0, 0)) := by rw [hW4]; exact heap_alloc_new w3 _
      have HB4 := Lib.hid b4
      have HF4 := Lib.hid (HF.out.keep k4 fun _ _ x => x)
      have HFne := Lib.hid (show ∀ k, f.val.ownBlock = some k → k ≠ r from fun k hk => (HR3.out.c.data_ne (by rw [hL0]; simp) hk).1)
      have hc4 := rrem_any w W4 r s.room (leftOf s.fuse) _ L0 G (HR3.out.no k4) old
      have HC4 := Lib.hid hc4
      have HW4 := Lib.hid hW4
      have HFITL := Lib.hid (show totF (absR (rdel (rdel L0 old) name)) + f.data.length ≤ s.room by
        have h1 := HR3.out.c.fits
        have h2 := rdel_is (by rw [← hL0]; exact HR3.out.c.sorted : SortedR (L1 ++ f :: L2))
        rw [HKo.out, ← hL0] at h2
        rw [hL0, totF_mid] at h1
        rw [h2, rdel_abs]
        have h3 := totF_gdel (absR (L1 ++ L2)) name
        omega)
      have HFEWL := Lib.hid (show (rdel (rdel L0 old) name).length + 1 ≤ 4096 by
        have h1 := HR3.out.c.few
        have h2 := rdel_is (by rw [← hL0]; exact HR3.out.c.sorted : SortedR (L1 ++ f :: L2))
        rw [HKo.out, ← hL0] at h2
        rw [h2]
        have h3 : (rdel (L1 ++ L2) name).length ≤ (L1 ++ L2).length := List.length_filter_le _ _
        rw [hL0] at h1
        simp only [List.length_append, List.length_cons] at h1 h3 ⊢
        omega)
      have HPL := Lib.hid (show (absR (rdel (rdel L0 old) name)).Perm (gdel (gdel s.files old) name) by
        rw [rdel_abs, rdel_abs]
        exact gdel_perm (gdel_perm HP.out old) name)
      have HKeys := Lib.hid (show ((gdel s.files old).map (·.1)).Nodup from gdel_keys old (((HP.out.map _).nodup_iff.1 HR3.out.c.sorted.keys)))
      obtain ⟨q, hq⟩ : ∃ q, q = w3.heap.size := ⟨_, rfl⟩
      rw [← hq] at HB4
      have hqr : q ≠ r := by omega
      have HQR := Lib.hid hqr
      obtain ⟨rv3, hrv3⟩ : ∃ v, v = Value.slice (some ⟨g, off, none⟩) n rcap := ⟨_, rfl⟩
      rw [← hrv3] at HR3
      clear hn hi hcells hm hL0 hW4 b4 k4 hc4 hqr hrv3
      go_upto_region 11 with fail
      rw [← HW4.out, ← hq]
      clear hq HW4 c1 d0 d1 d2 fr fg rl gl hcap hgr hlt
      go_wp2_with fail
      refine HC4.out.mono ?_
      rintro e w5 ⟨rfl, ⟨rv5, hR5⟩, hk5⟩
      have hc5 := rrem_any w w5 r s.room (leftOf s.fuse) rv5 (rdel L0 old) G hR5 name
      have HC5 := Lib.hid hc5
      have HK5 := Lib.hid hk5
      clear hR5 hk5 hc5 HC4
      go_wp2_with fail
      refine HC5.out.mono ?_
      rintro e w6 ⟨rfl, ⟨rv6, hR6⟩, hk6⟩
      obtain ⟨L, hLd⟩ : ∃ L, L = rdel (rdel L0 old) name := ⟨_, rfl⟩
      rw [← hLd] at hR6 HFITL HFEWL HPL
      have HLD := Lib.hid hLd
      have hs := rspot_any w6 r s.room (leftOf s.fuse) rv6 L hR6.c name
      have HSP := Lib.hid hs
      have HR6 := Lib.hid hR6
      have HK6 := Lib.hid (HK5.out.trans_same hk6)
      clear hs hR6 hk6 HC5 HK5 hLd
      go_wp2_with fail
      refine HSP.out.mono ?_
      rintro e w7 ⟨i2, b2, rfl, hsp2, hk7⟩
      have HR7 := Lib.hid (HR6.out.no hk7)
      have HK7 := Lib.hid (HK6.out.trans_no hk7)
      clear hk7 HSP HR6 HK6
      have HB7 := Lib.hid (HK7.out.get HB4.out fun (e : q = r) => HQR.out e)
      have HF7 := Lib.hid (show RFileOk w7 f from HF4.out.keep HK7.out fun k hk (e : k = r) => HFne.out k hk e)
      cases hsp2 with
      | is M1 f2 M2 hL2 hk2 =>
        exfalso
        have h1 : f2 ∈ rdel (rdel L0 old) name := by rw [← HLD.out, hL2]; simp
        unfold rdel at h1
        have h2 := (List.mem_filter.1 h1).2
        simp only [decide_eq_true_eq] at h2
        exact h2 hk2
      | no L1' L2' hL h1 h2 =>
        obtain ⟨w3, hw3⟩ : ∃ x, x = w7 := ⟨_, rfl⟩
        obtain ⟨V, hV⟩ : ∃ x, x = w3 := ⟨_, rfl⟩
        obtain ⟨L1, hL1⟩ : ∃ x, x = L1' := ⟨_, rfl⟩
        obtain ⟨L2, hL2⟩ : ∃ x, x = L2' := ⟨_, rfl⟩
        rw [← hw3] at HR7 HB7 HF7 ⊢
        rw [← hL1, ← hL2] at hL
        rw [← hL1] at h1 ⊢
        rw [← hL2] at h2
        rw [← hV]
        have HKV := Lib.hid (show Kp No w3 V by rw [hV]; exact Kp.refl _ _)
        have HRV0 := Lib.hid (show RRun w V r s.room (leftOf s.fuse) rv6 L G by rw [hV]; exact HR7.out)
        have HL := Lib.hid hL
        obtain ⟨f9, hf9⟩ : ∃ f9 : RFile, f9 = ⟨name, f.a, f.cap, f.data, f.lasts⟩ := ⟨_, rfl⟩
        have hs0 : SortedR (L1 ++ L2) := by rw [← hL]; exact HR7.out.c.sorted
        have hso : SortedR (L1 ++ f9 :: L2) := sorted_put hs0 (by rw [hf9]; exact h1) (by rw [hf9]; exact h2)
        have HSO := Lib.hid hso
        have HFEW := Lib.hid (show L.length + 1 ≤ 4096 from HFEWL.out)
        have HFIT0 := Lib.hid (show totF (absR (L1 ++ f9 :: L2)) ≤ s.room by
          rw [totF_mid, hf9, ← hL]
          exact HFITL.out)
        have HPn := Lib.hid (show (absR (L1 ++ f9 :: L2)).Perm (mvFiles s.files old name) by
          unfold mvFiles
          rw [HGA.out]
          have h3 := perm_put (S := gdel (gdel s.files old) name) (f := f9) hso (hL ▸ HPL.out)
          rw [hf9] at h3 ⊢
          exact h3.trans (gset_gdel HKeys.out name _))
        obtain ⟨rv, hrve⟩ : ∃ v, v = rv6 := ⟨_, rfl⟩
        rw [← hrve] at HRV0 HR7
        obtain ⟨ra, rcap, hrv, hrc, hrd⟩ := HR7.out.c.row.rd
        have HC1 := Lib.hid (show ∀ W, Kp No w3 W → W.cell? ⟨r, 1, none⟩ = some (.slice ra L.length rcap) from fun W hW => by rw [cell_at (HR7.out.c.keep_no hW).cell, hrv]; rfl)
        have rl : r < w3.heap.size := get_lt HR7.out.c.cell
        have hfew : L.length ≤ 4096 := HR7.out.c.few
        have hile : L1.length ≤ L.length := by rw [hL]; simp
        have hic : L1.length ≤ rcap := by omega
        have HRD := Lib.hid hrd
        have HFC := Lib.hid (show f9.cells = [.string name, .slice f.a m f.cap, .int .i64 (f.lasts : Int)] by rw [hf9, HMm.out]; rfl)
        have HOK := Lib.hid (show ∀ W9, Kp No V W9 → (RFileOk W9 f9 ∧ ∀ k, f9.val.ownBlock = some k → G k ∨ w.heap.size ≤ k) from fun W9 hW9 => by
          rw [hf9]
          exact ⟨HF7.out.keep (HKV.out.trans_same hW9) fun _ _ x => x, HFG.out⟩)
        have HB3 := Lib.hid (show ∀ W, Kp No w3 W → W.cell? ⟨q, 0, none⟩ = some (.string name) ∧ W.cell? ⟨q, 1, none⟩ = some (.slice f.a m f.cap) ∧ W.cell? ⟨q, 2, none⟩ = some (.int .i64 (f.lasts : Int)) ∧ q < W.heap.size from fun W hW => by
          have hb := hW.get HB7.out fun x => x
          refine ⟨?_, ?_, ?_, get_lt hb⟩
          · rw [cell_at hb]; rfl
          · rw [cell_at hb]; rfl
          · rw [cell_at hb]; rfl)
        clear hw3 hV hL1 hL2 hL h1 h2 hs0 hso hf9 hrve hrd
        go_upto_region 14 with fail
        obtain ⟨i, hi⟩ : ∃ i, i = L1.length := ⟨_, rfl⟩
        obtain ⟨n, hn⟩ : ∃ n, n = L.length := ⟨_, rfl⟩
        have hLn : L.length = L1.length + L2.length := by rw [HL.out]; simp
        have htk : (L.flatMap RFile.cells).take (i * 3) = L1.flatMap RFile.cells := by
          rw [chunk_take RFile.cells 3 RFile.cells_len, HL.out, hi]
          simp
        have hdr : (L.flatMap RFile.cells).drop (i * 3) = L2.flatMap RFile.cells := by
          rw [chunk_drop RFile.cells 3 RFile.cells_len, HL.out, hi]
          simp
        obtain ⟨W5, hW5⟩ : ∃ W, W = V.alloc (.cells #[] 77) := ⟨_, rfl⟩
        have k5 : Kp No V W5 := by rw [hW5]; exact (Kp.refl _ _).alloc _
        have kw5 : Kp No w3 W5 := HKV.out.trans_same k5
        have rr5 : RowRel 77 3 RFile.cells V W5 (.slice (some ⟨V.heap.size, 0, none⟩) 0 0) 0 [] := by rw [hW5]; exact RowRel.made (Kp.refl _ _)
        have hrd5 := ((HRD.out.kp kw5).take (i * 3))
        rw [htk] at hrd5
        obtain ⟨a6, c6, W6, hrun, hm, _⟩ := rr5.app Try.underlying73 infoRFile RFile.cells_one L1 (rows_src RFile.cells_len (c := rcap) hrd5) rfl (by unfold maxLen; omega) (by omega)
        simp only [Nat.zero_add, List.nil_append] at hrun hm
        rw [← hi] at hrun hm
        have kv6 := hm.2.2.2
        have eV := HC1.out V HKV.out
        have rlV : r < V.heap.size := Nat.lt_of_lt_of_le rl HKV.out.size
        obtain ⟨W7, hW7⟩ : ∃ W, W = W6.alloc (.cells #[.string name, .slice f.a m f.cap, .int .i64 (f.lasts : Int)] 77) := ⟨_, rfl⟩
        have k67 : Kp No W6 W7 := by rw [hW7]; exact (Kp.refl _ _).alloc _
        have b7 : W7.heap[W6.heap.size]? = some (.cells #[.string name, .slice f.a m f.cap, .int .i64 (f.lasts : Int)] 77 (0, 0)) := by rw [hW7]; exact heap_alloc_new W6 _
        obtain ⟨a8, c8, W8, hrun8, hm8, _⟩ := (hm.keep k67).app Try.underlying73 infoRFile RFile.cells_one [(f9 : RFile)] (one_src RFile.cells_len b7 HFC.out.symm) rfl (by unfold maxLen; omega) (by omega)
        have kv8 := hm8.2.2.2
        obtain ⟨tq0, tq1, tq2, tql⟩ := HB3.out W6 (HKV.out.trans_same kv6)
        have kw8 : Kp No w3 W8 := HKV.out.trans_same kv8
        have e8 := HC1.out W8 kw8
        have rl8 : r < W8.heap.size := Nat.lt_of_lt_of_le rl kw8.size
        rw [hW5] at hrun
        rw [hW7] at hrun8
        have HX6 := Lib.hid hrun
        have HX8 := Lib.hid hrun8
        have HM8 := Lib.hid hm8
        have HDR := Lib.hid hdr
        have hin : i ≤ n := by omega
        have hnc : n ≤ rcap := by omega
        have hn2 : n ≤ 4096 := by have := HFEW.out; omega
        rw [← hn] at eV e8
        rw [← hi]
        have HI := Lib.hid hi
        have HNN := Lib.hid hn
        have hL2 : L2.length = n - i := by omega
        have HL2n := Lib.hid hL2
        have hrd8 := HRD.out.kp kw8
        have HRD8 := Lib.hid hrd8
        have HKW8 := Lib.hid kw8
        have HFL := Lib.hid (show ∀ W9, Kp No V W9 → ∀ f ∈ (L1 ++ [(f9 : RFile)]) ++ L2, f ∈ L ∨ (RFileOk W9 f ∧ ∀ g, f.val.ownBlock = some g → G g ∨ w.heap.size ≤ g) from fun W9 hW9 f hf => by
          rw [HL.out]
          rcases List.mem_append.1 hf with hf | hf
          · rcases List.mem_append.1 hf with hf | hf
            · exact .inl (List.mem_append_left _ hf)
            · obtain rfl := List.mem_singleton.1 hf
              exact .inr (HOK.out W9 hW9)
          · exact .inl (List.mem_append_right _ hf))
        have HQ := Lib.hid (show (L1 ++ [(f9 : RFile)]) ++ L2 = L1 ++ f9 :: L2 by rw [List.append_assoc]; rfl)
        have HFW := Lib.hid (show ((L1 ++ [(f9 : RFile)]) ++ L2).length ≤ 4096 by have := HFEW.out; rw [HQ.out, List.length_append, List.length_cons]; omega)
        clear hrun hrun8 hm hm8 hW5 hW7 k5 kw5 rr5 hrd5 kv6 k67 b7 kv8 kw8 hLn htk hdr hL2 hi hn
        go_upto_region 15 with (at_builtin; refine wpList_append_run rfl rfl rfl rfl HX6.out ?_)
        go_upto_region 16 with (at_builtin; refine wpList_append_run rfl rfl rfl rfl HX8.out ?_)
        clear HX6 HX8 eV
        go_cut [] from 68 to 78 (fun wx => Hid (∃ rv', RRun w wx r s.room (leftOf s.fuse) rv' (L1 ++ f9 :: L2) G))
        case first =>
          rcases Nat.lt_or_ge i n with hlt | hge
          · have hic2 : i < rcap := by omega
            obtain ⟨g, off, rfl, _, _, _⟩ := hrd8 (by rw [chunk_len RFile.cells 3 RFile.cells_len, ← HNN.out]; omega)
            have hd := hrd8.drop (i * 3)
            rw [HDR.out] at hd
            have hsrc := rows_src RFile.cells_len (c := rcap - i) hd
            rw [HL2n.out] at hsrc
            obtain ⟨a9, c9, w9, hrun, hm, _⟩ := HM8.out.app Try.underlying73 infoRFile RFile.cells_one L2 hsrc HL2n.out.symm (by unfold maxLen; omega) (by omega)
            rw [show i + 1 + (n - i) = n + 1 from by omega] at hrun hm
            simp only [Option.map_some, add_lit'] at hrun
            obtain ⟨hR9, ec, fc, rc⟩ := HRV0.out.laid hm (HFL.out w9 hm.2.2.2) (by rw [HQ.out]; exact HSO.out) (by rw [HQ.out]; exact HFIT0.out) HFW.out
            rw [HQ.out] at hR9
            have HX9 := Lib.hid hrun
            have HR9 := Lib.hid hR9
            rw [hrv, ← HNN.out] at ec
            clear hd hsrc hrun hm hrd8 hR9
            go_wp2_with (at_builtin; refine wpList_append_run rfl rfl rfl rfl HX9.out ?_)
            go_meet
            case rel => exact Lib.hid ⟨_, HR9.out⟩
          · obtain rfl : i = n := by omega
            have hl2 : L2 = [] := List.eq_nil_of_length_eq_zero (by have := HL2n.out; omega)
            have hm0 := fun (v : Option Addr) (c : Nat) => HM8.out.app Try.underlying73 infoRFile RFile.cells_one L2 (x := .slice v 0 c) (m := 0) (by rw [hl2]; exact nil_src v c) (by rw [hl2]; rfl) (by unfold maxLen; omega) (by omega)
            have HM0 := Lib.hid hm0
            have HL2e := Lib.hid hl2
            clear hm0 hl2 hrd8
            cases ra with
            | none =>
              obtain ⟨a9, c9, w9, hrun, hm, _⟩ := HM0.out none (rcap - i)
              rw [Nat.add_zero] at hrun hm
              obtain ⟨hR9, ec, fc, rc⟩ := HRV0.out.laid hm (HFL.out w9 hm.2.2.2) (by rw [HQ.out]; exact HSO.out) (by rw [HQ.out]; exact HFIT0.out) HFW.out
              rw [HQ.out] at hR9
              have HX9 := Lib.hid hrun
              have HR9 := Lib.hid hR9
              rw [hrv, ← HNN.out] at ec
              clear hrun hm hR9
              go_wp2_with (at_builtin; refine wpList_append_run rfl rfl rfl rfl HX9.out ?_)
              go_meet
              case rel => exact Lib.hid ⟨_, HR9.out⟩
            | some a0 =>
              by_cases hcc : i = rcap
              · subst hcc
                obtain ⟨a9, c9, w9, hrun, hm, _⟩ := HM0.out (some a0) 0
                clear hnc hin hic
                rw [Nat.add_zero] at hrun hm
                obtain ⟨hR9, ec, fc, rc⟩ := HRV0.out.laid hm (HFL.out w9 hm.2.2.2) (by rw [HQ.out]; exact HSO.out) (by rw [HQ.out]; exact HFIT0.out) HFW.out
                rw [HQ.out] at hR9
                have HX9 := Lib.hid hrun
                have HR9 := Lib.hid hR9
                rw [hrv, ← HNN.out] at ec
                clear hrun hm hR9
                go_wp2_with (at_builtin; refine wpList_append_run rfl rfl rfl rfl HX9.out ?_)
                go_meet
                case rel => exact Lib.hid ⟨_, HR9.out⟩
              · have hcc2 : i < rcap := by omega
                obtain ⟨a9, c9, w9, hrun, hm, _⟩ := HM0.out (some (a0.add (i * 3))) (rcap - i)
                rw [Nat.add_zero] at hrun hm
                obtain ⟨hR9, ec, fc, rc⟩ := HRV0.out.laid hm (HFL.out w9 hm.2.2.2) (by rw [HQ.out]; exact HSO.out) (by rw [HQ.out]; exact HFIT0.out) HFW.out
                rw [HQ.out] at hR9
                have HX9 := Lib.hid hrun
                have HR9 := Lib.hid hR9
                rw [hrv, ← HNN.out] at ec
                clear hrun hm hR9
                go_wp2_with (at_builtin; refine wpList_append_run rfl rfl rfl rfl HX9.out ?_)
                go_meet
                case rel => exact Lib.hid ⟨_, HR9.out⟩
        case rest =>
        obtain ⟨rv9, hR9⟩ := hcut.out
        have HRn := Lib.hid hR9
        clear hcut hR9
        rename World => V9
        have hd := rdid_any V9 r s.room (leftOf s.fuse) _ _ HRn.out.c
        rw [← left_next H0.out] at hd
        have HD := Lib.hid hd
        clear hd
        go_wp2_with fail
        refine HD.out.mono ?_
        rintro e wd ⟨rfl, hcd, hkd⟩
        have HRd := Lib.hid (HRn.out.setLeft hcd hkd)
        clear hcd hkd HD
        go_wp2_with fail
        go_ret
        rw [mvS, five0 H0.out HNS.out HE.out]
        exact RRun.stop (s := { s with fuse := s.fuse.map (· - 1), files := _ }) HRd.out HPn.out
end Go.Proofs.Ytenidddbjobblaa
