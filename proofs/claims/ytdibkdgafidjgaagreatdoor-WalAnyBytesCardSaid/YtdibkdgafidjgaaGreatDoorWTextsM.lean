/-
  Two lists of texts that are the same; the names of a log's segments, of both logs.
-/
import Derived.Test.YtdibkdgafidjgaaGreatDoorWc2
namespace Go.Proofs.YtdibkdgafidjgaaGreatDoor
open Go.RowKit Go.Mer
theorem str_rd {w : World} {B : Nat} {a : Option Addr} {L : List ByteArray} (h : Rd w B a (L.map Value.string)) {i : Nat} (hi : i < L.length) : ∃ g off, a = some ⟨g, off, none⟩ ∧ g < B ∧ B ≤ w.heap.size ∧ w.cell? ⟨g, off + i, none⟩ = some (.string L[i]) :=
 h.at_ (i := i) (u := .string L[i]) (by simp [hi])
set_option maxHeartbeats 1000000 in
theorem texts_same (a b : Option Addr) (c d B B' : Nat) (L : List ByteArray) (w : World) (hx : Rd w B a (L.map Value.string)) (hy : Rd w B' b (L.map Value.string)) (hl : L.length ≤ 1000000) :
  Calls Tryz.prog 36 #[.slice a L.length c, .slice b L.length d] w fun e w' => e = .returned (.bool true) ∧ ∃ n, w' = w.drewN n := by
 have HX := Lib.hid hx
 have HY := Lib.hid hy
 clear hx hy
 go_enter Tryz.func36, Tryz.ntmps36
 go_wp2_with fail
 go_loopg [5] L.length (fun g i wr => ∃ k : Nat, k ≤ L.length ∧ g = L.length - k ∧ i = .int .i64 k ∧ Hid (∃ n, wr = w.drewN n))
 case atStart => exact ⟨0, Nat.zero_le _, rfl, rfl, ⟨0, rfl⟩⟩
 case round =>
  obtain ⟨k, hk, rfl, rfl, hw⟩ := hrel
  by_cases hlt : k < L.length
  ·have hxw : Rd wr B a (L.map Value.string) := by obtain ⟨n, rfl⟩ := hw.out; exact HX.out
   have hyw : Rd wr B' b (L.map Value.string) := by obtain ⟨n, rfl⟩ := hw.out; exact HY.out
   obtain ⟨g, off, rfl, hg, hB, hc⟩ := str_rd hxw hlt
   obtain ⟨g', off', rfl, hg', hB', hc'⟩ := str_rd hyw hlt
   have hgl : g < wr.heap.size := by omega
   have hgl' : g' < wr.heap.size := by omega
   obtain ⟨y, hy⟩ : ∃ y, y = L[k] := ⟨_, rfl⟩
   rw [← hy] at hc hc'
   have hcn : ∀ n, (wr.drewN n).cell? ⟨g, off + k, none⟩ = some (.string y) := fun _ => hc
   have hcn' : ∀ n, (wr.drewN n).cell? ⟨g', off' + k, none⟩ = some (.string y) := fun _ => hc'
   clear hxw hyw hc hc' hy
   go_wp2_with fail
   refine wp_region_ord [0,0,0,1,0,0,0,1,0] [0,1,2,4,5,6,3,7,8] (by kernel_rfl) (by kernel_rfl) ?_
   repeat (first
    | (apply wpOrd_skip rfl (by decide) rfl; (focus (go_simp; rfl)))
    | (apply wpOrd_pure rfl rfl rfl; (focus (intro _ _; go_simp; (try go_ints); rfl)); (focus (go_simp; rfl)))
    | (apply wpOrd_read rfl rfl rfl; (focus (intro _; go_simp; (try go_ints); rfl)); (focus (go_simp; rfl))))
   refine wpOrd_nil (fun nq => ?_)
   go_wp2_with fail
   go_roundg (L.length - (k + 1))
   case measure => omega
   case rel => exact ⟨k + 1, by omega, rfl, by go_num, by obtain ⟨n, e⟩ := hw.out; exact ⟨n + nq, by rw [e, World.drewN_drewN]⟩⟩
  ·go_wp2_with fail
   go_ret
   exact ⟨rfl, hw.out⟩
def NmP (w : World) (L : List ByteArray) (e : Ending) (w' : World) : Prop := ∃ a c, e = .returned (.slice a L.length c) ∧ Rd w' w'.heap.size a (L.map Value.string) ∧ Kp No w w'
def NmO (w : World) (L : List ByteArray) (e : Ending) (w' : World) : Prop := ∃ a c, e = .returned (.slice a L.length c) ∧ Own w' 9 1 (.slice a L.length c) L.length (L.map Value.string) ∧ Kp No w w' ∧ ∀ g, (Value.slice a L.length c).ownBlock = some g → w.heap.size ≤ g
theorem take_nm {L : List ByteArray} {j : Nat} (hj : j < L.length) : L.take (j + 1) = L.take j ++ [L[j]] := List.take_succ_eq_append_getElem hj
set_option maxRecDepth 100000 in
set_option maxHeartbeats 4000000 in
theorem wNames_own (w : World) (l d : Nat) (P : ByteArray) (st : LSt) (G : Nat → Prop) (h : LogAt w l d P st G) (hs : st.segs.length ≤ 1000000) :
  Calls Tryz.prog 34 #[.pointer (some ⟨l, 0, none⟩)] w (NmO w (st.segs.map fun z => bnm P z.1)) := by
 obtain ⟨sv, ev, E, hC, hE, hLF, hGl⟩ := h
 obtain ⟨sa, sc, rfl, hsc, hsr⟩ := hC.segs.rd
 obtain ⟨_, _, c2, _, _, _, _⟩ := hC.cells
 have hll := get_lt hC.cell
 obtain ⟨L, hL⟩ : ∃ L, L = st.segs.map fun z => bnm P z.1 := ⟨_, rfl⟩
 obtain ⟨n, hn⟩ : ∃ n, n = st.segs.length := ⟨_, rfl⟩
 have hLn : L.length = n := by rw [hL, List.length_map, hn]
 have HSR := Lib.hid hsr
 have HN := Lib.hid hn
 have HL := Lib.hid hL
 have HLN := Lib.hid hLn
 rw [← hn] at c2 hs hsc
 rw [← hL]
 have c20 := c2 w (Kp.refl _ _)
 clear hC hE hLF hGl hsr hn hL c2 hLn
 go_enter Tryz.func34, Tryz.ntmps34
 go_wp2_with fail
 go_loopw [3, 13] (fun s3 s13 wr => ∃ (j : Nat) (a : Option Addr) (c : Nat), j ≤ n ∧ s3 = .slice a j c ∧ s13 = .int .i64 (j : Int) ∧ Hid (RowRel 9 1 strC w wr (.slice a j c) j (L.take j))) (fun _ s13 _ => n - (intOf s13).toNat)
 case atStart => exact ⟨0, none, 0, by omega, rfl, rfl, by show RowRel _ _ _ _ _ _ _ _; rw [List.take_zero]; exact RowRel.nil _ _ _ _⟩
 case round =>
  obtain ⟨j, a, c, hj, rfl, rfl, HR⟩ := hrel
  have hkr := HR.out.2.2.2
  by_cases hlt : j < n
  ·obtain ⟨sg, soff, rfl, hsc⟩ := rd_chunk (segC_len P) (by decide) HSR.out (k := j) (by rw [← HN.out]; exact hlt)
   have hg0 := hsc w (Kp.refl _ _) 0 _ rfl
   have hg1 := hsc w (Kp.refl _ _) 1 _ rfl
   rw [Nat.add_zero] at hg0
   have hsgl := World.block_lt_of_cell? w _ hg0
   have hr0 := (hkr.cell (p := ⟨sg, soff + j * 2, none⟩) hsgl (fun x => x)).trans hg0
   have hr1 := (hkr.cell (p := ⟨sg, soff + j * 2 + 1, none⟩) hsgl (fun x => x)).trans hg1
   obtain ⟨nm, hnm⟩ : ∃ nm, nm = bnm P (st.segs[j]'(by rw [← HN.out]; exact hlt)).1 := ⟨_, rfl⟩
   obtain ⟨zb, hzb⟩ : ∃ zb, zb = (st.segs[j]'(by rw [← HN.out]; exact hlt)).2 := ⟨_, rfl⟩
   have hjL : j < L.length := by rw [HLN.out]; exact hlt
   have htk := take_nm hjL
   have hLj : L[j] = nm := by
    have e := HL.out
    subst e
    rw [List.getElem_map, hnm]
   rw [hLj] at htk
   rw [← hnm] at hr0
   rw [← hzb] at hr1
   have hsgr := hkr.lt hsgl
   have HTK := Lib.hid htk
   clear hsc hg0 hg1 hnm hzb hLj htk hjL
   obtain ⟨w5, hw5⟩ : ∃ W, W = wr.alloc (.cells #[.string nm, .int .i64 (zb : Int)] 90) := ⟨_, rfl⟩
   have hk5 : Kp No wr w5 := by rw [hw5]; exact (Kp.refl _ _).alloc _
   have h5c : w5.cell? ⟨wr.heap.size, 0, none⟩ = some (.string nm) := by rw [hw5]; simp [go_sem]
   have h5l : wr.heap.size < w5.heap.size := by rw [hw5]; simp
   go_upto_region 7 with fail
   rw [← hw5]
   clear hw5
   have hk6 : Kp No w5 (w5.alloc (.cells #[.string nm] 9)) := (Kp.refl _ _).alloc _
   obtain ⟨a', c', W', hrun, ho, hkp⟩ := RowRel.app (P := Tryz.prog) (T := 70) Tryz.underlying70 infoStrW strC_one ((HR.out.keep hk5).keep hk6) [nm] (one_src (f := strC) strC_len (x := nm) (heap_alloc_new w5 _) rfl) rfl (by simp only [maxLen]; omega) (by omega)
   have HX := Lib.hid hrun
   have HNEW := Lib.hid (show RowRel 9 1 strC w W' (.slice a' (j + 1) c') (j + 1) (L.take (j + 1)) from by rw [HTK.out]; exact ho)
   clear hrun ho hkp hk5 hk6 hkr hr0 hr1 hsgr hsgl
   go_wp2_with (at_builtin; refine wpList_append_run rfl rfl rfl rfl HX.out ?_)
   go_roundw
   case rel => exact ⟨j + 1, a', c', by omega, rfl, by push_cast; rfl, HNEW⟩
   case measure => simp [intOf]; omega
  ·have hjn : j = n := by omega
   have hM := HR.out
   rw [hjn, show L.take n = L from by rw [← HLN.out]; exact List.take_length] at hM
   have hMo : Own wr 9 1 (.slice a n c) n (L.map Value.string) := by have := hM.2.1; rwa [strC_map] at this
   have HF := Lib.hid (And.intro hMo (And.intro hkr hM.2.2.1))
   rw [hjn]
   clear hM hMo hkr
   go_wp2_with fail
   go_ret
   unfold NmO
   rw [HLN.out]
   exact ⟨a, c, rfl, HF.out.1, HF.out.2.1, HF.out.2.2⟩
set_option maxRecDepth 100000 in
set_option maxHeartbeats 4000000 in
theorem xNames_own (w : World) (l d : Nat) (P : ByteArray) (st : LSt) (G : Nat → Prop) (h : RLogAt w l d P st G) (hs : st.segs.length ≤ 1000000) (hP : P.size ≤ 50) (hz : ∀ z ∈ st.segs, z.1 < 1000000) :
  Calls Tryz.prog 68 #[.pointer (some ⟨l, 0, none⟩)] w (NmO w (st.segs.map fun z => bnm P z.1)) := by
 obtain ⟨sv, ev, E, hC, hE, hLF, hGl⟩ := h
 obtain ⟨sa, sc, rfl, hsc, hsr⟩ := hC.segs.rd
 have hll := get_lt hC.cell
 obtain ⟨L, hL⟩ : ∃ L, L = st.segs.map fun z => bnm P z.1 := ⟨_, rfl⟩
 obtain ⟨n, hn⟩ : ∃ n, n = st.segs.length := ⟨_, rfl⟩
 have hLn : L.length = n := by rw [hL, List.length_map, hn]
 have HSR := Lib.hid hsr
 have HN := Lib.hid hn
 have HL := Lib.hid hL
 have HLN := Lib.hid hLn
 have HC := Lib.hid hC
 have HZ := Lib.hid hz
 obtain ⟨m, hm⟩ : ∃ m, m = (st.segs.map (·.1)).length := ⟨_, rfl⟩
 have hmn : m = n := by rw [hm, List.length_map, hn]
 have HM := Lib.hid hm
 rw [← hn] at hs
 rw [← hm] at hsc
 rw [← hL]
 clear hC hE hLF hGl hsr hn hL hLn hz hm
 go_enter Tryz.func68, Tryz.ntmps68
 go_wp2_with fail
 go_loopw [3, 4] (fun s3 s4 wr => ∃ (j : Nat) (a : Option Addr) (c : Nat), j ≤ n ∧ s3 = .slice a j c ∧ s4 = .int .i64 (j : Int) ∧ Hid (RowRel 9 1 strC w wr (.slice a j c) j (L.take j))) (fun _ s4 _ => n - (intOf s4).toNat)
 case atStart => exact ⟨0, none, 0, by omega, rfl, rfl, by show RowRel _ _ _ _ _ _ _ _; rw [List.take_zero]; exact RowRel.nil _ _ _ _⟩
 case round =>
  obtain ⟨j, a, c, hj, rfl, rfl, HR⟩ := hrel
  have hkr := HR.out.2.2.2
  obtain ⟨_, q1, _, q3, _, _, _⟩ := HC.out.cells
  have hc3 := q3 wr hkr
  rw [← HM.out] at hc3
  have hllr := hkr.lt hll
  by_cases hlt : j < n
  ·obtain ⟨sg, soff, rfl, hsc⟩ := rd_chunk numC_len (by decide) HSR.out (k := j) (by rw [← HM.out]; omega)
   have hg0 := hsc w (Kp.refl _ _) 0 _ rfl
   rw [Nat.mul_one, Nat.add_zero] at hg0
   have hsgl := World.block_lt_of_cell? w _ hg0
   have hjs : j < st.segs.length := by rw [← HN.out]; exact hlt
   obtain ⟨zn, hzn⟩ : ∃ zn, zn = (st.segs[j]'hjs).1 := ⟨_, rfl⟩
   have hznl : zn < 1000000 := by rw [hzn]; exact HZ.out _ (List.getElem_mem hjs)
   rw [List.getElem_map, ← hzn] at hg0
   have hjL : j < L.length := by rw [HLN.out]; exact hlt
   have htk := take_nm hjL
   have hLj : L[j] = bnm P zn := by
    have e := HL.out
    subst e
    rw [List.getElem_map, hzn]
   rw [hLj] at htk
   obtain ⟨nm, hnm⟩ : ∃ nm, nm = bnm P zn := ⟨_, rfl⟩
   rw [← hnm] at htk
   have HTK := Lib.hid htk
   have HNM := Lib.hid (fun W => rName_bnm P (by omega) zn hznl W)
   obtain ⟨T, hT⟩ : ∃ T : Nat → Prop, T = fun k => w.heap.size ≤ k := ⟨_, rfl⟩
   have HT := Lib.hid hT
   have hTl : ∀ k, k < w.heap.size → ¬ T k := fun k hk => by rw [hT]; simp only; omega
   have f1 : ∀ V, Kp T wr V → V.cell? ⟨l, 1, none⟩ = some (.string P) := fun V hV => (hV.cell (p := ⟨l, 1, none⟩) hllr (hTl l hll)).trans (q1 wr hkr)
   have f3 : ∀ V, Kp T wr V → V.cell? ⟨l, 3, none⟩ = some (.slice (some ⟨sg, soff, none⟩) m sc) := fun V hV => (hV.cell (p := ⟨l, 3, none⟩) hllr (hTl l hll)).trans hc3
   have fz : ∀ V, Kp T wr V → V.cell? ⟨sg, soff + j, none⟩ = some (.int .i64 (zn : Int)) := fun V hV => (hV.cell (p := ⟨sg, soff + j, none⟩) (hkr.lt hsgl) (hTl sg hsgl)).trans ((hkr.cell (p := ⟨sg, soff + j, none⟩) hsgl (fun x => x)).trans hg0)
   have hjm : j < m := by omega
   have hms : (m : Int) ≤ 1000000 := by omega
   have HHN := Lib.hid hnm
   clear hg0 hzn hznl hLj htk hjL hjs hsc hT hTl q1 q3 hnm hsgl
   go_upto_region 5 with fail
   refine wp_region_held' (Kp T wr) [0,0,0,0,0,0,0,0,0,0,0,0,2,2,2,0] [0,1,2,3,4,5,6,7,8,9,10,11,12,13,14,15] (by kernel_rfl) (by kernel_rfl) (fun _ n h => h.drewN n) (Kp.refl _ _) ?_
   repeat (first
    | (apply wpOrd_skip rfl (by decide) rfl; (focus (go_simp; rfl)))
    | (apply wpOrd_pure rfl rfl rfl; (focus (intro _ _; go_simp; (try go_ints); rfl)); (focus (go_simp; rfl)))
    | (apply wpOrd_read rfl rfl rfl; (focus (intro _; go_simp; (try go_ints); rfl)); (focus (go_simp; rfl))))
   refine wpOrd_eff rfl rfl (fun n1 => ?_)
   have hc := HNM.out (wr.drewN n1)
   rw [← HHN.out] at hc
   go_wp2_with fail
   with_reducible refine hc.mono ?_
   rintro e w1 ⟨rfl, hk1⟩
   clear hc
   have hk1' : Kp No wr w1 := hk1.of_drewN
   have HK1 := Lib.hid hk1'
   clear hk1 hk1'
   go_wp2_with fail
   refine ⟨Kp.of_no HK1.out, ?_⟩
   refine wpOrd_eff rfl rfl (fun n2 => ?_)
   obtain ⟨w2, hw2⟩ : ∃ V, V = (w1.drewN n2).alloc (.cells #[.string nm] 9) := ⟨_, rfl⟩
   have hk2 : Kp No wr w2 := by rw [hw2]; exact (HK1.out.drewN n2).alloc _
   have h2c : w2.heap[w1.heap.size]? = some (.cells #[.string nm] 9 (0, 0)) := by rw [hw2]; exact heap_alloc_new (w1.drewN n2) _
   have HK2 := Lib.hid (And.intro hk2 h2c)
   clear hk2 h2c
   go_wp2_with fail
   rw [← hw2]
   clear hw2
   refine ⟨Kp.of_no HK2.out.1, ?_⟩
   refine wpOrd_eff rfl rfl (fun n3 => ?_)
   obtain ⟨a', c', W', hrun, ho, hkp⟩ := RowRel.app (P := Tryz.prog) (T := 70) Tryz.underlying70 infoStrW strC_one ((HR.out.keep HK2.out.1).keep ((Kp.refl No w2).drewN n3)) [nm] (one_src (f := strC) strC_len (x := nm) (show (w2.drewN n3).heap[w1.heap.size]? = _ from HK2.out.2) rfl) rfl (by simp only [maxLen]; omega) (by omega)
   have HX := Lib.hid hrun
   have HNEW := Lib.hid (show RowRel 9 1 strC w W' (.slice a' (j + 1) c') (j + 1) (L.take (j + 1)) from by rw [HTK.out]; exact ho)
   have HKT := Lib.hid (show Kp T wr W' from ((Kp.of_no HK2.out.1).drewN n3).trans hkp fun i _ hi => by
    rw [HT.out]
    exact HR.out.2.2.1 i hi)
   clear hrun ho hkp
   refine wpList_append_run rfl rfl rfl rfl HX.out (wpList_nil ⟨rfl, HKT.out, ?_⟩)
   repeat (first
    | (apply wpOrd_skip rfl (by decide) rfl; (focus (go_simp; rfl)))
    | (apply wpOrd_pure rfl rfl rfl; (focus (intro _ _; go_simp; (try go_ints); rfl)); (focus (go_simp; rfl)))
    | (apply wpOrd_read rfl rfl rfl; (focus (intro _; go_simp; (try go_ints); rfl)); (focus (go_simp; rfl))))
   refine wpOrd_nil (fun nq => ?_)
   clear f1 f3 fz
   have HNEW2 := Lib.hid (HNEW.out.keep ((Kp.refl No W').drewN nq))
   go_wp2_with fail
   go_roundw
   case rel => exact ⟨j + 1, a', c', by omega, rfl, by push_cast; rfl, HNEW2⟩
   case measure => simp [intOf]; omega
  ·have hjn : j = n := by omega
   have hM := HR.out
   rw [hjn, show L.take n = L from by rw [← HLN.out]; exact List.take_length] at hM
   have hMo : Own wr 9 1 (.slice a n c) n (L.map Value.string) := by have := hM.2.1; rwa [strC_map] at this
   have HF := Lib.hid (And.intro hMo (And.intro hkr hM.2.2.1))
   have hmj : m = j := by omega
   rw [hmj] at hc3
   rw [hjn] at hc3 ⊢
   clear hM hMo hkr hmj q1 q3 hjn
   go_wp2_with fail
   go_ret
   unfold NmO
   rw [HLN.out]
   exact ⟨a, c, rfl, HF.out.1, HF.out.2.1, HF.out.2.2⟩
theorem wNames_any (w : World) (l d : Nat) (P : ByteArray) (st : LSt) (G : Nat → Prop) (h : LogAt w l d P st G) (hs : st.segs.length ≤ 1000000) :
  Calls Tryz.prog 34 #[.pointer (some ⟨l, 0, none⟩)] w (NmP w (st.segs.map fun z => bnm P z.1)) := by
 refine (wNames_own w l d P st G h hs).mono ?_
 rintro e w' ⟨a, c, rfl, h1, h2, _⟩
 exact ⟨a, c, rfl, h1.rd', h2⟩
theorem xNames_any (w : World) (l d : Nat) (P : ByteArray) (st : LSt) (G : Nat → Prop) (h : RLogAt w l d P st G) (hs : st.segs.length ≤ 1000000) (hP : P.size ≤ 50) (hz : ∀ z ∈ st.segs, z.1 < 1000000) :
  Calls Tryz.prog 68 #[.pointer (some ⟨l, 0, none⟩)] w (NmP w (st.segs.map fun z => bnm P z.1)) := by
 refine (xNames_own w l d P st G h hs hP hz).mono ?_
 rintro e w' ⟨a, c, rfl, h1, h2, _⟩
 exact ⟨a, c, rfl, h1.rd', h2⟩
end Go.Proofs.YtdibkdgafidjgaaGreatDoor

