/-
  Texts laid together: WDoes1, RCrash, RD3, WDoes2.
-/
import Derived.Test.YtdibkdgafidjgaaGreatDoorWc2
import Derived.Test.YtdibkdgafidjgaaGreatDoorWa9
import Derived.Test.YtdibkdgafidjgaaGreatDoorWa3
import Derived.Deep.CutRange
namespace Go.Proofs.YtdibkdgafidjgaaGreatDoor
open Go.RowKit Go.Mer
def DoesP (w W : World) (p d r l x : Nat) (P : ByteArray) (s' : DSt) (st' : LSt) (Z : Nat → Prop) (e : Ending) (w' : World) : Prop :=
 e = .returned (.bool true) ∧ ∃ Z', PL w w' p d r l x P s' st' s' st' Z' ∧ Foot Z Z' W ∧ Kp Z W w'
theorem step_cells {W : World} {q : Nat} {v0 v1 v2 v3 : Value} (h : W.heap[q]? = some (.cells #[v0, v1, v2, v3] 59 (0, 0))) (T : Nat → Prop) (hT : ¬ T q) :
  (∀ V, Kp T W V → V.cell? ⟨q, 0, none⟩ = some v0) ∧ (∀ V, Kp T W V → V.cell? ⟨q, 1, none⟩ = some v1) ∧ (∀ V, Kp T W V → V.cell? ⟨q, 2, none⟩ = some v2) ∧ ∀ V, Kp T W V → V.cell? ⟨q, 3, none⟩ = some v3 :=
 ⟨fun V hk => by rw [cell_at (hk.get h hT)]; rfl, fun V hk => by rw [cell_at (hk.get h hT)]; rfl, fun V hk => by rw [cell_at (hk.get h hT)]; rfl, fun V hk => by rw [cell_at (hk.get h hT)]; rfl⟩
set_option maxRecDepth 100000 in
set_option maxHeartbeats 4000000 in
theorem does1 (w W : World) (p d r l x k : Nat) (P : ByteArray) (s : DSt) (st : LSt) (Z : Nat → Prop) (h : PL w W p d r l x P s st s st Z) (hpow : Pow w) (hP : P.size ≤ 50) (hF : Fit k P s st) (hk : k ≤ 3000) (hW : Whole P s st)
  (N : Int) (tear : Int) (ba : Option Addr) (bc : Nat) (b : List UInt8) (hb : ∀ V, Kp Z W V → Rd V V.heap.size ba (u8s b)) (hbl : b.length ≤ 1000000) :
  Calls Tryz.prog 26 #[.pointer (some ⟨p, 0, none⟩), .agg #[.int .i64 1, .int .i64 N, .slice ba b.length bc, .int .u8 tear]] W (DoesP w W p d r l x P (appS P s st b).2.1 (appS P s st b).2.2 Z) := by
 obtain ⟨q, hq⟩ : ∃ q, q = W.heap.size := ⟨_, rfl⟩
 obtain ⟨W1, hW1⟩ : ∃ V, V = W.alloc (.cells #[.int .i64 1, .int .i64 N, .slice ba b.length bc, .int .u8 tear] 59) := ⟨_, rfl⟩
 have k1 : Kp No W W1 := by rw [hW1]; exact (Kp.refl _ _).alloc _
 have hq1 : W1.heap[q]? = some (.cells #[.int .i64 1, .int .i64 N, .slice ba b.length bc, .int .u8 tear] 59 (0, 0)) := by rw [hW1, hq]; exact heap_alloc_new W _
 have hsz : W1.heap.size = q + 1 := by rw [hW1, hq]; simp
 have h1 := h.no k1
 have hZq : ¬ Z q := fun hz => by have := (h.zn q hz).2; omega
 have hr1 := roomy_any W1 b ba bc (hb W1 (Kp.of_no k1)) (by omega)
 obtain ⟨u0, _, u2, _⟩ := step_cells hq1 No (fun h => h)
 have c0 := u0 W1 (Kp.refl _ _)
 have c2 := u2 W1 (Kp.refl _ _)
 obtain ⟨bl, hbl2⟩ : ∃ n, n = b.length := ⟨_, rfl⟩
 rw [← hbl2] at hq1 hW1 hr1 c2 hbl ⊢
 have HBL := Lib.hid hbl2
 have HR1 := Lib.hid hr1
 have HQ1 := Lib.hid hq1
 have HPL1 := Lib.hid h1
 have HPL := Lib.hid h
 have HK1 := Lib.hid k1
 have HSZ := Lib.hid hsz
 have HQ := Lib.hid hq
 have HZQ := Lib.hid hZq
 have HB := Lib.hid hb
 have HPW := Lib.hid (And.intro hpow (And.intro hP (And.intro hF (And.intro hk hW))))
 have hql1 : q < W1.heap.size := by omega
 clear hbl2 hr1 hq1 h1 h k1 hsz hZq hb hpow hP hF hk hW u0 u2
 go_enter Tryz.func26, Tryz.ntmps26
 go_upto_region 1 with fail
 rw [← hW1, ← hq]
 clear hW1 hq
 go_upto_region 4 with fail
 refine HR1.out.mono ?_
 rintro e w2 ⟨a', c', rfl, ho2, hc2, hk2, hf2⟩
 have HO2 := Lib.hid ho2
 have HPL2 := Lib.hid (HPL1.out.no hk2)
 have HQ2 := Lib.hid (hk2.get HQ1.out fun x => x)
 have HG := Lib.hid (show ∀ g, (Value.slice a' (bl + 1) c').ownBlock = some g → ¬ Z g ∧ W.heap.size < g ∧ g < w2.heap.size from fun g hg => by
  have h1 := hf2 g hg
  have h2 := HSZ.out
  have h3 := HQ.out
  refine ⟨fun hz => ?_, by omega, ho2.lt g hg⟩
  have := (HPL.out.zn g hz).2
  omega)
 have HK2 := Lib.hid (HK1.out.trans_same hk2)
 clear ho2 hf2 c0 c2 HR1
 obtain ⟨F, G, hWA, hFG, hnp, hgo⟩ := HPL2.out.wal
 have hnq : ¬ Both F G q := fun hh => HZQ.out (hFG q hh).2
 obtain ⟨hpl2, pc⟩ := HPL2.out.cells (Both F G) hnp
 have p2 := fun V hV => (pc V hV).2.2.1
 obtain ⟨_, _, u2, _⟩ := step_cells HQ2.out (Both F G) hnq
 have hql2 : q < w2.heap.size := get_lt HQ2.out
 have hcc : bl ≤ c' := by omega
 have hFGg : ∀ g, (Value.slice a' (bl + 1) c').ownBlock = some g → ¬ Both F G g := fun g hg hh => (HG.out g hg).1 (hFG g hh).2
 have hst2 : st.ents.length ≤ 90000 + k ∧ st.segs.length ≤ 5000 + k ∧ (∀ z ∈ st.segs, z.2 ≤ 300000 * (k + 7)) ∧ k ≤ 3000 := ⟨HPW.out.2.2.1.ents, HPW.out.2.2.1.segs, HPW.out.2.2.1.big, HPW.out.2.2.2.1⟩
 have hap := fun n1 => wAppend_any (w2.drewN n1) d l P s st F G (hWA.no ((Kp.refl No w2).drewN n1)) HPW.out.2.2.1.hne (HPW.out.1.keepS ((HPL2.out.kp).drewN n1) (fun x => x))
  (fun hf => by have := (hFG _ (.inl hf)).1; have := HPW.out.1.lt; omega) (fun hf => by have := (hFG _ (.inr hf)).1; have := HPW.out.1.lt; omega) HPW.out.2.1 (by omega) (by omega) (fun z hz => by have := hst2.2.2.1 z hz; omega)
  a' c' b (fun V hV => by
   have h1 := (HO2.out.keep (hV.of_drewN) hFGg).rd'.take b.length
   rw [u8s_take, List.take_left] at h1
   exact h1) (by rw [← HBL.out]; omega)
 rw [← HBL.out] at hap
 have HAP := Lib.hid hap
 have HGO := Lib.hid hgo
 have HFG := Lib.hid hFG
 clear hWA hFG hgo hnp hnq pc hFGg hap hst2 hk2
 unfold ptrV at p2
 go_upto_region 4 with fail
 refine wp_region_held' (Kp (Both F G) w2) [0,0,0,0,0,0,0,1,0,2,0,0,0,0,0] [0,1,2,3,4,5,6,7,8,9,10,11,12,13,14] (by kernel_rfl) (by kernel_rfl) (fun _ n h => h.drewN n) (Kp.refl _ _) ?_
 repeat (first
  | (apply wpOrd_skip rfl (by decide) rfl; (focus (go_simp; rfl)))
  | (apply wpOrd_pure rfl rfl rfl; (focus (intro _ _; go_simp; (try go_ints); rfl)); (focus (go_simp; rfl)))
  | (apply wpOrd_read rfl rfl rfl; (focus (intro _; go_simp; (try go_ints); rfl)); (focus (go_simp; rfl))))
 refine wpOrd_eff rfl rfl (fun n1 => ?_)
 have hc := HAP.out n1
 obtain ⟨q1, hq1⟩ : ∃ q1, q1 = appS P s st b := ⟨_, rfl⟩
 rw [← hq1] at hc ⊢
 have HQQ := Lib.hid hq1
 clear hq1 HAP
 go_wp2_with fail
 with_reducible refine hc.mono ?_
 rintro e w3 ⟨rfl, hs3⟩
 clear hc
 have hs3' : SaidW w2 d l P F G q1.2.1 q1.2.2 w3 := SaidW.from hs3 ((Kp.refl No w2).drewN n1)
 have HK3 := Lib.hid hs3'.kp
 obtain ⟨Z3, hz3, hf3, hk3⟩ := HGO.out w3 _ _ hs3'
 have hkW3 : Kp Z W w3 := (Kp.of_no HK2.out).trans_same hk3
 have hfW3 : Foot Z Z3 W := fun i hi => (hf3 i hi).imp id fun hh => Nat.le_trans HK2.out.size hh
 have HG3 := Lib.hid (show ∀ g, (Value.slice a' (bl + 1) c').ownBlock = some g → ¬ Z3 g from fun g hg => foot_out hf3 (HG.out g hg).2.2 (HG.out g hg).1)
 have HZ3q := Lib.hid (show ¬ Z3 q from foot_out hf3 hql2 HZQ.out)
 have HO3 := Lib.hid (HO2.out.keep hs3'.kp fun g hg hh => (HG.out g hg).1 (HFG.out g hh).2)
 have HQ3 := Lib.hid (hs3'.kp.get HQ2.out fun hh => HZQ.out (HFG.out q hh).2)
 obtain ⟨m1, hm1⟩ : ∃ m, m = q1.1.1 := ⟨_, rfl⟩
 obtain ⟨e1, he1⟩ : ∃ m, m = q1.1.2 := ⟨_, rfl⟩
 have HS3 := Lib.hid (And.intro hz3 (And.intro hkW3 hfW3))
 rw [← hm1, ← he1]
 have HM := Lib.hid (And.intro hm1 he1)
 clear hs3 hs3' hz3 hf3 hk3 hkW3 hfW3 hm1 he1 HFG HGO
 go_wp2_with fail
 refine ⟨HK3.out, ?_⟩
 repeat (first
  | (apply wpOrd_skip rfl (by decide) rfl; (focus (go_simp; rfl)))
  | (apply wpOrd_pure rfl rfl rfl; (focus (intro _ _; go_simp; (try go_ints); rfl)); (focus (go_simp; rfl)))
  | (apply wpOrd_read rfl rfl rfl; (focus (intro _; go_simp; (try go_ints); rfl)); (focus (go_simp; rfl))))
 refine wpOrd_nil (fun nq => ?_)
 obtain ⟨w3', hw3'⟩ : ∃ V, V = w3.drewN nq := ⟨_, rfl⟩
 have hk3' : Kp No w3 w3' := by rw [hw3']; exact (Kp.refl No w3).drewN nq
 rw [← hw3']
 clear u2 p2 hpl2 hql2
 obtain ⟨H, K, hXA, hHK, hnp, hgo⟩ := (HS3.out.1.no hk3').ref
 have hnq : ¬ Both H K q := fun hh => HZ3q.out (hHK q hh).2
 obtain ⟨hpl3, pc⟩ := (HS3.out.1.no hk3').cells (Both H K) hnp
 have p3 := fun V hV => (pc V hV).2.2.2
 have HQ3' := Lib.hid (hk3'.get HQ3.out fun x => x)
 obtain ⟨_, _, u3, _⟩ := step_cells HQ3'.out (Both H K) hnq
 have hql3 : q < w3'.heap.size := get_lt HQ3'.out
 have hst2 : st.ents.length ≤ 90000 + k ∧ st.segs.length ≤ 5000 + k ∧ (∀ z ∈ st.segs, z.1 ≤ st.ents.length + 1) ∧ k ≤ 3000 := ⟨HPW.out.2.2.1.ents, HPW.out.2.2.1.segs, HPW.out.2.2.1.no, HPW.out.2.2.2.1⟩
 have hkz3 : ∀ V, Kp (Both H K) w3' V → Kp Z W V := fun V hV => ((HS3.out.2.1.trans_no hk3').trans hV fun i hi hh => by
  rcases HS3.out.2.2 i (hHK i hh).2 with h1 | h1
  ·exact h1
  ·omega)
 have hap := fun n1 => xAppend_any (w3'.drewN n1) r x P s st H K (hXA.no ((Kp.refl No w3').drewN n1)) HPW.out.2.2.1.hne HPW.out.2.2.1.hsl (by omega) (fun z hz => by have := hst2.2.2.1 z hz; omega) (by omega) HPW.out.2.1 HPW.out.2.2.2.2.tr
  ba bc b (fun V hV => HB.out V (hkz3 V hV.of_drewN)) (by rw [← HBL.out]; omega)
 rw [← HBL.out, ← HQQ.out] at hap
 have hap' : ∀ n1, Calls Tryz.prog _ _ (w3'.drewN n1) (AxpP (w3'.drewN n1) r x P H K q1) := hap
 unfold AxpP at hap'
 rw [← HM.out.1, ← HM.out.2] at hap'
 have HAP := Lib.hid hap'
 have HGO := Lib.hid hgo
 have HKZ := Lib.hid hkz3
 have HHK := Lib.hid hHK
 have HK33 := Lib.hid hk3'
 clear hXA hHK hgo hnp hnq pc hap hap' hst2 hk3' hkz3 hw3'
 unfold ptrV at p3
 go_upto_region 5 with fail
 refine wp_region_held' (Kp (Both H K) w3') [0,0,0,0,0,0,2,0,0,0,0,0] [0,1,2,3,4,5,6,7,8,9,10,11] (by kernel_rfl) (by kernel_rfl) (fun _ n h => h.drewN n) (Kp.refl _ _) ?_
 repeat (first
  | (apply wpOrd_skip rfl (by decide) rfl; (focus (go_simp; rfl)))
  | (apply wpOrd_pure rfl rfl rfl; (focus (intro _ _; go_simp; (try go_ints); rfl)); (focus (go_simp; rfl)))
  | (apply wpOrd_read rfl rfl rfl; (focus (intro _; go_simp; (try go_ints); rfl)); (focus (go_simp; rfl))))
 refine wpOrd_eff rfl rfl (fun n2 => ?_)
 have hc := HAP.out n2
 clear HAP
 go_wp2_with fail
 with_reducible refine hc.mono ?_
 rintro e w4 ⟨rfl, hs4⟩
 clear hc
 have hs4' : SaidX w3' r x P H K q1.2.1 q1.2.2 w4 := by
  obtain ⟨F', G', k1, k2, k3, k4⟩ := hs4
  exact ⟨F', G', k1, k2, k3, k4.of_drewN⟩
 have HK4 := Lib.hid hs4'.kp
 obtain ⟨Z4, hz4, hf4, hk4⟩ := HGO.out w4 _ _ hs4'
 have hkW4 : Kp Z W w4 := HKZ.out w4 hs4'.kp
 have hfW4 : Foot Z Z4 W := HS3.out.2.2.trans hf4 (Nat.le_trans HS3.out.2.1.size HK33.out.size)
 have HG4 := Lib.hid (show ∀ g, (Value.slice a' (bl + 1) c').ownBlock = some g → ¬ Z4 g from fun g hg => foot_out hf4 (HK33.out.lt (HO3.out.lt g hg)) (HG3.out g hg))
 have HO4 := Lib.hid ((HO3.out.keep HK33.out fun _ _ x => x).keep hs4'.kp fun g hg hh => HG3.out g hg (HHK.out g hh).2)
 have HQ4 := Lib.hid (hs4'.kp.get HQ3'.out fun hh => HZ3q.out (HHK.out q hh).2)
 have HS4 := Lib.hid (And.intro hz4 (And.intro hkW4 hfW4))
 clear hs4 hs4' hz4 hf4 hk4 hkW4 hfW4 HHK HGO
 go_wp2_with fail
 refine ⟨HK4.out, ?_⟩
 repeat (first
  | (apply wpOrd_skip rfl (by decide) rfl; (focus (go_simp; rfl)))
  | (apply wpOrd_pure rfl rfl rfl; (focus (intro _ _; go_simp; (try go_ints); rfl)); (focus (go_simp; rfl)))
  | (apply wpOrd_read rfl rfl rfl; (focus (intro _; go_simp; (try go_ints); rfl)); (focus (go_simp; rfl))))
 refine wpOrd_nil (fun nq => ?_)
 obtain ⟨w5, hw5⟩ : ∃ V, V = w4.drewN nq := ⟨_, rfl⟩
 have hk5 : Kp No w4 w5 := by rw [hw5]; exact (Kp.refl No w4).drewN nq
 rw [← hw5]
 clear u3 p3 hpl3 hql3
 have HQ5 := hk5.get HQ4.out fun x => x
 obtain ⟨_, _, u5, _⟩ := step_cells HQ5 No (fun x => x)
 have c5 := u5 w5 (Kp.refl _ _)
 have hql5 : q < w5.heap.size := get_lt HQ5
 have hst := stands_any w5 b a' ba c' bc (by rw [← HBL.out]; exact HO4.out.keep hk5 fun _ _ x => x) (HB.out w5 (HS4.out.2.1.trans_no hk5)) (by rw [← HBL.out]; omega)
 rw [← HBL.out] at hst
 have HST := Lib.hid hst
 have HK5 := Lib.hid hk5
 clear hw5 hk5 hst HQ5 u5
 go_upto_region 7 with fail
 refine HST.out.mono ?_
 rintro e w6 ⟨rfl, hk6⟩
 have hsp := spoil_any w6 (b ++ [171]) a' c' (by
  rw [List.length_append, List.length_singleton, ← HBL.out]
  exact (HO4.out.keep HK5.out fun _ _ x => x).keep hk6 fun _ _ x => x) (by rw [List.length_append, List.length_singleton, ← HBL.out]; omega)
 rw [List.length_append, List.length_singleton, ← HBL.out] at hsp
 have HSP := Lib.hid hsp
 have HK6 := Lib.hid (HK5.out.trans_same hk6)
 clear hsp hk6 HST
 go_upto_region 8 with fail
 refine HSP.out.mono ?_
 rintro e w7 ⟨rfl, hk7⟩
 have HFIN := Lib.hid (show DoesP w W p d r l x P q1.2.1 q1.2.2 Z (.returned (.bool true)) w7 from ⟨rfl, Z4, (HS4.out.1.no HK6.out).other hk7 (fun g hg => ⟨HG4.out g hg, by have := HPL.out.kp.size; have := (HG.out g hg).2.1; omega⟩), HS4.out.2.2,
  ((HS4.out.2.1.trans_no HK6.out).trans hk7 fun i hi hg => by have := (HG.out i hg).2.1; omega)⟩)
 clear hk7
 go_wp2_with fail
 go_ret
 rw [← HQQ.out]
 exact HFIN.out
end Go.Proofs.YtdibkdgafidjgaaGreatDoor
namespace Go.Proofs.YtdibkdgafidjgaaGreatDoor
open Go.RowKit Go.Mer
theorem torn_zero (l : List UInt8) (a b : Nat) : torn l a b 0 = l := by
 apply List.ext_getElem?
 intro i
 simp only [torn, List.getElem?_mapIdx]
 cases l[i]? with
 | none => rfl
 | some x => simp
theorem RRun.cells {w V : World} {r room n rcap g off : Nat} {left : Int} {L1 L2 : List RFile} {G : Nat → Prop} {f : RFile} (h : RRun w V r room left (.slice (some ⟨g, off, none⟩) n rcap) (L1 ++ f :: L2) G) : ∀ W, Kp No V W → RCells W r g off n rcap L1.length f := by
 obtain ⟨g', off', rcap', n', _, _, _, _, hrv, hc⟩ := h.c.at_
 injection hrv with h1 h2 h3
 injection h1 with h1
 injection h1 with h4 h5
 subst h2; subst h3; subst h4; subst h5
 exact hc
theorem RRun.data {w W W' : World} {r room : Nat} {left : Int} {rv : Value} {L1 L2 : List RFile} {G : Nat → Prop} {f f' : RFile} (h : RRun w W r room left rv (L1 ++ f :: L2) G) (hk : Kp (fun k => f.val.ownBlock = some k) W W') (hcells : f'.cells = f.cells) (hnm : f'.name = f.name) (hv : f'.val = f.val) (hlen : f'.data.length = f.data.length) (hok : RFileOk W' f')
  (hdis : ∀ g, (g ∈ L1 ∨ g ∈ L2) → ∀ k, g.val.ownBlock = some k → f.val.ownBlock ≠ some k) : RRun w W' r room left rv (L1 ++ f' :: L2) G := by
 have hc := h.c
 have hmem : f ∈ L1 ++ f :: L2 := by simp
 have hfm : (L1 ++ f' :: L2).flatMap RFile.cells = (L1 ++ f :: L2).flatMap RFile.cells := by
  rw [List.flatMap_append, List.flatMap_append, List.flatMap_cons, List.flatMap_cons, hcells]
 have hl : (L1 ++ f' :: L2).length = (L1 ++ f :: L2).length := by simp
 have hother : ∀ g, g ∈ L1 ∨ g ∈ L2 → RFileOk W' g := fun g hg => by
  have hg' : g ∈ L1 ++ f :: L2 := by rcases hg with hg | hg <;> simp [hg]
  exact (hc.files g hg').keep hk fun k hk1 hk2 => hdis g hg k hk1 hk2
 refine h.step hk (fun k hk' => .inl (.inr (.inr ⟨f, hmem, hk'⟩))) ⟨hk.get hc.cell fun hr => (hc.data_ne hmem hr).1 rfl, ?_, fun g hg => ?_, sorted_turn hc.sorted hnm, ?_, hc.roomy, by rw [hl]; exact hc.few, hc.left0, hc.leftM⟩ fun k hk' => ?_
 ·rw [hl, hfm]
  exact hc.row.keep hk fun k hk1 hk2 => (hc.data_ne hmem hk2).2 hk1
 ·rcases List.mem_append.1 hg with hg | hg
  ·exact hother g (.inl hg)
  ·rcases List.mem_cons.1 hg with rfl | hg
   ·exact hok
   ·exact hother g (.inr hg)
 ·have := hc.fits
  rw [totF_mid] at this ⊢
  omega
 ·rcases hk' with hk' | hk' | ⟨g, hg, hk'⟩
  ·exact .inl (.inl hk')
  ·exact .inl (.inr (.inl hk'))
  ·rcases List.mem_append.1 hg with hg | hg
   ·exact .inl (.inr (.inr ⟨g, by simp [hg], hk'⟩))
   ·rcases List.mem_cons.1 hg with rfl | hg
    ·exact .inl (.inr (.inr ⟨f, hmem, by rw [← hv]; exact hk'⟩))
    ·exact .inl (.inr (.inr ⟨g, by simp [hg], hk'⟩))
def crP (keep : Int) (t : UInt8) (p : ByteArray × FileS) : ByteArray × FileS := (p.1, crF keep t p.2)
set_option maxRecDepth 100000 in
set_option maxHeartbeats 4000000 in
theorem rCrash_any (w : World) (r : Nat) (s : DSt) (G : Nat → Prop) (h : RAt w r s G) (keep : Int) (hk0 : -9223372036854775808 ≤ keep) (hk1 : keep ≤ 9223372036854775807) (t : UInt8) :
  Calls Tryz.prog 19 #[.pointer (some ⟨r, 0, none⟩), .int .i64 keep, .int .u8 (t.toNat : Int)] w fun e w' => e = .returned (.tuple #[]) ∧ ∃ G', RAt w' r (crS s keep t) G' ∧ Foot G G' w ∧ Kp G w w' := by
 obtain ⟨rv, L, hR, hp, hGl⟩ := RRun.start h
 have HP := Lib.hid hp
 obtain ⟨ra, rcap, hrv, hrc, hrd⟩ := hR.c.row.rd
 have hfew := hR.c.few
 have HR := Lib.hid hR
 have HRV := Lib.hid hrv
 obtain ⟨K, hK⟩ : ∃ K, K = keep.toNat := ⟨_, rfl⟩
 have hmax : (if 0 < keep then keep else 0) = (K : Int) := by split <;> omega
 have hmaxb : max 0 keep = (K : Int) := by omega
 have hKb : (K : Int) ≤ 9223372036854775807 := by omega
 have HK := Lib.hid hK
 clear h hR hp hGl hrd hrv hK
 go_enter Tryz.func19, Tryz.ntmps19
 go_wp2_with fail
 rename World => w0
 clear hmax hmaxb
 go_loopw [6, 7, 8, 9, 10] (fun s6 s7 s8 s9 s10 wr => ∃ (i : Nat) (M1 : List RFile), i ≤ L.length ∧ s6 = .int .i64 (i : Int) ∧ Hid (M1.length = i) ∧ Hid (absR M1 = (absR (L.take i)).map (crP keep t)) ∧ Hid (RRun w0 wr r s.room (leftOf s.fuse) rv (M1 ++ L.drop i) G)) (fun s6 _ _ _ _ _ => L.length - (intOf s6).toNat)
 case atStart => exact ⟨0, [], Nat.zero_le _, rfl, Lib.hid rfl, Lib.hid rfl, HR⟩
 case round =>
  obtain ⟨i, M1, hi, rfl, HM, HAB, HRR⟩ := hrel
  have c1 : wr.cell? ⟨r, 1, none⟩ = some (.slice ra L.length rcap) := by
   rw [cell_at HRR.out.c.cell, ← HRV.out]
   rfl
  have rl : r < wr.heap.size := get_lt HRR.out.c.cell
  by_cases hlt : i < L.length
  ·have HDR := Lib.hid (List.drop_eq_getElem_cons hlt)
   have HTK := Lib.hid (List.take_succ_eq_append_getElem hlt)
   obtain ⟨f, hf⟩ : ∃ f, f = L[i] := ⟨_, rfl⟩
   rw [← hf] at HDR HTK
   obtain ⟨M2, hM2⟩ : ∃ M2, M2 = L.drop (i + 1) := ⟨_, rfl⟩
   rw [← hM2] at HDR
   have HM2 := Lib.hid hM2
   have hrr := HRR.out
   rw [HDR.out] at hrr
   obtain ⟨g, off, rcap2, n, hn, hlt2, hcap2, hgr, hrv2, hcells⟩ := hrr.c.at_
   have hrv3 := HRV.out.symm.trans hrv2
   injection hrv3 with e1 e2 e3
   subst e1
   subst e3
   rw [e2] at c1
   rw [hrv2] at hrr
   rw [HM.out] at hcells hlt2
   have HRR5 := Lib.hid hrr
   have HN := Lib.hid hn
   have HRV2 := Lib.hid hrv2
   have HLN := Lib.hid e2
   obtain ⟨_, d0, d1, d2, fr, fg, _, gl⟩ := hcells wr (Kp.refl _ _)
   obtain ⟨m, hm⟩ : ∃ m, m = f.data.length := ⟨_, rfl⟩
   obtain ⟨l, hl⟩ : ∃ l, l = f.lasts := ⟨_, rfl⟩
   rw [← hm] at d1
   rw [← hl] at d2
   have HMm := Lib.hid hm
   have HL := Lib.hid hl
   have HF := Lib.hid (hrr.c.files f (by simp))
   have hlm : l ≤ m := by rw [hl, hm]; exact HF.out.2
   have hmm : m ≤ 1073741824 := by
    have h1 := hrr.c.fits
    have h2 := hrr.c.roomy
    rw [totF_mid] at h1
    omega
   have hmc : m ≤ f.cap := by
    obtain ⟨a, c, hv, hle, _⟩ := HF.out.1.rd
    have hv' : Value.slice f.a f.data.length f.cap = .slice a f.data.length c := hv
    injection hv' with _ _ h3
    rw [h3, hm]
    exact hle
   obtain ⟨U, hU0⟩ : ∃ U, U = m - l := ⟨_, rfl⟩
   obtain ⟨R, hR0⟩ : ∃ R, R = K % (U + 1) := ⟨_, rfl⟩
   obtain ⟨S, hS0⟩ : ∃ S, S = l + R := ⟨_, rfl⟩
   have hRU : R ≤ U := by rw [hR0]; have := Nat.mod_lt K (show 0 < U + 1 by omega); omega
   have hU : (m : Int) - (l : Int) = (U : Int) := by omega
   have hR : (K : Int) % ((U : Int) + 1) = (R : Int) := by
    rw [hR0]
    push_cast
    rfl
   have hS : (l : Int) + (R : Int) = (S : Int) := by omega
   have hSm : S ≤ m := by omega
   have hSl : l ≤ S := by omega
   have hSc : S ≤ f.cap := by omega
   have hnz : ¬ ((U : Int) + 1 = 0) := by omega
   have HST := Lib.hid (show S = stays keep ⟨f.data, f.lasts⟩ by
    unfold stays
    rw [hS0, hR0, hU0, ← HK.out, hl, hm])
   have HCE := Lib.hid hcells
   clear HRR hf hM2 hrr hn hrv2 e2 hm hl hU0 hR0 hS0 hcells
   go_upto_region 5 with fail
   refine wp_region_ord [0,0,0,1,1,0,0,0,1,0,0] [0,1,2,5,6,7,3,4,8,9,10] (by kernel_rfl) (by kernel_rfl) ?_
   repeat (first
    | (apply wpOrd_skip rfl (by decide) rfl; (focus (go_simp; rfl)))
    | (apply wpOrd_pure rfl rfl rfl; (focus (intro _ _; go_simp; (try go_ints); rfl)); (focus (go_simp; rfl)))
    | (apply wpOrd_read rfl rfl rfl; (focus (intro _; go_simp; (try go_ints); rfl)); (focus (go_simp; rfl))))
   refine wpOrd_nil (fun nq => ?_)
   obtain ⟨V5, hV5⟩ : ∃ W, W = wr.drewN nq := ⟨_, rfl⟩
   have HRR6 := Lib.hid (show RRun w0 V5 r s.room (leftOf s.fuse) _ (M1 ++ f :: M2) G by rw [hV5]; exact HRR5.out.no ((Kp.refl _ _).drewN nq))
   have HK5 := Lib.hid (show Kp No wr V5 by rw [hV5]; exact (Kp.refl _ _).drewN nq)
   have HF5 := Lib.hid (show RFileOk V5 f by rw [hV5]; exact HF.out)
   rw [← hV5]
   have q2 : ∀ W, Kp No V5 W → W.cell? ⟨g, off + i * 3 + 1, none⟩ = some (.slice f.a m f.cap) := fun W hW => by rw [HMm.out]; exact (HCE.out W (HK5.out.trans_same hW)).d1
   have q3 : ∀ W, Kp No V5 W → W.cell? ⟨g, off + i * 3 + 2, none⟩ = some (.int .i64 (l : Int)) := fun W hW => by rw [HL.out]; exact (HCE.out W (HK5.out.trans_same hW)).d2
   have HLT2 := Lib.hid (show (f.data.take S).length = S by rw [List.length_take, ← HMm.out]; omega)
   clear hV5 c1 d0 d1 d2 fr fg rl gl HRR5
   go_upto_region 6 with fail
   refine wp_region_last (Kp No V5) [0,2,0,0,0,0,0,0,0,0,0,0,0,0,0,0,2,0,0,2] [0,2,3,4,5,6,7,8,9,10,11,12,13,14,15,1,16,17,18] 19 (by kernel_rfl) (by kernel_rfl) (fun _ n h => h.drewN n) (Kp.refl _ _) ?_
   repeat (first
    | (apply wpOrd_skip rfl (by decide) rfl; (focus (go_simp; rfl)))
    | (apply wpOrd_pure rfl rfl rfl; (focus (intro _ _; go_simp; (try go_ints); rfl)); (focus (go_simp; rfl)))
    | (apply wpOrd_read rfl rfl rfl; (focus (intro _; go_simp; (try go_ints); rfl)); (focus (go_simp; rfl))))
   refine wpOrd_eff rfl rfl (fun n1 => ?_)
   go_wp2_with fail
   obtain ⟨W6, hW6⟩ : ∃ W, W = (V5.drewN n1).alloc (.cells #[] 5) := ⟨_, rfl⟩
   have k6 : Kp No V5 W6 := by rw [hW6]; exact ((Kp.refl _ _).drewN _).alloc _
   have ho6 : Own W6 5 1 (.slice (some ⟨V5.heap.size, 0, none⟩) 0 0) 0 [] := by rw [hW6]; exact Own.made (V5.drewN n1) 5 1 #[] 0 0 (Nat.le_refl _) (by simp [maxLen]) (by simp) rfl
   rw [← hW6]
   have HO6 := Lib.hid ho6
   clear hW6 ho6
   refine ⟨k6, ?_⟩
   refine wpOrd_eff rfl rfl (fun n2 => ?_)
   have hrdf := ((HF5.out.1.rd').kp (k6.drewN n2)).take S
   rw [u8s_take] at hrdf
   obtain ⟨a7, c7, W7, hrun, ho7, hk7, hb7⟩ := cpy_bytes' (W6.drewN n2) V5.heap.size (HO6.out.drewN n2) (f.data.take S) f.a f.cap hrdf (by rw [HLT2.out]; omega)
   rw [HLT2.out] at hrun
   have k7 : Kp No V5 W7 := (k6.drewN n2).trans hk7 (fun k hk (e : k = V5.heap.size) => by omega)
   have HX7 := Lib.hid hrun
   have HO7 := Lib.hid ho7
   have hs6 : V5.heap.size ≤ (W6.drewN n2).heap.size := k6.size
   have HB7 := Lib.hid (show ∀ k, (Value.slice a7 (f.data.take S).length c7).ownBlock = some k → V5.heap.size ≤ k from fun k hk => by
    rcases hb7 k hk with h1 | h1
    ·omega
    ·omega)
   clear hrun ho7 hk7 hb7 hrdf q2 q3
   refine wpList_append_run rfl rfl rfl rfl HX7.out (wpList_nil ⟨rfl, k7, ?_⟩)
   clear HX7
   repeat (first
    | (apply wpOrd_skip rfl (by decide) rfl; (focus (go_simp; rfl)))
    | (apply wpOrd_pure rfl rfl rfl; (focus (intro _ _; go_simp; (try go_ints); rfl)); (focus (go_simp; rfl)))
    | (apply wpOrd_read rfl rfl rfl; (focus (intro _; go_simp; (try go_ints); rfl)); (focus (go_simp; rfl))))
   refine last_now (fun n4 => ?_)
   refine wpOrd_eff rfl rfl (fun n5 => ?_)
   obtain ⟨W9, hW9⟩ : ∃ W, W = (W7.drewN n4).drewN n5 := ⟨_, rfl⟩
   have k9 : Kp No V5 W9 := by rw [hW9]; exact (k7.drewN n4).drewN n5
   have ho9 : Own W9 5 1 (.slice a7 (f.data.take S).length c7) (f.data.take S).length (u8s (f.data.take S)) := by rw [hW9]; exact HO7.out
   rw [← hW9]
   have e1 : W9.cell? ⟨g, off + i * 3 + 1, none⟩ = some (.slice f.a m f.cap) := by rw [HMm.out]; exact (HCE.out W9 (HK5.out.trans_same k9)).d1
   have fg9 := (HCE.out W9 (HK5.out.trans_same k9)).fg (off + i * 3 + 1)
   have hfit : totF (absR (M1 ++ ⟨f.name, a7, c7, f.data.take S, f.lasts⟩ :: M2)) ≤ s.room := by
    have := HRR6.out.c.fits
    rw [totF_mid] at this ⊢
    have h2 := HMm.out
    simp only [HLT2.out]
    omega
   have hRn := HRR6.out.setAt HN.out k9 1 (.slice a7 S c7) (by omega) ⟨f.name, a7, c7, f.data.take S, f.lasts⟩ (by show [_, _, _] = [_, _, _]; rw [HLT2.out]) rfl ⟨ho9, by show f.lasts ≤ (f.data.take S).length; rw [HLT2.out, ← HL.out]; exact hSl⟩ (fun k hk => .inr (HB7.out k hk)) hfit
   rw [HM.out] at hRn
   clear hW9 ho9 k9 k7 k6 hs6 hfit
   go_wp2_with fail
   intro nr
   obtain ⟨V6, hV6⟩ : ∃ W, W = (W9.setCell ⟨g, off + i * 3 + 1, none⟩ (.slice a7 S c7)).drewN nr := ⟨_, rfl⟩
   have HR6 := Lib.hid (show RRun w0 V6 r s.room (leftOf s.fuse) (.slice (some ⟨g, off, none⟩) n rcap) (M1 ++ ⟨f.name, a7, c7, f.data.take S, f.lasts⟩ :: M2) G by rw [hV6]; exact hRn.no ((Kp.refl No _).drewN nr))
   rw [← hV6]
   have HN2 := Lib.hid (show ∀ x : RFile, n = (M1 ++ x :: M2).length from fun x => by rw [HN.out]; simp)
   have HDIS := Lib.hid (show ∀ x, (x ∈ M1 ∨ x ∈ M2) → ∀ k, x.val.ownBlock = some k → ∀ q, (Value.slice a7 q c7).ownBlock ≠ some k from fun x hx k hk q e => by
    have e2 : (Value.slice a7 (f.data.take S).length c7).ownBlock = (Value.slice a7 q c7).ownBlock := by cases a7 <;> rfl
    have h1 := HB7.out k (e2.trans e)
    have h2 := (HRR6.out.c.files x (by rcases hx with hx | hx <;> simp [hx])).1.lt k hk
    omega)
   clear hRn e1 fg9 hV6
   have hcells6 := HR6.out.cells
   rw [HM.out] at hcells6
   obtain ⟨_, d0, d1, d2, fr, fg, _, gl⟩ := hcells6 V6 (Kp.refl _ _)
   simp only [HLT2.out] at d1
   rw [← HL.out] at d2
   have HCR := Lib.hid (show ∀ D, D = torn (f.data.take S) (max f.lasts ((S - 1) / 16 * 16)) S t → absR (M1 ++ [(⟨f.name, a7, c7, D, S⟩ : RFile)]) = (absR (L.take (i + 1))).map (crP keep t) from fun D hD => by
    rw [absR_append, HAB.out, HTK.out, absR_append, List.map_append]
    congr 1
    show [(f.name, (⟨D, S⟩ : FileS))] = [crP keep t (f.name, ⟨f.data, f.lasts⟩)]
    unfold crP crF
    rw [← HST.out, hD])
   clear hcells6 hU hR hS hnz
   go_upto_region 7 with fail
   go_cut [66] from 57 to 65 (fun v wx => ∃ b : Bool, v = .bool b ∧ wx = V6 ∧ Hid (b = false → f.data.take S = torn (f.data.take S) (max f.lasts ((S - 1) / 16 * 16)) S t) ∧ Hid (b = true → 0 < S))
   case first =>
    by_cases hS0 : S = 0
    ·have HT0 := Lib.hid (show f.data.take S = torn (f.data.take S) (max f.lasts ((S - 1) / 16 * 16)) S t by rw [hS0]; simp [torn])
     have f1 : decide ((0 : Int) < (S : Int)) = false := by simp; omega
     have f1b : decide (0 < S) = false := by simp; omega
     have f1c : ¬ 0 < S := by omega
     clear hS0
     go_wp2_with fail
     go_meet
     case rel => exact ⟨false, rfl, rfl, Lib.hid fun _ => HT0.out, Lib.hid (fun h => by cases h)⟩
    ·have f1 : decide ((0 : Int) < (S : Int)) = true := by simp; omega
     have f1b : decide (0 < S) = true := by simp; omega
     have f1c : 0 < S := by omega
     have HS0 := Lib.hid (show 0 < S by omega)
     clear hS0
     by_cases ht0 : t = 0
     ·have f2 : ((t.toNat : Int) != 0) = false := by rw [ht0]; rfl
      have HT0 := Lib.hid (show f.data.take S = torn (f.data.take S) (max f.lasts ((S - 1) / 16 * 16)) S t by rw [ht0, torn_zero])
      clear ht0
      go_wp2_with fail
      go_meet
      case rel => exact ⟨false, rfl, rfl, Lib.hid fun _ => HT0.out, Lib.hid (fun h => by cases h)⟩
     ·have f2 : ((t.toNat : Int) != 0) = true := by
       rw [bne_iff_ne]
       intro e
       exact ht0 (UInt8.toNat_inj.1 (by simpa using e))
      clear ht0
      go_wp2_with fail
      go_meet
      case rel => exact ⟨true, rfl, rfl, Lib.hid (fun h => by cases h), Lib.hid fun _ => HS0.out⟩
   case rest =>
   obtain ⟨b, rfl, rfl, HB1, HB2⟩ := hcut
   rename World => V6
   cases b with
   | false =>
    obtain ⟨D, hD⟩ : ∃ D, D = f.data.take S := ⟨_, rfl⟩
    have HD := Lib.hid (show D = torn (f.data.take S) (max f.lasts ((S - 1) / 16 * 16)) S t by rw [hD]; exact HB1.out rfl)
    have HDL := Lib.hid (show D.length = S by rw [hD]; exact HLT2.out)
    have HRD := Lib.hid (show RRun w0 V6 r s.room (leftOf s.fuse) (.slice (some ⟨g, off, none⟩) n rcap) (M1 ++ ⟨f.name, a7, c7, D, f.lasts⟩ :: M2) G by rw [hD]; exact HR6.out)
    clear hD d0 d1 d2 fr fg gl
    have hcc := HRD.out.cells
    rw [HM.out] at hcc
    obtain ⟨_, d0, d1, d2, fr, fg, rl, gl⟩ := hcc V6 (Kp.refl _ _)
    simp only [HDL.out] at d1
    rw [← HL.out] at d2
    have fg2 := fg (off + i * 3 + 2)
    have hRn := HRD.out.setAt (HN2.out _) (Kp.refl No _) 2 (.int .i64 (S : Int)) (by omega) ⟨f.name, a7, c7, D, S⟩ rfl rfl ⟨(HRD.out.c.files _ (List.mem_append_right M1 (List.mem_cons_self ..))).1, Nat.le_of_eq HDL.out.symm⟩ (fun _ h => .inl h) (by have := HRD.out.c.fits; rw [totF_mid] at this ⊢; exact this)
    rw [HM.out] at hRn
    have HRn := Lib.hid hRn
    clear hcc hRn fr fg d0
    go_wp2_with fail
    go_roundw
    case rel =>
     refine ⟨i + 1, M1 ++ [⟨f.name, a7, c7, D, S⟩], by omega, by go_num, Lib.hid (by rw [List.length_append, HM.out]; rfl), Lib.hid (HCR.out D HD.out), Lib.hid ?_⟩
     rw [List.append_assoc, ← HM2.out, HRV2.out]
     exact HRn.out
    case measure => simp [intOf]; omega
   | true =>
    have hS0 := HB2.out rfl
    obtain ⟨Q, hQ⟩ : ∃ Q, Q = S - 1 := ⟨_, rfl⟩
    obtain ⟨sec, hsec⟩ : ∃ sec, sec = Q / 16 * 16 := ⟨_, rfl⟩
    obtain ⟨f0, hf0⟩ : ∃ x, x = max l sec := ⟨_, rfl⟩
    have hq1 : (S : Int) - 1 = (Q : Int) := by omega
    have hsecz : (Q : Int) / 16 * 16 = (sec : Int) := by omega
    have hm1 : (if (sec : Int) < (l : Int) then (l : Int) else (sec : Int)) = (f0 : Int) := by split <;> omega
    have hm2 : max (sec : Int) (l : Int) = (f0 : Int) := by omega
    have hm3 : (if sec < l then (l : Int) else (sec : Int)) = (f0 : Int) := by split <;> omega
    have hf0b : f0 ≤ 1073741824 := by omega
    have HF0 := Lib.hid (show f0 = max f.lasts ((S - 1) / 16 * 16) by rw [hf0, hsec, hQ, HL.out])
    clear hQ hsec hf0
    go_wp2_with fail
    clear hq1 hsecz hm1 hm2 hm3
    have HLT3 := Lib.hid (fun j => by rw [torn_length, HLT2.out] : ∀ j, (torn (f.data.take S) f0 j t).length = S)
    go_loopw [10] (fun s10 wi => ∃ j : Nat, f0 ≤ j ∧ (j ≤ S ∨ j = f0) ∧ s10 = .int .i64 (j : Int) ∧ Hid (RRun w0 wi r s.room (leftOf s.fuse) (.slice (some ⟨g, off, none⟩) n rcap) (M1 ++ ⟨f.name, a7, c7, torn (f.data.take S) f0 j t, f.lasts⟩ :: M2) G)) (fun s10 _ => S - (intOf s10).toNat)
    case atStart => exact ⟨f0, Nat.le_refl _, .inr rfl, rfl, by rw [torn_start]; exact HR6⟩
    case round =>
     obtain ⟨j, hj1, hj2, rfl, HRJ⟩ := hrel
     rename World => wi
     have hcc := HRJ.out.cells
     rw [HM.out] at hcc
     obtain ⟨_, d0, d1, d2, fr, fg, rl, gl⟩ := hcc wi (Kp.refl _ _)
     simp only [HLT3.out] at d1
     rw [← HL.out] at d2
     have hjb : j ≤ 1073741824 := by omega
     by_cases hjs : j < S
     ·have hjl : j < (f.data.take S).length := by rw [HLT2.out]; exact hjs
      have hown := (HRJ.out.c.files _ (List.mem_append_right M1 (List.mem_cons_self ..))).1
      obtain ⟨gb, ob, hfa, hgb, _, hcb⟩ := hown.rd'.byte (i := j) (by rw [torn_length]; exact hjl)
      have hfa' : a7 = some ⟨gb, ob, none⟩ := hfa
      rw [hfa'] at d1
      have htg := torn_get (f.data.take S) f0 j t hjl
      rw [htg] at hcb
      obtain ⟨y, hy⟩ : ∃ y, y = (f.data.take S)[j]'hjl := ⟨_, rfl⟩
      rw [← hy] at hcb
      obtain ⟨cur, hcur⟩ := hown.type gb (by show (Value.slice a7 _ _).ownBlock = _; rw [hfa']; rfl)
      have hfz := free_at hcur (ob + j)
      have hx := xor_u8 y t
      have hown2 : Own wi 5 1 (.slice (some ⟨gb, ob, none⟩) (torn (f.data.take S) f0 j t).length c7) (torn (f.data.take S) f0 j t).length (u8s (torn (f.data.take S) f0 j t)) := by
       have h1 : Own wi 5 1 (.slice a7 (torn (f.data.take S) f0 j t).length c7) (torn (f.data.take S) f0 j t).length (u8s (torn (f.data.take S) f0 j t)) := hown
       rwa [hfa'] at h1
      have hst := own_store hown2 j (by rw [HLT3.out]; exact hjs) (Mer.u8 (y ^^^ t))
      rw [u8s_set, hy, ← torn_step (f.data.take S) f0 j t hj1 hjl, ← hy] at hst
      have hR9 := HRJ.out.data (f' := ⟨f.name, a7, c7, torn (f.data.take S) f0 (j + 1) t, f.lasts⟩) ((Kp.refl _ wi).setCell (p := ⟨gb, ob + j, none⟩) (.inl (by show (Value.slice a7 _ _).ownBlock = _; rw [hfa']; rfl)) (Mer.u8 (y ^^^ t)))
       (by show [_, _, _] = [_, _, _]; rw [HLT3.out, HLT3.out]) rfl (by show Value.slice _ _ _ = Value.slice _ _ _; rw [HLT3.out, HLT3.out]) (by rw [HLT3.out, HLT3.out])
       ⟨by show Own _ _ _ (.slice a7 _ c7) _ _; rw [hfa']; simp only [HLT3.out] at hst ⊢; exact hst, by show f.lasts ≤ _; rw [HLT3.out, ← HL.out]; exact hSl⟩ (fun x hx k hk => HDIS.out x hx k hk _)
      have HR9 := Lib.hid hR9
      clear hcc d0 fr fg hown hfa hfa' htg hy hcur hown2 hst hR9
      go_wp2_with fail
      go_roundw
      case rel => exact ⟨j + 1, by omega, .inl (by omega), by go_num, HR9⟩
      case measure => simp [intOf]; omega
     ·obtain ⟨D, hD⟩ : ∃ D, D = torn (f.data.take S) f0 j t := ⟨_, rfl⟩
      have HD := Lib.hid (show D = torn (f.data.take S) (max f.lasts ((S - 1) / 16 * 16)) S t by
       rw [hD, ← HF0.out]
       exact torn_full _ _ _ _ _ (by rw [HLT2.out]; omega) (by rw [HLT2.out]; exact Nat.le_refl _))
      have HDL := Lib.hid (show D.length = S by rw [hD]; exact HLT3.out j)
      have HRD := Lib.hid (show RRun w0 wi r s.room (leftOf s.fuse) (.slice (some ⟨g, off, none⟩) n rcap) (M1 ++ ⟨f.name, a7, c7, D, f.lasts⟩ :: M2) G by rw [hD]; exact HRJ.out)
      clear hD hcc d0 fr fg
      have hcc := HRD.out.cells
      rw [HM.out] at hcc
      obtain ⟨_, d0, d1, d2, fr, fg, rl, gl⟩ := hcc wi (Kp.refl _ _)
      simp only [HDL.out] at d1
      rw [← HL.out] at d2
      have fg2 := fg (off + i * 3 + 2)
      have hRn := HRD.out.setAt (HN2.out _) (Kp.refl No _) 2 (.int .i64 (S : Int)) (by omega) ⟨f.name, a7, c7, D, S⟩ rfl rfl ⟨(HRD.out.c.files _ (List.mem_append_right M1 (List.mem_cons_self ..))).1, Nat.le_of_eq HDL.out.symm⟩ (fun _ h => .inl h) (by have := HRD.out.c.fits; rw [totF_mid] at this ⊢; exact this)
      rw [HM.out] at hRn
      have HRn := Lib.hid hRn
      clear hcc hRn fr fg d0
      go_wp2_with fail
      go_roundw
      case rel =>
       refine ⟨i + 1, M1 ++ [⟨f.name, a7, c7, D, S⟩], by omega, by go_num, Lib.hid (by rw [List.length_append, HM.out]; rfl), Lib.hid (HCR.out D HD.out), Lib.hid ?_⟩
       rw [List.append_assoc, ← HM2.out, HRV2.out]
       exact HRn.out
      case measure => simp [intOf]; omega
  ·obtain rfl : i = L.length := by omega
   have hrr := HRR.out
   rw [List.drop_length, List.append_nil] at hrr
   have hab := HAB.out
   rw [List.take_length] at hab
   have c2 := cell_at hrr.c.cell 2
   have f2 := free_at hrr.c.cell 2
   simp at c2
   have hk : Kp (One r) wr (wr.setCell ⟨r, 2, none⟩ (.int .i64 (-1))) := (Kp.refl (One r) _).setCell (p := ⟨r, 2, none⟩) (.inl rfl) _
   have hR9 := hrr.setLeft (hrr.c.setLeft (-1) (by omega) (by omega) hk (by have := set_at hrr.c.cell 2 (.int .i64 (-1)); simpa using this)) hk
   have HR9 := Lib.hid hR9
   have HPn := Lib.hid (show (absR M1).Perm (crS s keep t).files by rw [hab]; exact HP.out.map _)
   clear hlt hrr hab hk hR9
   go_wp2_with fail
   go_end0
   exact ⟨rfl, RFP r rv M1, ⟨rv, M1, HR9.out.c, HPn.out, fun _ x => x, HR9.out.c.lt⟩, HR9.out.foot, HR9.out.kp⟩
end Go.Proofs.YtdibkdgafidjgaaGreatDoor
namespace Go.Proofs.YtdibkdgafidjgaaGreatDoor
open Go.RowKit Go.Mer
set_option maxHeartbeats 400000 in
theorem rNew_any (room : Nat) (w : World) (hhi : room ≤ 1073741824) :
  Calls Tryz.prog 37 #[.int .i64 (room : Int)] w fun e w' => ∃ r, e = .returned (.tuple #[.pointer (some ⟨r, 0, none⟩), .int .i64 0]) ∧ Kp No w w' ∧ ∃ G, RAt w' r ⟨room, none, []⟩ G ∧ ∀ k, G k → w.heap.size ≤ k := by
 go_enter Tryz.func37, Tryz.ntmps37
 go_wp2_with fail
 go_ret2
 refine ⟨_, rfl, (Kp.refl _ _).alloc _, fun k => k = w.heap.size, ⟨.slice none 0 0, [], ⟨heap_alloc_new w _, by simpa using Own.nil _ 108 3, by simp, List.Pairwise.nil, by simp [absR, totF], hhi, by simp, by simp [leftOf], by simp [leftOf]⟩, List.Perm.refl _, ?_, ?_⟩, ?_⟩
 ·rintro k (rfl | hk | ⟨f, hf, _⟩)
  ·rfl
  ·cases hk
  ·cases hf
 ·rintro k rfl
  simp
 ·rintro k rfl
  exact Nat.le_refl _
end Go.Proofs.YtdibkdgafidjgaaGreatDoor
namespace Go.Proofs.YtdibkdgafidjgaaGreatDoor
open Go.RowKit Go.Mer
set_option maxRecDepth 100000 in
set_option maxHeartbeats 4000000 in
theorem does2 (w W : World) (p d r l x k : Nat) (P : ByteArray) (s : DSt) (st : LSt) (Z : Nat → Prop) (h : PL w W p d r l x P s st s st Z) (hP : P.size ≤ 50) (hF : Fit k P s st) (hk : k ≤ 3000)
  (N : Int) (tear : Int) (bv : Value) :
  Calls Tryz.prog 26 #[.pointer (some ⟨p, 0, none⟩), .agg #[.int .i64 2, .int .i64 N, bv, .int .u8 tear]] W (DoesP w W p d r l x P (sncS P s st).2.1 (sncS P s st).2.2 Z) := by
 obtain ⟨q, hq⟩ : ∃ q, q = W.heap.size := ⟨_, rfl⟩
 obtain ⟨W1, hW1⟩ : ∃ V, V = W.alloc (.cells #[.int .i64 2, .int .i64 N, bv, .int .u8 tear] 59) := ⟨_, rfl⟩
 have k1 : Kp No W W1 := by rw [hW1]; exact (Kp.refl _ _).alloc _
 have hq1 : W1.heap[q]? = some (.cells #[.int .i64 2, .int .i64 N, bv, .int .u8 tear] 59 (0, 0)) := by rw [hW1, hq]; exact heap_alloc_new W _
 have hsz : W1.heap.size = q + 1 := by rw [hW1, hq]; simp
 have h1 := h.no k1
 have hZq : ¬ Z q := fun hz => by have := (h.zn q hz).2; omega
 obtain ⟨u0, _, _, _⟩ := step_cells hq1 No (fun h => h)
 have c0 := u0 W1 (Kp.refl _ _)
 have HQ1 := Lib.hid hq1
 have HPL1 := Lib.hid h1
 have HPL := Lib.hid h
 have HK1 := Lib.hid k1
 have HSZ := Lib.hid hsz
 have HQ := Lib.hid hq
 have HZQ := Lib.hid hZq
 have hql1 : q < W1.heap.size := by omega
 have HPW := Lib.hid (And.intro hP (And.intro hF hk))
 obtain ⟨F, G, hWA, hFG, hnp, hgo⟩ := h1.wal
 obtain ⟨T, hT⟩ : ∃ T : Nat → Prop, T = fun k => Z k ∧ k ≠ p := ⟨_, rfl⟩
 have hTp : ¬ T p := by rw [hT]; exact fun hh => hh.2 rfl
 have hTF : ∀ k, Both F G k → T k := fun k hk => by rw [hT]; exact ⟨(hFG k hk).2, fun e => hnp (e ▸ hk)⟩
 have hTZ : ∀ k, T k → Z k := fun k hk => by rw [hT] at hk; exact hk.1
 have hTi : ∀ k, Z k → k ≠ p → T k := fun k h1 h2 => by rw [hT]; exact ⟨h1, h2⟩
 obtain ⟨hpl1, pc⟩ := h1.cells T hTp
 have p2 := fun V hV => (pc V hV).2.2.1
 have p3 := fun V hV => (pc V hV).2.2.2
 have hap := fun n1 => wSync_any (W1.drewN n1) d l P s st F G (hWA.no ((Kp.refl No W1).drewN n1)) HPW.out.2.1.hne
 obtain ⟨q1, hq1'⟩ : ∃ q1, q1 = sncS P s st := ⟨_, rfl⟩
 obtain ⟨m1, hm1⟩ : ∃ m, m = q1.1 := ⟨_, rfl⟩
 rw [← hq1'] at hap ⊢
 have HQQ := Lib.hid hq1'
 have HM := Lib.hid hm1
 have hap' : ∀ n1, Calls Tryz.prog _ _ (W1.drewN n1) (SncP (W1.drewN n1) d l P F G q1) := hap
 unfold SncP at hap'
 rw [← hm1] at hap'
 have HAP := Lib.hid hap'
 have HGO := Lib.hid hgo
 have HT := Lib.hid (And.intro hTF (And.intro hTZ hTi))
 clear h1 h k1 hsz hZq hP hF hk u0 hq1 hWA hFG hnp pc hap hap' hgo hT hTp hTF hTZ hTi hm1 hq1'
 unfold ptrV at p2 p3
 go_enter Tryz.func26, Tryz.ntmps26
 go_upto_region 1 with fail
 rw [← hW1, ← hq]
 clear hW1 hq
 go_upto_region 10 with fail
 refine wp_region_held' (Kp T W1) [0,0,0,0,2,0,0,0,0,2,0,0] [0,1,2,3,5,6,7,8,4,9,10,11] (by kernel_rfl) (by kernel_rfl) (fun _ n h => h.drewN n) (Kp.refl _ _) ?_
 repeat (first
  | (apply wpOrd_skip rfl (by decide) rfl; (focus (go_simp; rfl)))
  | (apply wpOrd_pure rfl rfl rfl; (focus (intro _ _; go_simp; (try go_ints); rfl)); (focus (go_simp; rfl)))
  | (apply wpOrd_read rfl rfl rfl; (focus (intro _; go_simp; (try go_ints); rfl)); (focus (go_simp; rfl))))
 refine wpOrd_eff rfl rfl (fun n1 => ?_)
 have hc := HAP.out n1
 clear HAP
 go_wp2_with fail
 with_reducible refine hc.mono ?_
 rintro e w2 ⟨rfl, hs2⟩
 clear hc
 have hs2' : SaidW W1 d l P F G q1.2.1 q1.2.2 w2 := SaidW.from hs2 ((Kp.refl No W1).drewN n1)
 have hkT : Kp T W1 w2 := hs2'.kp.mono fun i _ hh => HT.out.1 i hh
 obtain ⟨Z2, hz2, hf2, hk2⟩ := HGO.out w2 _ _ hs2'
 obtain ⟨H, K, hXA, hHK, hnp, hgo⟩ := hz2.ref
 have hap := fun n1 => xSync_any (w2.drewN n1) r x P s st H K (hXA.no ((Kp.refl No w2).drewN n1)) HPW.out.2.1.hne HPW.out.2.1.hsl (by have := HPW.out.2.1.ents; have := HPW.out.2.2; omega) (fun z hz => by have := HPW.out.2.1.no z hz; have := HPW.out.2.1.ents; have := HPW.out.2.2; omega) HPW.out.1
 rw [← HQQ.out] at hap
 have hap' : ∀ n1, Calls Tryz.prog _ _ (w2.drewN n1) (SnxP (w2.drewN n1) r x P H K q1) := hap
 unfold SnxP at hap'
 rw [← HM.out] at hap'
 have HAP := Lib.hid hap'
 have HGO2 := Lib.hid hgo
 have HS2 := Lib.hid (And.intro hkT (And.intro hf2 (And.intro hk2 (And.intro hHK hnp))))
 clear hs2 hs2' hkT hz2 hf2 hk2 hXA hHK hnp hgo hap hap' HGO
 go_wp2_with fail
 refine ⟨HS2.out.1, ?_⟩
 refine wpOrd_eff rfl rfl (fun n2 => ?_)
 have hc := HAP.out n2
 clear HAP
 go_wp2_with fail
 with_reducible refine hc.mono ?_
 rintro e w3 ⟨rfl, hs3⟩
 clear hc
 have hs3' : SaidX w2 r x P H K q1.2.1 q1.2.2 w3 := by
  obtain ⟨F', G', k1, k2, k3, k4⟩ := hs3
  exact ⟨F', G', k1, k2, k3, k4.of_drewN⟩
 obtain ⟨Z3, hz3, hf3, hk3⟩ := HGO2.out w3 _ _ hs3'
 have HKT := Lib.hid (show Kp T W1 w3 from HS2.out.1.trans hs3'.kp fun i hi hh => by
  rcases HS2.out.2.1 i (HS2.out.2.2.2.1 i hh).2 with h1 | h1
  ·exact HT.out.2.2 i h1 fun e => HS2.out.2.2.2.2 (e ▸ hh)
  ·omega)
 have hkW : Kp Z W w3 := ((Kp.of_no HK1.out).trans_same HS2.out.2.2.1).trans hs3'.kp fun i hi hh => by
  rcases HS2.out.2.1 i (HS2.out.2.2.2.1 i hh).2 with h1 | h1
  ·exact h1
  ·have := HK1.out.size; omega
 have hfW : Foot Z Z3 W := fun i hi => (HS2.out.2.1.trans hf3 HS2.out.1.size i hi).imp id fun hh => Nat.le_trans HK1.out.size hh
 have HFIN := Lib.hid (show ∀ n, DoesP w W p d r l x P q1.2.1 q1.2.2 Z (.returned (.bool true)) (w3.drewN n) from fun n => ⟨rfl, Z3, hz3.no ((Kp.refl No w3).drewN n), hfW, hkW.drewN n⟩)
 clear hs3 hs3' hz3 hf3 hk3 hkW hfW HGO2
 go_wp2_with fail
 refine ⟨HKT.out, ?_⟩
 repeat (first
  | (apply wpOrd_skip rfl (by decide) rfl; (focus (go_simp; rfl)))
  | (apply wpOrd_pure rfl rfl rfl; (focus (intro _ _; go_simp; (try go_ints); rfl)); (focus (go_simp; rfl)))
  | (apply wpOrd_read rfl rfl rfl; (focus (intro _; go_simp; (try go_ints); rfl)); (focus (go_simp; rfl))))
 refine wpOrd_nil (fun nq => ?_)
 go_wp2_with fail
 go_ret
 exact HFIN.out nq
set_option maxRecDepth 100000 in
set_option maxHeartbeats 4000000 in
theorem does3 (w W : World) (p d r l x : Nat) (P : ByteArray) (s : DSt) (st : LSt) (Z : Nat → Prop) (h : PL w W p d r l x P s st s st Z) (hpow : Pow w) (hok : FilesOk s.files) (hroom : s.room ≤ 1048576)
  (N : Int) (hN0 : -9223372036854775808 ≤ N) (hN1 : N ≤ 9223372036854775807) (t : UInt8) (bv : Value) :
  Calls Tryz.prog 26 #[.pointer (some ⟨p, 0, none⟩), .agg #[.int .i64 3, .int .i64 N, bv, .int .u8 (t.toNat : Int)]] W fun e w' => e = .returned (.bool true) ∧ ∃ l x s' st' Z', openS ⟨#[97]⟩ (crS s N t) (nmS (crS s N t).files) = (0, s', st') ∧ Opened ⟨#[97]⟩ (crS s N t) s' st' ∧ Fit 0 ⟨#[97]⟩ s' st' ∧
   PL w w' p d r l x ⟨#[97]⟩ s' st' s' st' Z' ∧ Foot Z Z' W ∧ Kp Z W w' := by
 obtain ⟨q, hq⟩ : ∃ q, q = W.heap.size := ⟨_, rfl⟩
 obtain ⟨W1, hW1⟩ : ∃ V, V = W.alloc (.cells #[.int .i64 3, .int .i64 N, bv, .int .u8 (t.toNat : Int)] 59) := ⟨_, rfl⟩
 have k1 : Kp No W W1 := by rw [hW1]; exact (Kp.refl _ _).alloc _
 have hq1 : W1.heap[q]? = some (.cells #[.int .i64 3, .int .i64 N, bv, .int .u8 (t.toNat : Int)] 59 (0, 0)) := by rw [hW1, hq]; exact heap_alloc_new W _
 have hsz : W1.heap.size = q + 1 := by rw [hW1, hq]; simp
 have h1 := h.no k1
 have hZq : ¬ Z q := fun hz => by have := (h.zn q hz).2; omega
 obtain ⟨u0, _, _, _⟩ := step_cells hq1 No (fun h => h)
 have c0 := u0 W1 (Kp.refl _ _)
 have HQ1 := Lib.hid hq1
 have HPL1 := Lib.hid h1
 have HPL := Lib.hid h
 have HK1 := Lib.hid k1
 have HSZ := Lib.hid hsz
 have HQ := Lib.hid hq
 have HZQ := Lib.hid hZq
 have hql1 : q < W1.heap.size := by omega
 obtain ⟨Z1, hpd, hZ1⟩ := h1.forget
 obtain ⟨F, hDA, hFZ, hnp, hgo⟩ := hpd.disk
 have hnq : ¬ F q := fun hh => hZq (hZ1 q (hFZ q hh).2)
 obtain ⟨hpl1, pc⟩ := hpd.cells F hnp
 have p0 := fun V hV => (pc V hV).1
 obtain ⟨_, u1, _, u3⟩ := step_cells hq1 F hnq
 have hap := fun n1 => Crash_any (W1.drewN n1) d s F (hDA.keep_no ((Kp.refl No W1).drewN n1)) N hN0 hN1 t
 have HAP := Lib.hid hap
 have HGO := Lib.hid hgo
 have HN := Lib.hid (And.intro hpow (And.intro hok (And.intro hroom (And.intro hN0 hN1))))
 have HZ1 := Lib.hid hZ1
 have HFZ := Lib.hid hFZ
 have HND := Lib.hid hDA.few.2.1
 clear h1 h k1 hsz hZq u0 hq1 hDA hnp pc hap hgo hpow hok hroom hN0 hN1 hZ1 hpd hFZ hnq
 unfold ptrV at p0
 go_enter Tryz.func26, Tryz.ntmps26
 go_upto_region 1 with fail
 rw [← hW1, ← hq]
 clear hW1 hq
 go_upto_region 12 with fail
 refine wp_region_held' (Kp F W1) [0,0,0,0,0,0,0,0,2] [0,1,2,3,4,5,6,7,8] (by kernel_rfl) (by kernel_rfl) (fun _ n h => h.drewN n) (Kp.refl _ _) ?_
 repeat (first
  | (apply wpOrd_skip rfl (by decide) rfl; (focus (go_simp; rfl)))
  | (apply wpOrd_pure rfl rfl rfl; (focus (intro _ _; go_simp; (try go_ints); rfl)); (focus (go_simp; rfl)))
  | (apply wpOrd_read rfl rfl rfl; (focus (intro _; go_simp; (try go_ints); rfl)); (focus (go_simp; rfl))))
 refine wpOrd_eff rfl rfl (fun n1 => ?_)
 have hc := HAP.out n1
 clear HAP
 go_wp2_with fail
 with_reducible refine hc.mono ?_
 rintro e w2 ⟨rfl, hd2, hk2⟩
 clear hc
 have hk2' : Kp F W1 w2 := hk2.of_drewN
 obtain ⟨Z2, hz2, hf2, hkz2⟩ := HGO.out w2 _ _ hd2 (Foot.refl _ _) hk2'
 have HK2 := Lib.hid hk2'
 have HQ2 := Lib.hid (hk2'.get HQ1.out fun hh => HZQ.out (HZ1.out q (HFZ.out q hh).2))
 have HS2 := Lib.hid (And.intro hz2 (And.intro hf2 hkz2))
 clear hd2 hk2 hk2' hz2 hf2 hkz2 HGO
 go_wp2_with fail
 refine ⟨HK2.out, ?_⟩
 refine wpOrd_nil (fun nq => ?_)
 obtain ⟨w3, hw3⟩ : ∃ V, V = w2.drewN nq := ⟨_, rfl⟩
 have hk3 : Kp No w2 w3 := by rw [hw3]; exact (Kp.refl No w2).drewN nq
 rw [← hw3]
 clear u1 u3 p0 hpl1
 have hz3 := HS2.out.1.no hk3
 have HK3 := Lib.hid hk3
 have HQ3 := Lib.hid (hk3.get HQ2.out fun x => x)
 obtain ⟨H, hRA, hHZ, hnp, hgo⟩ := hz3.rdisk
 have hnq : ¬ H q := fun hh => by
  rcases HS2.out.2.1 q (hHZ q hh).2 with h1 | h1
  ·exact HZQ.out (HZ1.out q h1)
  ·omega
 obtain ⟨hpl3, pc⟩ := hz3.cells H hnp
 have p1 := fun V hV => (pc V hV).2
 obtain ⟨_, u1, _, u3⟩ := step_cells HQ3.out H hnq
 have hap := fun n1 => rCrash_any (w3.drewN n1) r s H (hRA.keep_no ((Kp.refl No w3).drewN n1)) N HN.out.2.2.2.1 HN.out.2.2.2.2 t
 have HAP := Lib.hid hap
 have HGO := Lib.hid hgo
 have hql3 : q < w3.heap.size := get_lt HQ3.out
 clear hw3 hk3 hz3 hRA hHZ hnp hgo hnq pc hap
 unfold ptrV at p1
 go_upto_region 13 with fail
 refine wp_region_held' (Kp H w3) [0,0,0,0,0,0,0,0,2] [0,1,2,3,4,5,6,7,8] (by kernel_rfl) (by kernel_rfl) (fun _ n h => h.drewN n) (Kp.refl _ _) ?_
 repeat (first
  | (apply wpOrd_skip rfl (by decide) rfl; (focus (go_simp; rfl)))
  | (apply wpOrd_pure rfl rfl rfl; (focus (intro _ _; go_simp; (try go_ints); rfl)); (focus (go_simp; rfl)))
  | (apply wpOrd_read rfl rfl rfl; (focus (intro _; go_simp; (try go_ints); rfl)); (focus (go_simp; rfl))))
 refine wpOrd_eff rfl rfl (fun n1 => ?_)
 have hc := HAP.out n1
 clear HAP
 go_wp2_with fail
 with_reducible refine hc.mono ?_
 rintro e w4 ⟨rfl, H', hd4, hf4, hk4⟩
 clear hc
 have hk4' : Kp H w3 w4 := hk4.of_drewN
 obtain ⟨Z4, hz4, hf4', hkz4⟩ := HGO.out w4 _ _ hd4 hf4 hk4'
 have HK4 := Lib.hid hk4'
 have HS4 := Lib.hid (And.intro hz4 (And.intro hf4' hkz4))
 clear hd4 hf4 hk4 hk4' hz4 hf4' hkz4 HGO
 go_wp2_with fail
 refine ⟨HK4.out, ?_⟩
 refine wpOrd_nil (fun nq => ?_)
 obtain ⟨w5, hw5⟩ : ∃ V, V = w4.drewN nq := ⟨_, rfl⟩
 have hk5 : Kp No w4 w5 := by rw [hw5]; exact (Kp.refl No w4).drewN nq
 rw [← hw5]
 clear u1 u3 p1 hpl3
 have hcr := cr_ok HN.out.2.1 N t
 have hop := open_pair w w5 p d r (ptrV l) (ptrV x) (crS s N t) Z4 (HS4.out.1.no hk5) HN.out.1 ⟨hcr.2.2, by
  have := HND.out
  show ((s.files.map fun p => (p.1, crF N t p.2)).map (·.1)).Nodup
  rw [List.map_map]
  exact this, hcr.1⟩ (by rw [hcr.2.1]; exact HN.out.2.2.1)
 have HOP := Lib.hid hop
 have HK5 := Lib.hid hk5
 clear hw5 hk5 hop hcr
 go_upto_region 15 with fail
 refine HOP.out.mono ?_
 rintro e w6 ⟨rfl, l', x', s', st', Z6, o1, o2, o3, o4, o5, o6⟩
 have hf24 : Foot Z Z4 W := fun i hi => by
  rcases HS4.out.2.1 i hi with h1 | h1
  ·rcases HS2.out.2.1 i h1 with h2 | h2
   ·exact .inl (HZ1.out i h2)
   ·exact .inr (Nat.le_trans HK1.out.size h2)
  ·exact .inr (Nat.le_trans (Nat.le_trans HK1.out.size (Nat.le_trans HK2.out.size HK3.out.size)) h1)
 have hk24 : Kp Z W w5 := by
  have a1 : Kp Z W w2 := (Kp.of_no HK1.out).trans HS2.out.2.2 fun i _ hh => HZ1.out i hh
  have a2 : Kp Z W w4 := (a1.trans_no HK3.out).trans HS4.out.2.2 fun i hi hh => by
   rcases HS2.out.2.1 i hh with h2 | h2
   ·exact HZ1.out i h2
   ·have := HK1.out.size; omega
  exact a2.trans_no HK5.out
 have HFIN := Lib.hid (show ∃ l x s' st' Z', openS ⟨#[97]⟩ (crS s N t) (nmS (crS s N t).files) = (0, s', st') ∧ Opened ⟨#[97]⟩ (crS s N t) s' st' ∧ Fit 0 ⟨#[97]⟩ s' st' ∧ PL w w6 p d r l x ⟨#[97]⟩ s' st' s' st' Z' ∧ Foot Z Z' W ∧ Kp Z W w6 from
  ⟨l', x', s', st', Z6, o1, o2, o3, o4, hf24.trans o5 hk24.size, hk24.trans o6 fun i hi hh => by
   rcases hf24 i hh with h2 | h2
   ·exact h2
   ·omega⟩)
 clear o1 o2 o3 o4 o5 o6 hf24 hk24
 go_wp2_with fail
 go_ret
 exact ⟨rfl, HFIN.out⟩
end Go.Proofs.YtdibkdgafidjgaaGreatDoor

