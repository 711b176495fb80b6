/-
  Texts laid together: WRd, WAppend, XSync2, XEnc.
-/
import Derived.Test.YtgnkmjeoaoongaaGreatDoorSb9
import Derived.Test.YtgnkmjeoaoongaaGreatDoorSb8
import Derived.Test.YtgnkmjeoaoongaaGreatDoorSa5
import Derived.Deep.CutRange
import Derived.Test.YtgnkmjeoaoongaaGreatDoorSb5
namespace Go.Proofs.YtgnkmjeoaoongaaGreatDoor
open Go.RowKit Go.Mer
theorem Out_any (w : World) (b : Nat) (a : Option Addr) (c : Nat) (l : List UInt8) (hb : w.heap[b]? = some (.cells #[.slice a l.length c] 121 (0, 0))) (hR : Rd w w.heap.size a (u8s l)) (hl : l.length ≤ 140737488355328) :
  Calls Tryz.prog 61 #[.pointer (some ⟨b, 0, none⟩)] w (OwP w l) := by
 have hcl := clone_any a c l w.heap.size w hR hl
 have c0 := cell_at hb 0
 have hbl := get_lt hb
 simp at c0
 obtain ⟨n, hn⟩ : ∃ n, n = l.length := ⟨_, rfl⟩
 rw [← hn] at hcl c0
 have HCL := Lib.hid hcl
 have HN := Lib.hid hn
 clear hcl hb hR hl hn
 go_enter Tryz.func61, Tryz.ntmps61
 go_wp2_with fail
 have hc := HCL.out
 with_reducible refine hc.mono ?_
 rintro e w1 ⟨v, rfl, ho, hk, hf⟩
 obtain ⟨_, a1, c1, rfl, _⟩ := id ho
 have HFIN := Lib.hid (show OwP w l (.returned (.slice a1 n c1)) w1 from ⟨a1, c1, by rw [← show n = _ from HN], by rw [← show n = _ from HN]; exact ho, by rw [← show n = _ from HN]; exact hf, hk⟩)
 clear ho hk hf hc
 go_wp2_with fail
 go_ret
 exact HFIN.out
def ReP (w : World) (b : Nat) (l : List UInt8) (bad : Bool) (w' : World) : Prop :=
 ∃ a c, w'.heap[b]? = some (.cells #[.slice a l.length c, .bool bad] 278 (0, 0)) ∧ Rd w' w'.heap.size a (u8s l) ∧ l.length ≤ c ∧ w.heap.size ≤ b ∧ (∀ g o, 0 < l.length → a = some ⟨g, o, none⟩ → g ≠ b) ∧ Kp No w w'
end Go.Proofs.YtgnkmjeoaoongaaGreatDoor
namespace Go.Proofs.YtgnkmjeoaoongaaGreatDoor
open Go.RowKit Go.Mer
theorem dec_ne (x : Int) : decide (x ≠ 6) = (x != 6) := by
 by_cases h : x = 6
 ·subst h; rfl
 ·rw [decide_eq_true h]
  simp [bne, h]
theorem catR_two (a a' : Option Addr) (c c' : Nat) (l l' : List UInt8) : catR [⟨a, c, l⟩, ⟨a', c', l'⟩] = l ++ l' := by simp [catR]
theorem entL_len (n : Nat) (hn : n ≤ 1000000000000) (p : List UInt8) : (entL n p).length = (numL n).length + p.length + 12 ∧ (numL n).length ≤ 6 := by
 have := numL_len hn
 unfold entL
 rw [frameL_length, List.length_append]
 omega
theorem syncs_same (P : ByteArray) (s : DSt) (st : LSt) : (syncsS P s st).2.2.ents = st.ents ∧ (syncsS P s st).2.2.segs = st.segs ∧ (syncsS P s st).2.2.dead = st.dead := by
 unfold syncsS
 split
 ·split
  ·exact ⟨rfl, rfl, rfl⟩
  ·simp only
   split
   ·exact ⟨rfl, rfl, rfl⟩
   ·exact ⟨rfl, rfl, rfl⟩
 ·exact ⟨rfl, rfl, rfl⟩
theorem pre_fresh {P : ByteArray} {s : DSt} {st : LSt} (h : freshS st = true) (hs : st.segs ≠ []) : preS P s st = syncsS P s st := by unfold preS; rw [if_pos ⟨h, hs⟩]
theorem pre_none {P : ByteArray} {s : DSt} {st : LSt} (h : st.segs = []) : preS P s st = (0, s, st) := by unfold preS; rw [if_neg (fun hh => hh.2 h)]
theorem pre_old {P : ByteArray} {s : DSt} {st : LSt} (h : freshS st = false) : preS P s st = (0, s, st) := by unfold preS; rw [if_neg (fun hh => by rw [h] at hh; cases hh.1)]
theorem fresh_none {st : LSt} (h : st.segs = []) : freshS st = true := by unfold freshS; rw [h]; rfl
theorem fresh_last {st : LSt} {S1 : List (Nat × Nat)} {z : Nat × Nat} (h : st.segs = S1 ++ [z]) : freshS st = decide (1024 ≤ z.2) := by
 unfold freshS
 rw [h, List.getLast?_append]
 rfl
theorem lastNo_last {st : LSt} {S1 : List (Nat × Nat)} {z : Nat × Nat} (h : st.segs = S1 ++ [z]) : lastNo st = z.1 := by
 unfold lastNo
 rw [h, List.getLast?_append]
 rfl
theorem app_no {P : ByteArray} {s : DSt} {st : LSt} {p : List UInt8} (hd : st.dead = false) (hl : p.length ≤ 262134) (h : (preS P s st).1 ≠ 0) : appS P s st p = ((0, (preS P s st).1), (preS P s st).2.1, { (preS P s st).2.2 with dead := (preS P s st).1 != 6 }) := by
 unfold appS
 rw [if_neg (by rw [hd]; decide), if_neg (by omega), if_neg h, dec_ne]
theorem app_go {P : ByteArray} {s s1 : DSt} {st st1 : LSt} {p : List UInt8} (hd : st.dead = false) (hl : p.length ≤ 262134) (h : preS P s st = (0, s1, st1)) :
  appS P s st p = (if (wrS s1 (toN P st) (entL (st.ents.length + 1) p)).1 = 0 then ((st.ents.length + 1, 0), (wrS s1 (toN P st) (entL (st.ents.length + 1) p)).2, addS st1 p) else ((0, (wrS s1 (toN P st) (entL (st.ents.length + 1) p)).1), (wrS s1 (toN P st) (entL (st.ents.length + 1) p)).2, { st1 with dead := (wrS s1 (toN P st) (entL (st.ents.length + 1) p)).1 != 6 })) := by
 unfold appS
 rw [if_neg (by rw [hd]; decide), if_neg (by omega), h, if_pos rfl, ← dec_ne]
theorem add_fresh {st : LSt} {p : List UInt8} (h : freshS st = true) : addS st p = { st with ents := st.ents ++ [p], segs := st.segs ++ [(st.ents.length + 1, 0 + (entL (st.ents.length + 1) p).length)] } := by
 unfold addS
 rw [if_pos h, Nat.zero_add]
theorem add_old {st : LSt} {p : List UInt8} {S1 : List (Nat × Nat)} {z : Nat × Nat} (h : freshS st = false) (hs : st.segs = S1 ++ [z]) : addS st p = { st with ents := st.ents ++ [p], segs := S1 ++ [(z.1, z.2 + (entL (st.ents.length + 1) p).length)] } := by
 unfold addS bump
 rw [if_neg (by rw [h]; decide), hs, List.getLast?_append]
 simp
def AppP (w : World) (d l : Nat) (P : ByteArray) (F G : Nat → Prop) (r : (Nat × Int) × DSt × LSt) (e : Ending) (w' : World) : Prop :=
 e = .returned (.tuple #[.int .i64 (r.1.1 : Int), .int .i64 r.1.2]) ∧ SaidW w d l P F G r.2.1 r.2.2 w'
set_option maxRecDepth 100000 in
set_option maxHeartbeats 4000000 in
theorem wAppend_any (w : World) (d l : Nat) (P : ByteArray) (s : DSt) (st : LSt) (F G : Nat → Prop) (h : WAt w d l P s st F G) (hne : st.segs = [] → st.ents.length ≤ st.synced) (hpow : Pow w) (hpF : ¬ F 0) (hpG : ¬ G 0) (hP : P.size ≤ 50) (hfew : st.ents.length + 1 < 1000000) (hsegs : st.segs.length ≤ 1000000) (hzb : ∀ z ∈ st.segs, z.2 ≤ 1000000000)
  (pa : Option Addr) (pc : Nat) (p : List UInt8) (hp : ∀ W, Kp (Both F G) w W → Rd W W.heap.size pa (u8s p)) (hpl : p.length ≤ 1000000000) :
  Calls Tryz.prog 112 #[.pointer (some ⟨l, 0, none⟩), .slice pa p.length pc] w (AppP w d l P F G (appS P s st p)) := by
 have hmf : ∀ (fn : Fn) (first cap : Array Value) (w : World), (Instr.makeFunc fn first cap).run Tryz.prog w = .ok (.func fn first cap) w := fun _ _ _ _ => rfl
 obtain ⟨sv, ev, E, hC, hE, hLF, hGl⟩ := h.log
 obtain ⟨c0, c1, c2, c3, _, c5, _⟩ := hC.cells
 have hll := get_lt hC.cell
 have hFlt := h.disk.lt
 have hGlt := h.log.lt
 obtain ⟨pl, hple⟩ : ∃ pl, pl = p.length := ⟨_, rfl⟩
 rw [← hple] at hpl ⊢
 have H := Lib.hid h
 have HNE := Lib.hid hne
 have HPW := Lib.hid hpow
 have HPFG := Lib.hid (And.intro hpF hpG)
 have HFEW := Lib.hid (And.intro hfew (And.intro hsegs hzb))
 have HP := Lib.hid hp
 have HPLE := Lib.hid hple
 have HC := Lib.hid hC
 have HE := Lib.hid hE
 have HLF := Lib.hid hLF
 have HFL := Lib.hid hFlt
 have HGL := Lib.hid hGlt
 have HC5 := Lib.hid c5
 have HPL := Lib.hid hpl
 obtain ⟨W2, hW2⟩ : ∃ W, W = ((w.alloc (.cells #[.pointer (some ⟨l, 0, none⟩)] 127)).alloc (.cells #[.int .i64 0] 3)).alloc (.cells #[.int .i64 0] 47) := ⟨_, rfl⟩
 have hk2 : Kp No w W2 := by rw [hW2]; exact (((Kp.refl No w).alloc _).alloc _).alloc _
 have c5w := c5 W2 hk2
 rw [hW2] at c5w
 have HW2 := Lib.hid hW2
 have HK2 := Lib.hid hk2
 clear h hE hLF hGl hC hFlt hGlt hne hpow hpF hpG hfew hsegs hzb hp hple c5 hW2 hk2
 cases hd : st.dead with
 | true =>
  have HQ := Lib.hid (show appS P s st p = ((0, 9), s, st) by unfold appS; rw [if_pos hd])
  rw [hd] at c5w
  clear hd
  go_enter_defers Tryz.func112, Tryz.ntmps112
  go_wp2_with fail
  refine bodyD_none (v := .tuple #[.int .i64 0, .int .i64 9]) rfl (by simp [results, Tryz.results112, go_sem]) ⟨by rw [HQ.out]; rfl, ?_⟩
  rw [HQ.out]
  exact SaidW.here H.out ((((Kp.refl No w).alloc _).alloc _).alloc _)
 | false =>
  by_cases hlong : 262134 < pl
  ·have HQ := Lib.hid (show appS P s st p = ((0, 5), s, st) by unfold appS; rw [if_neg (by rw [hd]; decide), if_pos (by rw [← HPLE.out]; exact hlong)])
   have e1 : decide ((262134 : Int) < (pl : Int)) = true := by rw [decide_eq_true_iff]; omega
   rw [hd] at c5w
   clear hd
   go_enter_defers Tryz.func112, Tryz.ntmps112
   go_wp2_with fail
   refine bodyD_none (v := .tuple #[.int .i64 0, .int .i64 5]) rfl (by simp [results, Tryz.results112, go_sem]) ⟨by rw [HQ.out]; rfl, ?_⟩
   rw [HQ.out]
   exact SaidW.here H.out ((((Kp.refl No w).alloc _).alloc _).alloc _)
  ·have e1 : decide ((262134 : Int) < (pl : Int)) = false := by rw [decide_eq_false_iff_not]; omega
   have HD := Lib.hid hd
   rw [hd] at c5w
   clear hd
   have hpl2 : p.length ≤ 262134 := by rw [← HPLE.out]; omega
   have HPL2 := Lib.hid hpl2
   obtain ⟨b0, hb0⟩ : ∃ b0, b0 = w.heap.size := ⟨_, rfl⟩
   have hsz : W2.heap.size = b0 + 3 := by rw [HW2.out, hb0]; simp
   have hAW : ApW w W2 d l b0 F G := by
    refine ⟨HK2.out, hb0, hsz, ?_, ?_, ?_, ?_, ?_, by rw [hb0]; exact hll, HFL.out, HGL.out⟩ <;> (rw [HW2.out, hb0]; simp [go_sem])
   have HAW := Lib.hid hAW
   have HB0 := Lib.hid hb0
   have hAW2 := HAW.out.cells (Kp.refl (Both F G) W2)
   have hp0 := hAW2.1
   have hC2 := HC.out.keep_no HK2.out
   have hll2 := HK2.out.lt hll
   obtain ⟨d0, d1, d2, d3, _, _, _⟩ := hC2.cells
   obtain ⟨ea, ec, rfl, hec, _⟩ := hC2.ents.rd
   obtain ⟨en, hen⟩ : ∃ en, en = E.length := ⟨_, rfl⟩
   rw [← hen] at d3
   obtain ⟨k1, hk1⟩ : ∃ k1, k1 = en + 1 := ⟨_, rfl⟩
   have hek : st.ents.length + 1 = k1 := by rw [hk1, hen, HE.out, List.length_map]
   have hw1 : wrap64 ((en : Int) + 1) = (k1 : Int) := by
    have := HFEW.out.1
    rw [IntWalk.wrap64_in _ (by omega), hk1]
    push_cast
    rfl
   have hnm := wName_bnm P (by omega) k1 (by rw [← hek]; exact HFEW.out.1) W2 (HPW.out.keep HK2.out)
   have d0w := d0 W2 (Kp.refl _ _)
   have d1w := d1 W2 (Kp.refl _ _)
   have d2w := d2 W2 (Kp.refl _ _)
   have d3w := d3 W2 (Kp.refl _ _)
   have HNM := Lib.hid hnm
   have HEK := Lib.hid hek
   have HEN := Lib.hid hen
   have HC2 := Lib.hid hC2
   clear hb0 hsz hAW hAW2 hC2 d0 d1 d2 d3 hec hen hk1 hek hnm hpl2
   rcases List.eq_nil_or_concat st.segs with hsg | ⟨S1, z, hsg⟩
   ·obtain ⟨sa, sc, rfl, _⟩ := HC2.out.segs.rd
    have HSG := Lib.hid hsg
    rw [hsg] at d2w
    have hl0 : ([] : List (Nat × Nat)).length = 0 := rfl
    rw [hl0] at d2w
    clear hsg hl0
    go_enter_defers Tryz.func112, Tryz.ntmps112
    go_upto_region 8 with fail
    rw [← HW2.out, ← HB0.out]
    clear c5w
    go_upto_region 11 with fail
    go_wp2_with fail
    have hc := HNM.out
    with_reducible refine hc.mono ?_
    rintro e w3 ⟨rfl, hk3⟩
    clear hc HNM
    have p03 := (hk3.cell (p := ⟨b0, 0, none⟩) (by show b0 < _; have := HAW.out.size; omega) (fun x => x)).trans hp0
    have d23 := (hk3.cell (p := ⟨l, 2, none⟩) hll2 (fun x => x)).trans d2w
    go_upto_region 16 with fail
    obtain ⟨s1, hs1⟩ : ∃ s1, s1 = s := ⟨_, rfl⟩
    obtain ⟨st1, hst1⟩ : ∃ st1, st1 = st := ⟨_, rfl⟩
    have HS1 := Lib.hid (show SaidW W2 d l P F G s1 st1 w3 from by rw [hs1, hst1]; exact SaidW.here (H.out.no HK2.out) hk3)
    have HPR := Lib.hid (show preS P s st = (0, s1, st1) from by rw [hs1, hst1]; exact pre_none HSG.out)
    have HST := Lib.hid (show st1.ents = st.ents ∧ st1.segs = st.segs from by rw [hst1]; exact ⟨rfl, rfl⟩)
    clear hs1 hst1
    have HFR := Lib.hid (fresh_none HSG.out)
    obtain ⟨tn, htn⟩ : ∃ tn, tn = bnm P k1 := ⟨_, rfl⟩
    have HTO := Lib.hid (show tn = toN P st by unfold toN; rw [if_pos HFR.out, HEK.out]; exact htn)
    rw [← htn]
    clear htn hk3 d0w d1w d2w d3w hp0 hw1 p03 d23
    have hkx := HS1.out.kp
    have hxc := HAW.out.cells hkx
    have hwx : Kp (Both F G) w w3 := (Kp.of_no HK2.out).trans_same hkx
    have hpx := HP.out w3 hwx
    have HPX := Lib.hid hpx
    have HKX := Lib.hid hkx
    have HWX := Lib.hid hwx
    obtain ⟨bw, hbw⟩ : ∃ bw, bw = w3.heap.size := ⟨_, rfl⟩
    obtain ⟨W4, hW4⟩ : ∃ W, W = (w3.alloc (.cells #[.slice none 0 0] 121)).alloc (.cells #[.int .i64 (k1 : Int)] 3) := ⟨_, rfl⟩
    have k4 : Kp No w3 W4 := by rw [hW4]; exact ((Kp.refl _ _).alloc _).alloc _
    have hb4 : W4.heap[bw]? = some (.cells #[.slice none 0 0] 121 (0, 0)) := by
     rw [hW4, hbw]
     exact alloc_far (heap_alloc_new w3 _) _
    have hg4 : W4.cell? ⟨bw + 1, 0, none⟩ = some (.int .i64 (k1 : Int)) := by rw [hW4, hbw]; simp [go_sem]
    have hk1b : k1 ≤ 1000000000000 := by rw [← HEK.out]; have := HFEW.out.1; omega
    have hnums := Nums_1 W4 bw (bw + 1) 1 k1 hk1b hb4 hg4
    have HNU := Lib.hid hnums
    have HK4 := Lib.hid k4
    have HW4 := Lib.hid hW4
    have HBW := Lib.hid hbw
    have HK1B := Lib.hid hk1b
    clear hkx hwx hpx k4 hb4 hg4 hnums hW4 hbw hk1b hxc
    go_upto_region 17 with fail
    go_wp2_with fail
    rw [← HBW.out, ← HW4.out]
    have hc := HNU.out
    with_reducible refine hc.mono ?_
    rintro e w5 ⟨rfl, na, nc, hb5, ho5, hf5, hk5⟩
    clear hc HNU
    have hk45 : Kp No w3 w5 := HK4.out.trans hk5 fun i hi (e : i = bw) => by have := HBW.out; omega
    have hou := Out_any w5 bw na nc (numL k1) hb5 ho5.rd' (by have := (entL_len k1 HK1B.out p).2; omega)
    have HOU := Lib.hid hou
    have HK45 := Lib.hid hk45
    clear hb5 ho5 hf5 hk5 hk45 hou
    go_upto_region 18 with fail
    go_wp2_with fail
    have hc := HOU.out
    with_reducible refine hc.mono ?_
    rintro e w6 ⟨oa, oc, rfl, ho6, hf6, hk6⟩
    clear hc HOU
    have hp6 := HPX.out.kp (HK45.out.trans_same hk6)
    have htwo := two_made w6 42 oa pa oc pc (numL k1) p ho6.rd' hp6 (by have := (entL_len k1 HK1B.out p).2; omega) (by have := HPL2.out; omega)
    obtain ⟨W7, hW7⟩ : ∃ W, W = w6.alloc (.cells #[.slice oa (numL k1).length oc, .slice pa p.length pc] 42) := ⟨_, rfl⟩
    have hen : Calls Tryz.prog 186 #[.slice (some ⟨w6.heap.size, 0, none⟩) 2 2] W7 (FrP W7 (numL k1 ++ p)) := by
     have h := Encode_any W7 (some ⟨w6.heap.size, 0, none⟩) 2 [⟨oa, oc, numL k1⟩, ⟨pa, pc, p⟩] (by rw [hW7]; exact htwo.1) (Nat.le_refl _) (by show 2 ≤ _; omega) (by
      rw [catR_two, List.length_append]
      have := (entL_len k1 HK1B.out p).2
      have := HPL2.out
      omega)
     rw [catR_two] at h
     exact h
    have k67 : Kp No w6 W7 := by rw [hW7]; exact htwo.2
    obtain ⟨nl, hnl⟩ : ∃ nl, nl = (numL k1).length := ⟨_, rfl⟩
    rw [← hnl, ← HPLE.out] at hW7
    rw [← hnl]
    have HEN := Lib.hid hen
    have HK7 := Lib.hid ((HK45.out.trans_same hk6).trans_same k67)
    have HW7 := Lib.hid hW7
    clear hp6 htwo hen k67 hnl hW7 ho6 hf6 hk6
    go_wp2_with fail
    rw [← HW7.out]
    have hc := HEN.out
    with_reducible refine hc.mono ?_
    rintro e w8 ⟨fa, fc, rfl, hr8, hk8⟩
    clear hc HEN
    have hk8x : Kp No w3 w8 := HK7.out.trans_same hk8
    obtain ⟨F1, G1, hW1, hF1, hG1, hK1⟩ := HS1.out
    have hc8 := HAW.out.cells (HKX.out.trans_no hk8x)
    have hp08 := hc8.1
    have hL8 := hW1.log.keep_no hk8x
    obtain ⟨svx, evx, Ex, hCx, hEx, _, _⟩ := hL8
    have hl08 := hCx.cells.1 w8 (Kp.refl _ _)
    have hll8 := get_lt hCx.cell
    have hb08 : b0 < w8.heap.size := by have := hc8.2.2.2.2.2; omega
    have hgo := gate_ok w8
    have hwr := Write_any w8 d s1 F1 (hW1.disk.keep_no hk8x) tn fa fc (entL k1 p) hr8 (by
     have := (entL_len k1 HK1B.out p)
     have := HPL2.out
     omega)
    obtain ⟨q, hq⟩ : ∃ q, q = wrS s1 tn (entL k1 p) := ⟨_, rfl⟩
    have hqc := wr_code s1 tn (entL k1 p)
    rw [← hq] at hwr hqc
    obtain ⟨fl, hfl⟩ : ∃ fl, fl = (entL k1 p).length := ⟨_, rfl⟩
    rw [show (frameL (numL k1 ++ p)).length = fl from hfl.symm]
    rw [← hfl] at hwr
    have HWR := Lib.hid hwr
    have HQ := Lib.hid hq
    have HFLE := Lib.hid hfl
    have HK8X := Lib.hid hk8x
    have HW1 := Lib.hid (And.intro hW1 (And.intro hF1 (And.intro hG1 hK1)))
    clear hr8 hk8 hk8x hW1 hF1 hG1 hK1 hc8 hCx hEx hwr hq hfl
    go_wp2_with fail
    with_reducible refine hgo.mono ?_
    rintro e w9 ⟨rfl, rfl⟩
    clear hgo
    go_wp2_with fail
    have hc := HWR.out
    with_reducible refine hc.mono ?_
    rintro e w9 ⟨rfl, F9, hD9, hF9, hK9⟩
    clear hc HWR
    obtain ⟨qc, hqe⟩ : ∃ qc, qc = q.1 := ⟨_, rfl⟩
    rw [← hqe] at hqc ⊢
    have hga := gate_any qc hqc.1 hqc.2 w9
    have hS9 : SaidW W2 d l P F G q.2 st1 w9 := SaidW.trans ⟨F1, G1, HW1.out.1, HW1.out.2.1, HW1.out.2.2.1, HW1.out.2.2.2, F9, G1, (HW1.out.1.no HK8X.out).turnD hD9 hF9 hK9, fun k hk => (hF9 k hk).imp id fun h => Nat.le_trans HK8X.out.size h, Foot.refl _ _, ((Kp.of_no HK8X.out).trans_same hK9).mono fun _ _ x => .inl x⟩
    have HS9 := Lib.hid hS9
    have HQE := Lib.hid hqe
    clear hD9 hF9 hK9 hS9 hqe hp08 hl08 hll8 hb08
    go_wp2_with fail
    with_reducible refine hga.mono ?_
    rintro e w' ⟨hgp, rfl⟩
    clear hga
    rcases hgp with ⟨hz, rfl⟩ | ⟨hz, rfl⟩
    rotate_left
    ·obtain ⟨kn, hkn⟩ := Int.eq_ofNat_of_zero_le hqc.1
     have hap := app_go (p := p) HD.out HPL2.out HPR.out
     rw [HEK.out, ← HTO.out, ← HQ.out, if_neg (by rw [← HQE.out]; exact hz), ← HQE.out, hkn] at hap
     rw [hkn]
     refine app_leaves HAW.out HS9.out kn _ rfl rfl _ fun w'' hw'' => ?_
     rw [hap]
     exact ⟨rfl, hw''⟩
    obtain ⟨F2, G2, hW9', hF2, hG2, hK9'⟩ := HS9.out
    obtain ⟨sv9, ev9, E9, hrun9, hE9, _⟩ := LRun.start hW9'.log
    have hc9 := HAW.out.cells hK9'
    have h90 := hc9.1
    have hs9 := hc9.2.2.2.2.2
    have h0 := HAW.out.b0w
    have hsz := HAW.out.size
    have hll9 := HAW.out.ll
    have hgb : ∀ k, G2 k → k < b0 ∨ b0 + 2 < k := fun k hk => by
     rcases hG2 k hk with h1 | h1
     ·have := HGL.out k h1; omega
     ·omega
    have hGn : ∀ i, b0 ≤ i → i ≤ b0 + 2 → ¬ G2 i := fun i h1 h2 h3 => by have := hgb i h3; omega
    have HB := Lib.hid (And.intro hW9' (And.intro hF2 (And.intro hG2 (And.intro hK9' hE9))))
    have HGN := Lib.hid hGn
    have HRUN9 := Lib.hid hrun9
    have HC9 := Lib.hid hc9
    clear hW9' hF2 hG2 hK9' hE9 hgb hGn hrun9 hc9 h0 hsz
    obtain ⟨sa9, sc9, rfl, _, _⟩ := HRUN9.out.c.segs.rd
    obtain ⟨ea9, ec9, rfl, _, _⟩ := HRUN9.out.c.ents.rd
    obtain ⟨en9, hen9⟩ : ∃ en9, en9 = E9.length := ⟨_, rfl⟩
    have HEN9 := Lib.hid hen9
    have hb09 : b0 < w9.heap.size := by omega
    have hen9b : en9 ≤ 1000000 := by
     have h1 := HB.out.2.2.2.2
     have h2 := congrArg List.length h1
     rw [List.length_map, HST.out.1] at h2
     have h3 := HFEW.out.1
     omega
    have HEN9B := Lib.hid hen9b
    clear hen9 hen9b
    obtain ⟨sn9, hsn9⟩ : ∃ sn9, sn9 = st1.segs.length := ⟨_, rfl⟩
    have hsn9b : sn9 ≤ 1000000 := by rw [hsn9, HST.out.2]; exact HFEW.out.2.1
    have hll99 := get_lt HRUN9.out.c.cell
    have hlfp : ∀ k, (Value.slice sa9 sn9 sc9).ownBlock = some k → k ≠ l ∧ ¬ k = b0 ∧ k < w9.heap.size := fun k hk => by
     rw [hsn9] at hk
     refine ⟨(HRUN9.out.c.seg_ne hk).1, fun e => ?_, HRUN9.out.c.segs.lt k hk⟩
     rcases HRUN9.out.foot k (.inr (.inl hk)) with h1 | h1
     ·exact HGN.out k (by omega) (by omega) h1
     ·have := HRUN9.out.c.segs.lt k hk
      omega
    have hS0 : ∀ W, Kp (fun k => (Value.slice sa9 sn9 sc9).ownBlock = some k) w9 W → W.cell? ⟨b0, 0, none⟩ = some (.pointer (some ⟨l, 0, none⟩)) := fun W hW => (hW.cell (p := ⟨b0, 0, none⟩) hb09 (fun h => (hlfp b0 h).2.1 rfl)).trans h90
    have hS2 : ∀ W, Kp (fun k => (Value.slice sa9 sn9 sc9).ownBlock = some k) w9 W → W.cell? ⟨l, 2, none⟩ = some (.slice sa9 sn9 sc9) := fun W hW => by
     rw [hW.cell (p := ⟨l, 2, none⟩) hll99 (fun h => (hlfp l h).1 rfl), cell_at HRUN9.out.c.cell, hsn9]
     rfl
    have hSf : ∀ W, Kp (fun k => (Value.slice sa9 sn9 sc9).ownBlock = some k) w9 W → W.frozen? ⟨l, 2, none⟩ = false := fun W hW => by
     rw [hW.frozen (p := ⟨l, 2, none⟩) hll99 (fun h => (hlfp l h).1 rfl)]
     exact free_at HRUN9.out.c.cell 2
    have HSN9 := Lib.hid hsn9
    clear hsn9
    go_upto_region 22 with fail
    refine wp_region_last (Kp (fun k => (Value.slice sa9 sn9 sc9).ownBlock = some k) w9) [0,0,0,0,0,0,0,2,2,0,0,2] [0,1,2,3,4,5,6,7,8,9,10] 11 (by kernel_rfl) (by kernel_rfl) (fun _ n h => h.drewN n) (Kp.refl _ _) ?_
    repeat (first
     | (apply wpOrd_skip rfl (by decide) rfl; (focus (go_simp; rfl)))
     | (apply wpOrd_pure rfl rfl rfl; (focus (intro _ _; go_simp; (try go_ints); rfl)); (focus (go_simp; rfl)))
     | (apply wpOrd_read rfl rfl rfl; (focus (intro _; go_simp; (try go_ints); rfl)); (focus (go_simp; rfl))))
    refine wpOrd_eff rfl rfl (fun n7 => ?_)
    go_wp2_with fail
    obtain ⟨w10, hw10⟩ : ∃ W, W = (w9.drewN n7).alloc (.cells #[.string tn, .int .i64 0] 243) := ⟨_, rfl⟩
    have h10g : w10.heap[w9.heap.size]? = some (.cells #[.string tn, .int .i64 0] 243 (0, 0)) := by rw [hw10]; exact heap_alloc_new (w9.drewN n7) _
    have k10 : Kp No w9 w10 := by rw [hw10]; exact ((Kp.refl _ _).drewN n7).alloc _
    rw [← hw10]
    clear hw10
    refine ⟨Kp.of_no k10, ?_⟩
    refine wpOrd_eff rfl rfl (fun n8 => ?_)
    have hlr : LRun w9 (w10.drewN n8) l d P (.slice sa9 sn9 sc9) (.slice ea9 E9.length ec9) st1.segs E9 st1.synced st1.dead G2 := by rw [HSN9.out]; exact HRUN9.out.no (k10.drewN n8)
    have hos : Own (w10.drewN n8) 243 2 (.slice sa9 sn9 sc9) sn9 (st1.segs.flatMap (segC P)) := by have := hlr.c.segs; rw [← HSN9.out] at this; exact this
    have htnk : tn = bnm P k1 := by
     have h1 := HTO.out
     unfold toN at h1
     rw [if_pos HFR.out, HEK.out] at h1
     exact h1
    obtain ⟨a', c', w11, hrn, ho', hkp', hbl'⟩ := own_two (T := 239) (E := 243) (sz := 2) (bytes := 24) Tryz.underlying239 infoSeg hos (news := segC P (k1, 0)) (segC_one P (k1, 0)) rfl (g := w9.heap.size) (cs := #[.string tn, .int .i64 0]) h10g (by rw [htnk]; rfl) (by omega) (by omega)
    have kS : Kp (fun k => (Value.slice sa9 sn9 sc9).ownBlock = some k) w9 w11 := (Kp.of_no (k10.drewN n8)).trans_same hkp'
    have HRN := Lib.hid hrn
    have HOP := Lib.hid ho'
    have HKV := Lib.hid hkp'
    have HBL := Lib.hid hbl'
    have HLR := Lib.hid hlr
    clear hrn ho' hkp' hbl' hlr hos htnk h10g
    refine wpList_append_run rfl rfl rfl rfl HRN.out (wpList_nil ⟨rfl, kS, ?_⟩)
    repeat (first
     | (apply wpOrd_skip rfl (by decide) rfl; (focus (go_simp; rfl)))
     | (apply wpOrd_pure rfl rfl rfl; (focus (intro _ _; go_simp; (try go_ints); rfl)); (focus (go_simp; rfl)))
     | (apply wpOrd_read rfl rfl rfl; (focus (intro _; go_simp; (try go_ints); rfl)); (focus (go_simp; rfl))))
    refine last_now (fun n11 => ?_)
    refine wpOrd_eff rfl rfl (fun n12 => ?_)
    obtain ⟨w12, hw12⟩ : ∃ W, W = (w11.drewN n11).drewN n12 := ⟨_, rfl⟩
    have k12 : Kp (fun k => (Value.slice sa9 sn9 sc9).ownBlock = some k) (w10.drewN n8) w12 := by rw [hw12]; exact (HKV.out.drewN n11).drewN n12
    have kS12 : Kp (fun k => (Value.slice sa9 sn9 sc9).ownBlock = some k) w9 w12 := by rw [hw12]; exact (kS.drewN n11).drewN n12
    have ho12 : Own w12 243 2 (.slice a' (sn9 + 1) c') (sn9 + 1) (st1.segs.flatMap (segC P) ++ segC P (k1, 0)) := by rw [hw12]; exact HOP.out
    rw [← hw12]
    have hc12 := hS2 w12 kS12
    have hf12 := hSf w12 kS12
    have hl12 := kS12.lt hll99
    have hnew := HLR.out.seg (S' := st1.segs ++ [(k1, 0)]) (W' := w12) (sv' := .slice a' (sn9 + 1) c') k12 (by rw [List.length_append, List.length_singleton, ← HSN9.out, List.flatMap_append, List.flatMap_cons, List.flatMap_nil, List.append_nil]; exact ho12) HBL.out
    have HNEW := Lib.hid hnew
    clear hnew hw12 k12 kS12 ho12 k10
    go_wp2_with fail
    intro nr
    obtain ⟨w14, hw14⟩ : ∃ W, W = (w12.setCell ⟨l, 2, none⟩ (.slice a' (sn9 + 1) c')).drewN nr := ⟨_, rfl⟩
    have HL14 := Lib.hid (show LRun w9 w14 l d P (.slice a' (sn9 + 1) c') (.slice ea9 E9.length ec9) (st1.segs ++ [(k1, 0)]) E9 st1.synced st1.dead G2 from by rw [hw14]; exact HNEW.out.no ((Kp.refl No _).drewN nr))
    rw [← hw14]
    clear hw14 hc12 hf12 hl12 kS hS0 hS2 hSf hlfp HNEW HLR HKV HBL HOP
    obtain ⟨yb, hyb⟩ : ∃ yb, yb = ((k1, 0) : Nat × Nat).2 := ⟨_, rfl⟩
    have hybb : yb ≤ 1000000000 := by rw [hyb]; first | exact HZB.out | exact Nat.zero_le _
    obtain ⟨lg, loff, ln, lcap, hlsv, hln, hlnb, hlgl, hlfz, _, hlc⟩ := LogC.lastSeg HL14.out.c
    injection hlsv with hl1 hl2 hl3
    rw [hl1, hl2, hl3] at HL14
    obtain ⟨m3, hm3⟩ : ∃ m3, m3 = (st1.segs).length := ⟨_, rfl⟩
    rw [← hm3] at hln hlc
    rw [← hyb] at hlc
    have hlw : (ln : Int) - 1 = (m3 : Int) := by omega
    have hm3l : m3 < ln := by omega
    obtain ⟨v, hv⟩ : ∃ v, v = yb + fl := ⟨_, rfl⟩
    have hflb : fl ≤ 1000000 := by
     rw [HFLE.out]
     have := entL_len k1 HK1B.out p
     have := HPL2.out
     omega
    have hwv := Lib.hid (show (yb : Int) + (fl : Int) = (v : Int) from by rw [hv]; push_cast; rfl)
    have hk914 : Kp G2 w9 w14 := HL14.out.kp
    have hkb14 : ∀ i, b0 ≤ i → i ≤ b0 + 2 → i < w9.heap.size → ∀ q : Addr, q.block = i → w14.cell? q = w9.cell? q ∧ w14.frozen? q = w9.frozen? q := fun i h1 h2 h3 q hq => by
     rw [← hq] at h1 h2 h3
     exact ⟨hk914.cell h3 (HGN.out _ h1 h2), hk914.frozen h3 (HGN.out _ h1 h2)⟩
    have p14 : w14.cell? ⟨b0, 0, none⟩ = some (.pointer (some ⟨l, 0, none⟩)) := ((hkb14 b0 (Nat.le_refl _) (by omega) hb09 _ rfl).1).trans HC9.out.1
    have hb014 := hk914.lt hb09
    have hb214 : b0 + 2 < w14.heap.size := by have := hk914.size; omega
    have hC14 := HL14.out.c
    have hll14 := get_lt hC14.cell
    have g0 : ∀ W, Kp No w14 W → W.cell? ⟨b0, 0, none⟩ = some (.pointer (some ⟨l, 0, none⟩)) := fun W hW => (hW.cell (p := ⟨b0, 0, none⟩) hb014 (fun x => x)).trans p14
    have g2 : ∀ W, Kp No w14 W → W.cell? ⟨l, 2, none⟩ = some (.slice (some ⟨lg, loff, none⟩) ln lcap) := fun W hW => by
     rw [cell_at (hC14.keep_no hW).cell]
     rfl
    have HHV := Lib.hid hv
    have HM3 := Lib.hid hm3
    have HLN := Lib.hid hln
    have HKB := Lib.hid hkb14
    have HFZ := Lib.hid hlfz
    have HYB := Lib.hid hyb
    clear hv hm3 hln hkb14 hlfz hk914 hyb hl1 hl2 hl3 hC14
    go_upto_region 23 with fail
    refine wp_region_fin (Kp No w14) [0,0,0,0,0,0,0,0,1,0,0,0,0,0,1,0,0,0,2] [0,1,2,3,4,5,6,7,13,8,9,10,11,12,14,15,16,17] 18 [] (by kernel_rfl) (by kernel_rfl) (fun _ n h => h.drewN n) (Kp.refl _ _) ?_
    repeat (first
     | (apply wpOrd_skip rfl (by decide) rfl; (focus (go_simp; rfl)))
     | (apply wpOrd_pure rfl rfl rfl; (focus (intro _ _; go_simp; (try go_ints); rfl)); (focus (go_simp; rfl)))
     | (apply wpOrd_read rfl rfl rfl; (focus (intro _; go_simp; (try go_ints); rfl)); (focus (go_simp; rfl))))
    refine fin_now (fun n1 => ?_)
    refine wpSeq_step rfl ?_
    obtain ⟨w15, hw15⟩ : ∃ W, W = w14.drewN n1 := ⟨_, rfl⟩
    have hk15 : Kp No w14 w15 := by rw [hw15]; exact (Kp.refl No w14).drewN n1
    rw [← hw15]
    have hls15 := hlc w15 hk15
    have hlf15 : w15.frozen? ⟨lg, loff + m3 * 2 + 1, none⟩ = false := (hk15.frozen (p := ⟨lg, loff + m3 * 2 + 1, none⟩) hlgl (fun x => x)).trans (HFZ.out _)
    have hll15 := hk15.lt hlgl
    have HL15 := Lib.hid (HL14.out.no hk15)
    obtain ⟨w16, hw16⟩ : ∃ W, W = w15.setCell ⟨lg, loff + m3 * 2 + 1, none⟩ (.int .i64 (v : Int)) := ⟨_, rfl⟩
    have HL16 := Lib.hid (show LRun w9 w16 l d P (.slice (some ⟨lg, loff, none⟩) ln lcap) (.slice ea9 E9.length ec9) (st1.segs ++ [(((k1, 0) : Nat × Nat).1, v)]) E9 st1.synced st1.dead G2 from by
     have hO := HL15.out.c.segs
     have hlen : (st1.segs ++ [((k1, 0) : Nat × Nat)]).length = ln := by rw [List.length_append, List.length_singleton, ← HM3.out, HLN.out]
     rw [hlen] at hO
     have h1 := Mer.own_set hO (m3 * 2 + 1) (by omega) (.int .i64 (v : Int))
     have hlt : m3 < (st1.segs ++ [((k1, 0) : Nat × Nat)]).length := by rw [hlen]; exact hm3l
     have hget : (st1.segs ++ [((k1, 0) : Nat × Nat)])[m3]'hlt = (k1, 0) := by simp [HM3.out]
     rw [chunk_set (segC P) 2 (segC_len P) _ hlt (by omega) (x := (((k1, 0) : Nat × Nat).1, v)) (by rw [hget]; rfl)] at h1
     have hset : (st1.segs ++ [((k1, 0) : Nat × Nat)]).set m3 (((k1, 0) : Nat × Nat).1, v) = st1.segs ++ [(((k1, 0) : Nat × Nat).1, v)] := by simp [HM3.out]
     rw [hset] at h1
     rw [hw16]
     refine HL15.out.rowS ((Kp.refl (fun k => (Value.slice (some ⟨lg, loff, none⟩) ln lcap).ownBlock = some k) w15).setCell (p := ⟨lg, loff + m3 * 2 + 1, none⟩) (.inl rfl) _) ?_
     rw [show (st1.segs ++ [(((k1, 0) : Nat × Nat).1, v)]).length = ln by rw [← hlen]; simp]
     rw [Nat.add_assoc]
     exact h1)
    have HW16 := Lib.hid hw16
    clear hw15 hw16 hk15
    go_wp2_with fail
    refine upto_done ?_
    rw [hwv.out]
    rw [← HW16.out]
    clear hls15 hlf15 hll15 hlc g0 g2 p14 hb014
    have hk916 : Kp G2 w9 w16 := HL16.out.kp
    have hC16 := HL16.out.c
    have hll16 := get_lt hC16.cell
    have hwx16 : Kp (Both F G) w w16 := (((Kp.of_no HK2.out).trans_same HB.out.2.2.2.1).trans (T := G2) hk916 fun i hi hg => by
     rcases HB.out.2.2.1 i hg with h1 | h1
     ·exact .inr h1
     ·have := HAW.out.size; have := HAW.out.b0w; omega)
    have hE16 : ∀ k, (Value.slice ea9 en9 ec9).ownBlock = some k → k ≠ l ∧ ¬ k = b0 ∧ k < w16.heap.size := fun k hk => by
     rw [HEN9.out] at hk
     refine ⟨(hC16.ent_ne hk).1, fun e => ?_, hC16.ents.lt k hk⟩
     rcases HL16.out.foot k (.inr (.inr (.inl hk))) with h1 | h1
     ·exact HGN.out k (by omega) (by omega) h1
     ·omega
    have hb016 := hk916.lt hb09
    have p16 : w16.cell? ⟨b0, 0, none⟩ = some (.pointer (some ⟨l, 0, none⟩)) := (hk916.cell (p := ⟨b0, 0, none⟩) hb09 (HGN.out b0 (Nat.le_refl _) (by omega))).trans HC9.out.1
    have e0 : ∀ W, Kp (fun k => (Value.slice ea9 en9 ec9).ownBlock = some k) w16 W → W.cell? ⟨b0, 0, none⟩ = some (.pointer (some ⟨l, 0, none⟩)) := fun W hW => (hW.cell (p := ⟨b0, 0, none⟩) hb016 (fun h => (hE16 b0 h).2.1 rfl)).trans p16
    have e3 : ∀ W, Kp (fun k => (Value.slice ea9 en9 ec9).ownBlock = some k) w16 W → W.cell? ⟨l, 3, none⟩ = some (.slice ea9 en9 ec9) := fun W hW => by
     rw [hW.cell (p := ⟨l, 3, none⟩) hll16 (fun h => (hE16 l h).1 rfl), cell_at hC16.cell, HEN9.out]
     rfl
    have e3f : ∀ W, Kp (fun k => (Value.slice ea9 en9 ec9).ownBlock = some k) w16 W → W.frozen? ⟨l, 3, none⟩ = false := fun W hW => by
     rw [hW.frozen (p := ⟨l, 3, none⟩) hll16 (fun h => (hE16 l h).1 rfl)]
     exact free_at hC16.cell 3
    have HWX16 := Lib.hid hwx16
    have HE16 := Lib.hid hE16
    clear hwx16 hE16 hC16 hk916
    go_upto_region 24 with fail
    refine wp_region_last (Kp (fun k => (Value.slice ea9 en9 ec9).ownBlock = some k) w16) [0,0,0,0,0,0,2,2,2,0,0,2] [0,1,2,3,4,5,6,7,8,9,10] 11 (by kernel_rfl) (by kernel_rfl) (fun _ n h => h.drewN n) (Kp.refl _ _) ?_
    repeat (first
     | (apply wpOrd_skip rfl (by decide) rfl; (focus (go_simp; rfl)))
     | (apply wpOrd_pure rfl rfl rfl; (focus (intro _ _; go_simp; (try go_ints); rfl)); (focus (go_simp; rfl)))
     | (apply wpOrd_read rfl rfl rfl; (focus (intro _; go_simp; (try go_ints); rfl)); (focus (go_simp; rfl))))
    refine wpOrd_eff rfl rfl (fun n6 => ?_)
    have hcl := clone_any pa pc p w16.heap.size (w16.drewN n6) ((HP.out w16 HWX16.out).drewN n6) (by have := HPL2.out; omega)
    rw [← HPLE.out] at hcl
    go_wp2_with fail
    with_reducible refine hcl.mono ?_
    rintro e w17 ⟨cv, rfl, hoc, hk17, hfc⟩
    clear hcl
    obtain ⟨_, ca, cc, rfl, hpc, _⟩ := id hoc
    have HOC := Lib.hid hoc
    have HFC := Lib.hid hfc
    have HK17 := Lib.hid (show Kp No w16 w17 from hk17.of_drewN)
    have HPC := Lib.hid hpc
    clear hoc hfc hk17 hpc
    go_wp2_with fail
    refine ⟨Kp.of_no HK17.out, ?_⟩
    refine wpOrd_eff rfl rfl (fun n7 => ?_)
    go_wp2_with fail
    obtain ⟨w18, hw18⟩ : ∃ W, W = (w17.drewN n7).alloc (.cells #[.slice ca pl cc] 42) := ⟨_, rfl⟩
    have h18g : w18.heap[w17.heap.size]? = some (.cells #[.slice ca pl cc] 42 (0, 0)) := by rw [hw18]; exact heap_alloc_new (w17.drewN n7) _
    have k18 : Kp No w17 w18 := by rw [hw18]; exact ((Kp.refl _ _).drewN n7).alloc _
    rw [← hw18]
    clear hw18
    have k1618 : Kp No w16 w18 := HK17.out.trans_same k18
    refine ⟨Kp.of_no k1618, ?_⟩
    refine wpOrd_eff rfl rfl (fun n8 => ?_)
    have hlr : LRun w9 (w18.drewN n8) l d P (.slice (some ⟨lg, loff, none⟩) ln lcap) (.slice ea9 en9 ec9) (st1.segs ++ [(((k1, 0) : Nat × Nat).1, v)]) E9 st1.synced st1.dead G2 := by rw [HEN9.out]; exact HL16.out.no (k1618.drewN n8)
    have hoe : Own (w18.drewN n8) 42 1 (.slice ea9 en9 ec9) en9 (E9.flatMap rowC) := by have := hlr.c.ents; rw [← HEN9.out] at this; exact this
    obtain ⟨a', c', w19, hrn, ho', hkp', hbl'⟩ := own_two (T := 187) (E := 42) (sz := 1) (bytes := 24) Tryz.underlying187 infoRowB hoe (news := rowC ⟨ca, cc, p⟩) (rowC_one _) rfl (g := w17.heap.size) (cs := #[.slice ca pl cc]) h18g (by rw [HPLE.out]; rfl) (by have := HEN9B.out; omega) (by have := HEN9B.out; omega)
    have kS : Kp (fun k => (Value.slice ea9 en9 ec9).ownBlock = some k) w16 w19 := (Kp.of_no (k1618.drewN n8)).trans_same hkp'
    have HRN := Lib.hid hrn
    have HOP := Lib.hid ho'
    have HKV := Lib.hid hkp'
    have HBL := Lib.hid hbl'
    have HLR := Lib.hid hlr
    have HK18 := Lib.hid (k18.drewN n8)
    clear hrn ho' hkp' hbl' hlr hoe h18g k18 k1618
    refine wpList_append_run rfl rfl rfl rfl HRN.out (wpList_nil ⟨rfl, kS, ?_⟩)
    repeat (first
     | (apply wpOrd_skip rfl (by decide) rfl; (focus (go_simp; rfl)))
     | (apply wpOrd_pure rfl rfl rfl; (focus (intro _ _; go_simp; (try go_ints); rfl)); (focus (go_simp; rfl)))
     | (apply wpOrd_read rfl rfl rfl; (focus (intro _; go_simp; (try go_ints); rfl)); (focus (go_simp; rfl))))
    refine last_now (fun n9 => ?_)
    refine wpOrd_eff rfl rfl (fun n10 => ?_)
    obtain ⟨w20, hw20⟩ : ∃ W, W = (w19.drewN n9).drewN n10 := ⟨_, rfl⟩
    have k20 : Kp (fun k => (Value.slice ea9 en9 ec9).ownBlock = some k) (w18.drewN n8) w20 := by rw [hw20]; exact (HKV.out.drewN n9).drewN n10
    have kS20 : Kp (fun k => (Value.slice ea9 en9 ec9).ownBlock = some k) w16 w20 := by rw [hw20]; exact (kS.drewN n9).drewN n10
    have ho20 : Own w20 42 1 (.slice a' (en9 + 1) c') (en9 + 1) (E9.flatMap rowC ++ rowC ⟨ca, cc, p⟩) := by rw [hw20]; exact HOP.out
    rw [← hw20]
    have hc20 := e3 w20 kS20
    have hf20 := e3f w20 kS20
    have hl20 := kS20.lt hll16
    have hocp : EntOk (w18.drewN n8) ⟨ca, cc, p⟩ := by
     refine ⟨?_, ?_, ?_⟩
     ·have := HOC.out
      rw [HPLE.out] at this
      exact this.keep HK18.out fun _ _ x => x
     ·show p.length ≤ cc
      rw [← HPLE.out]
      exact HPC.out
     ·show p.length ≤ 1000000000
      have := HPL2.out
      omega
    have hnew := HLR.out.ent (r := ⟨ca, cc, p⟩) (W' := w20) (ev' := .slice a' (en9 + 1) c') hocp
     (fun g hg => .inr (by
      have h1 := HFC.out g (by rw [HPLE.out]; exact hg)
      have h2 : w16.heap.size ≤ g := h1
      have h3 := HL16.out.kp.size
      omega)) k20
     (by rw [List.length_append, List.length_singleton, ← HEN9.out, List.flatMap_append, List.flatMap_cons, List.flatMap_nil, List.append_nil]; exact ho20) HBL.out
    have HNEW := Lib.hid hnew
    clear hnew hw20 k20 kS20 ho20 hocp
    go_wp2_with fail
    intro nr
    obtain ⟨w22, hw22⟩ : ∃ W, W = (w20.setCell ⟨l, 3, none⟩ (.slice a' (en9 + 1) c')).drewN nr := ⟨_, rfl⟩
    have HL22 := Lib.hid (HNEW.out.no (show Kp No _ w22 from by rw [hw22]; exact (Kp.refl No _).drewN nr))
    rw [← hw22]
    clear hw22 hc20 hf20 hl20 kS e0 e3 e3f p16 hb016
    have hk22 : Kp G2 w9 w22 := HL22.out.kp
    have q1 : w22.cell? ⟨b0 + 1, 0, none⟩ = some (.int .i64 0) := (hk22.cell (p := ⟨b0 + 1, 0, none⟩) (by show b0 + 1 < _; omega) (HGN.out (b0 + 1) (by omega) (by omega))).trans HC9.out.2.1
    have q1f : w22.frozen? ⟨b0 + 1, 0, none⟩ = false := (hk22.frozen (p := ⟨b0 + 1, 0, none⟩) (by show b0 + 1 < _; omega) (HGN.out (b0 + 1) (by omega) (by omega))).trans HC9.out.2.2.1
    have q2 : w22.cell? ⟨b0 + 1 + 1, 0, none⟩ = some (.int .i64 0) := (hk22.cell (p := ⟨b0 + 1 + 1, 0, none⟩) (by show b0 + 1 + 1 < _; omega) (HGN.out (b0 + 1 + 1) (by omega) (by omega))).trans HC9.out.2.2.2.1
    have q2f : w22.frozen? ⟨b0 + 1 + 1, 0, none⟩ = false := (hk22.frozen (p := ⟨b0 + 1 + 1, 0, none⟩) (by show b0 + 1 + 1 < _; omega) (HGN.out (b0 + 1 + 1) (by omega) (by omega))).trans HC9.out.2.2.2.2.1
    have hb22 : b0 + 1 + 1 < w22.heap.size := by have := hk22.size; omega
    have HK22 := Lib.hid hk22
    clear hk22
    go_wp2_with fail
    have r1 : ((w22.setCell ⟨b0 + 1, 0, none⟩ (.int .i64 (k1 : Int))).setCell ⟨b0 + 1 + 1, 0, none⟩ (.int .i64 0)).cell? ⟨b0 + 1, 0, none⟩ = some (.int .i64 (k1 : Int)) := by
     have hk := (Kp.refl (One (b0 + 1 + 1)) (w22.setCell ⟨b0 + 1, 0, none⟩ (.int .i64 (k1 : Int)))).setCell (p := ⟨b0 + 1 + 1, 0, none⟩) (.inl rfl) (.int .i64 0)
     rw [hk.cell (p := ⟨b0 + 1, 0, none⟩) (by simp [World.setCell]; omega) (by show ¬ b0 + 1 = b0 + 1 + 1; omega)]
     simp [go_sem, q1]
    have r2 : ((w22.setCell ⟨b0 + 1, 0, none⟩ (.int .i64 (k1 : Int))).setCell ⟨b0 + 1 + 1, 0, none⟩ (.int .i64 0)).cell? ⟨b0 + 1 + 1, 0, none⟩ = some (.int .i64 0) := by
     have hk := (Kp.refl (One (b0 + 1)) w22).setCell (p := ⟨b0 + 1, 0, none⟩) (.inl rfl) (.int .i64 (k1 : Int))
     have h2 := (hk.cell (p := ⟨b0 + 1 + 1, 0, none⟩) hb22 (by show ¬ b0 + 1 + 1 = b0 + 1; omega)).trans q2
     simp [go_sem, h2]
    have k24 : Kp (fun i => i = b0 + 1 ∨ i = b0 + 1 + 1) w22 ((w22.setCell ⟨b0 + 1, 0, none⟩ (.int .i64 (k1 : Int))).setCell ⟨b0 + 1 + 1, 0, none⟩ (.int .i64 0)) :=
     ((Kp.refl (fun i => i = b0 + 1 ∨ i = b0 + 1 + 1) w22).setCell (p := ⟨b0 + 1, 0, none⟩) (.inl (.inl rfl)) _).setCell (p := ⟨b0 + 1 + 1, 0, none⟩) (.inl (.inr rfl)) _
    obtain ⟨w24, hw24⟩ : ∃ W, W = (w22.setCell ⟨b0 + 1, 0, none⟩ (.int .i64 (k1 : Int))).setCell ⟨b0 + 1 + 1, 0, none⟩ (.int .i64 0) := ⟨_, rfl⟩
    rw [← hw24] at r1 r2 k24 ⊢
    clear hw24
    have hap := app_go (p := p) HD.out HPL2.out HPR.out
    rw [HEK.out, ← HTO.out, ← HQ.out, if_pos (by rw [← HQE.out]; exact hz)] at hap
    have hadd : addS st1 p = { st1 with ents := st1.ents ++ [p], segs := st1.segs ++ [(((k1, 0) : Nat × Nat).1, ((k1, 0) : Nat × Nat).2 + fl)] } := by rw [add_fresh (show freshS st1 = true by unfold freshS; rw [HST.out.2]; exact HFR.out), HST.out.1, HEK.out, ← HFLE.out]
    obtain ⟨G3, hL3, hG3, hK3⟩ := HL22.out.stop
    have hW22 := HB.out.1.turnL hL3 hG3 hK3
    have h0 := HAW.out.b0w
    have hsz := HAW.out.size
    have hF2n : ∀ g, F2 g → ¬ (g = b0 + 1 ∨ g = b0 + 1 + 1) := fun g hg hb => by
     rcases HB.out.2.1 g hg with h1 | h1
     ·have := HFL.out g h1; omega
     ·omega
    have hG3n : ∀ g, G3 g → ¬ (g = b0 + 1 ∨ g = b0 + 1 + 1) := fun g hg hb => by
     rcases hG3 g hg with h1 | h1
     ·exact HGN.out g (by omega) (by omega) h1
     ·omega
    have hW24 : WAt w24 d l P q.2 _ F2 G3 := ⟨hW22.disk.keep k24 hF2n, hW22.log.keep k24 hG3n, hW22.sep⟩
    have hst : (⟨(E9 ++ [(⟨ca, cc, p⟩ : Row)]).map Row.data, st1.segs ++ [(((k1, 0) : Nat × Nat).1, v)], st1.synced, st1.dead⟩ : LSt) = addS st1 p := by
     rw [hadd, List.map_append, ← HB.out.2.2.2.2, HHV.out, HYB.out]
     rfl
    rw [hst] at hW24
    have hfin : SaidW w d l P F G q.2 (addS st1 p) w24 := by
     refine ⟨F2, G3, hW24, fun g hg => (HB.out.2.1 g hg).imp id fun h => Nat.le_trans HK2.out.size h, fun g hg => ?_, ?_⟩
     ·rcases hG3 g hg with h1 | h1
      ·exact (HB.out.2.2.1 g h1).imp id fun h => Nat.le_trans HK2.out.size h
      ·right; omega
     ·refine ((((Kp.of_no HK2.out).trans_same HB.out.2.2.2.1).trans (T := G2) HK22.out fun i hi hg => ?_).trans k24 fun i hi hb => by omega)
      rcases HB.out.2.2.1 i hg with h1 | h1
      ·exact .inr h1
      ·omega
    refine app_done r1 r2 _ rfl rfl _ ?_
    rw [hap]
    exact ⟨rfl, hfin⟩
   ·rw [List.concat_eq_append] at hsg
    have hC2' := HC2.out
    rw [hsg] at hC2'
    obtain ⟨sg, soff, sn, sc, rfl, hsn, hsnb, hsgl, _, hsc0, hsc1⟩ := LogC.lastSeg hC2'
    obtain ⟨m2, hm2⟩ : ∃ m2, m2 = S1.length := ⟨_, rfl⟩
    rw [← hm2] at hsn hsc0 hsc1
    have hms : m2 < sn := by omega
    have hw3 : (sn : Int) - 1 = (m2 : Int) := by omega
    obtain ⟨zb, hzbe⟩ : ∃ zb, zb = z.2 := ⟨_, rfl⟩
    have hsc0w := hsc0 W2 (Kp.refl _ _)
    have hsc1w := hsc1 W2 (Kp.refl _ _)
    rw [← hzbe] at hsc1w
    obtain ⟨zn, hzn⟩ : ∃ zn, zn = bnm P z.1 := ⟨_, rfl⟩
    rw [← hzn] at hsc0w
    have hzle : z.2 ≤ 1000000000 := HFEW.out.2.2 z (by rw [hsg]; simp)
    have HZB := Lib.hid hzle
    have HSG := Lib.hid hsg
    have HZN := Lib.hid hzn
    have HZBE := Lib.hid hzbe
    have HC2S := Lib.hid hC2'
    have HSC0 := Lib.hid hsc0
    clear hC2' hsn hm2 hzle hsg hzn hzbe hsc0 hsc1
    by_cases hfr : 1024 ≤ zb
    ·have e4 : decide ((1024 : Int) ≤ (zb : Int)) = true := by rw [decide_eq_true_iff]; omega
     have HFR := Lib.hid (show freshS st = true by rw [fresh_last HSG.out, ← HZBE.out]; exact decide_eq_true hfr)
     have HPRE := Lib.hid (pre_fresh (P := P) (s := s) HFR.out (by rw [HSG.out]; simp))
     clear hfr
     go_enter_defers Tryz.func112, Tryz.ntmps112
     go_upto_region 8 with fail
     rw [← HW2.out, ← HB0.out]
     clear c5w
     go_upto_region 11 with fail
     go_wp2_with fail
     have hc := HNM.out
     with_reducible refine hc.mono ?_
     rintro e w3 ⟨rfl, hk3⟩
     clear hc HNM
     have p03 := (hk3.cell (p := ⟨b0, 0, none⟩) (by show b0 < _; have := HAW.out.size; omega) (fun x => x)).trans hp0
     have d23 := (hk3.cell (p := ⟨l, 2, none⟩) hll2 (fun x => x)).trans d2w
     have hsy := syncs_any w3 d l P s st F G (H.out.no (HK2.out.trans_same hk3)) HNE.out
     obtain ⟨qs, hqs⟩ : ∃ qs, qs = syncsS P s st := ⟨_, rfl⟩
     obtain ⟨kn, hkn⟩ := syncs_nat P s st
     have hsame := syncs_same P s st
     rw [← hqs] at hsy hkn hsame
     have HPRE2 := Lib.hid (show preS P s st = qs by rw [hqs]; exact HPRE.out)
     have HSAME := Lib.hid hsame
     have HKN := Lib.hid hkn
     have HK3 := Lib.hid hk3
     clear hqs HPRE hkn hsame hk3
     go_upto_region 13 with fail
     go_wp2_with fail
     with_reducible refine hsy.mono ?_
     rintro e w4 ⟨hs4, hgp⟩
     clear hsy
     have hs42 : SaidW W2 d l P F G qs.2.1 qs.2.2 w4 := hs4.from HK3.out
     have HS1 := Lib.hid hs42
     clear hs4 hs42
     rw [HKN.out] at hgp
     rcases hgp with ⟨hz, rfl⟩ | ⟨hz, rfl⟩
     ·obtain ⟨s1, hs1⟩ : ∃ s1, s1 = qs.2.1 := ⟨_, rfl⟩
      obtain ⟨st1, hst1⟩ : ∃ st1, st1 = qs.2.2 := ⟨_, rfl⟩
      rw [← hs1, ← hst1] at HS1
      have HPR := Lib.hid (show preS P s st = (0, s1, st1) from by rw [HPRE2.out, hs1, hst1, ← hz, ← HKN.out])
      have HST := Lib.hid (show st1.ents = st.ents ∧ st1.segs = st.segs from by rw [hst1]; exact ⟨HSAME.out.1, HSAME.out.2.1⟩)
      obtain ⟨tn, htn⟩ : ∃ tn, tn = bnm P k1 := ⟨_, rfl⟩
      have HTO := Lib.hid (show tn = toN P st by unfold toN; rw [if_pos HFR.out, HEK.out]; exact htn)
      rw [← htn]
      clear htn hs1 hst1 hz HPRE2 HSAME HKN d0w d1w d2w d3w hp0 hw1 p03 d23 hsc0w hsc1w
      go_upto_region 16 with fail
      have hkx := HS1.out.kp
      have hxc := HAW.out.cells hkx
      have hwx : Kp (Both F G) w w4 := (Kp.of_no HK2.out).trans_same hkx
      have hpx := HP.out w4 hwx
      have HPX := Lib.hid hpx
      have HKX := Lib.hid hkx
      have HWX := Lib.hid hwx
      obtain ⟨bw, hbw⟩ : ∃ bw, bw = w4.heap.size := ⟨_, rfl⟩
      obtain ⟨W4, hW4⟩ : ∃ W, W = (w4.alloc (.cells #[.slice none 0 0] 121)).alloc (.cells #[.int .i64 (k1 : Int)] 3) := ⟨_, rfl⟩
      have k4 : Kp No w4 W4 := by rw [hW4]; exact ((Kp.refl _ _).alloc _).alloc _
      have hb4 : W4.heap[bw]? = some (.cells #[.slice none 0 0] 121 (0, 0)) := by
       rw [hW4, hbw]
       exact alloc_far (heap_alloc_new w4 _) _
      have hg4 : W4.cell? ⟨bw + 1, 0, none⟩ = some (.int .i64 (k1 : Int)) := by rw [hW4, hbw]; simp [go_sem]
      have hk1b : k1 ≤ 1000000000000 := by rw [← HEK.out]; have := HFEW.out.1; omega
      have hnums := Nums_1 W4 bw (bw + 1) 1 k1 hk1b hb4 hg4
      have HNU := Lib.hid hnums
      have HK4 := Lib.hid k4
      have HW4 := Lib.hid hW4
      have HBW := Lib.hid hbw
      have HK1B := Lib.hid hk1b
      clear hkx hwx hpx k4 hb4 hg4 hnums hW4 hbw hk1b hxc
      go_upto_region 17 with fail
      go_wp2_with fail
      rw [← HBW.out, ← HW4.out]
      have hc := HNU.out
      with_reducible refine hc.mono ?_
      rintro e w5 ⟨rfl, na, nc, hb5, ho5, hf5, hk5⟩
      clear hc HNU
      have hk45 : Kp No w4 w5 := HK4.out.trans hk5 fun i hi (e : i = bw) => by have := HBW.out; omega
      have hou := Out_any w5 bw na nc (numL k1) hb5 ho5.rd' (by have := (entL_len k1 HK1B.out p).2; omega)
      have HOU := Lib.hid hou
      have HK45 := Lib.hid hk45
      clear hb5 ho5 hf5 hk5 hk45 hou
      go_upto_region 18 with fail
      go_wp2_with fail
      have hc := HOU.out
      with_reducible refine hc.mono ?_
      rintro e w6 ⟨oa, oc, rfl, ho6, hf6, hk6⟩
      clear hc HOU
      have hp6 := HPX.out.kp (HK45.out.trans_same hk6)
      have htwo := two_made w6 42 oa pa oc pc (numL k1) p ho6.rd' hp6 (by have := (entL_len k1 HK1B.out p).2; omega) (by have := HPL2.out; omega)
      obtain ⟨W7, hW7⟩ : ∃ W, W = w6.alloc (.cells #[.slice oa (numL k1).length oc, .slice pa p.length pc] 42) := ⟨_, rfl⟩
      have hen : Calls Tryz.prog 186 #[.slice (some ⟨w6.heap.size, 0, none⟩) 2 2] W7 (FrP W7 (numL k1 ++ p)) := by
       have h := Encode_any W7 (some ⟨w6.heap.size, 0, none⟩) 2 [⟨oa, oc, numL k1⟩, ⟨pa, pc, p⟩] (by rw [hW7]; exact htwo.1) (Nat.le_refl _) (by show 2 ≤ _; omega) (by
        rw [catR_two, List.length_append]
        have := (entL_len k1 HK1B.out p).2
        have := HPL2.out
        omega)
       rw [catR_two] at h
       exact h
      have k67 : Kp No w6 W7 := by rw [hW7]; exact htwo.2
      obtain ⟨nl, hnl⟩ : ∃ nl, nl = (numL k1).length := ⟨_, rfl⟩
      rw [← hnl, ← HPLE.out] at hW7
      rw [← hnl]
      have HEN := Lib.hid hen
      have HK7 := Lib.hid ((HK45.out.trans_same hk6).trans_same k67)
      have HW7 := Lib.hid hW7
      clear hp6 htwo hen k67 hnl hW7 ho6 hf6 hk6
      go_wp2_with fail
      rw [← HW7.out]
      have hc := HEN.out
      with_reducible refine hc.mono ?_
      rintro e w8 ⟨fa, fc, rfl, hr8, hk8⟩
      clear hc HEN
      have hk8x : Kp No w4 w8 := HK7.out.trans_same hk8
      obtain ⟨F1, G1, hW1, hF1, hG1, hK1⟩ := HS1.out
      have hc8 := HAW.out.cells (HKX.out.trans_no hk8x)
      have hp08 := hc8.1
      have hL8 := hW1.log.keep_no hk8x
      obtain ⟨svx, evx, Ex, hCx, hEx, _, _⟩ := hL8
      have hl08 := hCx.cells.1 w8 (Kp.refl _ _)
      have hll8 := get_lt hCx.cell
      have hb08 : b0 < w8.heap.size := by have := hc8.2.2.2.2.2; omega
      have hgo := gate_ok w8
      have hwr := Write_any w8 d s1 F1 (hW1.disk.keep_no hk8x) tn fa fc (entL k1 p) hr8 (by
       have := (entL_len k1 HK1B.out p)
       have := HPL2.out
       omega)
      obtain ⟨q, hq⟩ : ∃ q, q = wrS s1 tn (entL k1 p) := ⟨_, rfl⟩
      have hqc := wr_code s1 tn (entL k1 p)
      rw [← hq] at hwr hqc
      obtain ⟨fl, hfl⟩ : ∃ fl, fl = (entL k1 p).length := ⟨_, rfl⟩
      rw [show (frameL (numL k1 ++ p)).length = fl from hfl.symm]
      rw [← hfl] at hwr
      have HWR := Lib.hid hwr
      have HQ := Lib.hid hq
      have HFLE := Lib.hid hfl
      have HK8X := Lib.hid hk8x
      have HW1 := Lib.hid (And.intro hW1 (And.intro hF1 (And.intro hG1 hK1)))
      clear hr8 hk8 hk8x hW1 hF1 hG1 hK1 hc8 hCx hEx hwr hq hfl
      go_wp2_with fail
      with_reducible refine hgo.mono ?_
      rintro e w9 ⟨rfl, rfl⟩
      clear hgo
      go_wp2_with fail
      have hc := HWR.out
      with_reducible refine hc.mono ?_
      rintro e w9 ⟨rfl, F9, hD9, hF9, hK9⟩
      clear hc HWR
      obtain ⟨qc, hqe⟩ : ∃ qc, qc = q.1 := ⟨_, rfl⟩
      rw [← hqe] at hqc ⊢
      have hga := gate_any qc hqc.1 hqc.2 w9
      have hS9 : SaidW W2 d l P F G q.2 st1 w9 := SaidW.trans ⟨F1, G1, HW1.out.1, HW1.out.2.1, HW1.out.2.2.1, HW1.out.2.2.2, F9, G1, (HW1.out.1.no HK8X.out).turnD hD9 hF9 hK9, fun k hk => (hF9 k hk).imp id fun h => Nat.le_trans HK8X.out.size h, Foot.refl _ _, ((Kp.of_no HK8X.out).trans_same hK9).mono fun _ _ x => .inl x⟩
      have HS9 := Lib.hid hS9
      have HQE := Lib.hid hqe
      clear hD9 hF9 hK9 hS9 hqe hp08 hl08 hll8 hb08
      go_wp2_with fail
      with_reducible refine hga.mono ?_
      rintro e w' ⟨hgp, rfl⟩
      clear hga
      rcases hgp with ⟨hz, rfl⟩ | ⟨hz, rfl⟩
      rotate_left
      ·obtain ⟨kn, hkn⟩ := Int.eq_ofNat_of_zero_le hqc.1
       have hap := app_go (p := p) HD.out HPL2.out HPR.out
       rw [HEK.out, ← HTO.out, ← HQ.out, if_neg (by rw [← HQE.out]; exact hz), ← HQE.out, hkn] at hap
       rw [hkn]
       refine app_leaves HAW.out HS9.out kn _ rfl rfl _ fun w'' hw'' => ?_
       rw [hap]
       exact ⟨rfl, hw''⟩
      obtain ⟨F2, G2, hW9', hF2, hG2, hK9'⟩ := HS9.out
      obtain ⟨sv9, ev9, E9, hrun9, hE9, _⟩ := LRun.start hW9'.log
      have hc9 := HAW.out.cells hK9'
      have h90 := hc9.1
      have hs9 := hc9.2.2.2.2.2
      have h0 := HAW.out.b0w
      have hsz := HAW.out.size
      have hll9 := HAW.out.ll
      have hgb : ∀ k, G2 k → k < b0 ∨ b0 + 2 < k := fun k hk => by
       rcases hG2 k hk with h1 | h1
       ·have := HGL.out k h1; omega
       ·omega
      have hGn : ∀ i, b0 ≤ i → i ≤ b0 + 2 → ¬ G2 i := fun i h1 h2 h3 => by have := hgb i h3; omega
      have HB := Lib.hid (And.intro hW9' (And.intro hF2 (And.intro hG2 (And.intro hK9' hE9))))
      have HGN := Lib.hid hGn
      have HRUN9 := Lib.hid hrun9
      have HC9 := Lib.hid hc9
      clear hW9' hF2 hG2 hK9' hE9 hgb hGn hrun9 hc9 h0 hsz
      obtain ⟨sa9, sc9, rfl, _, _⟩ := HRUN9.out.c.segs.rd
      obtain ⟨ea9, ec9, rfl, _, _⟩ := HRUN9.out.c.ents.rd
      obtain ⟨en9, hen9⟩ : ∃ en9, en9 = E9.length := ⟨_, rfl⟩
      have HEN9 := Lib.hid hen9
      have hb09 : b0 < w9.heap.size := by omega
      have hen9b : en9 ≤ 1000000 := by
       have h1 := HB.out.2.2.2.2
       have h2 := congrArg List.length h1
       rw [List.length_map, HST.out.1] at h2
       have h3 := HFEW.out.1
       omega
      have HEN9B := Lib.hid hen9b
      clear hen9 hen9b
      obtain ⟨sn9, hsn9⟩ : ∃ sn9, sn9 = st1.segs.length := ⟨_, rfl⟩
      have hsn9b : sn9 ≤ 1000000 := by rw [hsn9, HST.out.2]; exact HFEW.out.2.1
      have hll99 := get_lt HRUN9.out.c.cell
      have hlfp : ∀ k, (Value.slice sa9 sn9 sc9).ownBlock = some k → k ≠ l ∧ ¬ k = b0 ∧ k < w9.heap.size := fun k hk => by
       rw [hsn9] at hk
       refine ⟨(HRUN9.out.c.seg_ne hk).1, fun e => ?_, HRUN9.out.c.segs.lt k hk⟩
       rcases HRUN9.out.foot k (.inr (.inl hk)) with h1 | h1
       ·exact HGN.out k (by omega) (by omega) h1
       ·have := HRUN9.out.c.segs.lt k hk
        omega
      have hS0 : ∀ W, Kp (fun k => (Value.slice sa9 sn9 sc9).ownBlock = some k) w9 W → W.cell? ⟨b0, 0, none⟩ = some (.pointer (some ⟨l, 0, none⟩)) := fun W hW => (hW.cell (p := ⟨b0, 0, none⟩) hb09 (fun h => (hlfp b0 h).2.1 rfl)).trans h90
      have hS2 : ∀ W, Kp (fun k => (Value.slice sa9 sn9 sc9).ownBlock = some k) w9 W → W.cell? ⟨l, 2, none⟩ = some (.slice sa9 sn9 sc9) := fun W hW => by
       rw [hW.cell (p := ⟨l, 2, none⟩) hll99 (fun h => (hlfp l h).1 rfl), cell_at HRUN9.out.c.cell, hsn9]
       rfl
      have hSf : ∀ W, Kp (fun k => (Value.slice sa9 sn9 sc9).ownBlock = some k) w9 W → W.frozen? ⟨l, 2, none⟩ = false := fun W hW => by
       rw [hW.frozen (p := ⟨l, 2, none⟩) hll99 (fun h => (hlfp l h).1 rfl)]
       exact free_at HRUN9.out.c.cell 2
      have HSN9 := Lib.hid hsn9
      clear hsn9
      go_upto_region 22 with fail
      refine wp_region_last (Kp (fun k => (Value.slice sa9 sn9 sc9).ownBlock = some k) w9) [0,0,0,0,0,0,0,2,2,0,0,2] [0,1,2,3,4,5,6,7,8,9,10] 11 (by kernel_rfl) (by kernel_rfl) (fun _ n h => h.drewN n) (Kp.refl _ _) ?_
      repeat (first
       | (apply wpOrd_skip rfl (by decide) rfl; (focus (go_simp; rfl)))
       | (apply wpOrd_pure rfl rfl rfl; (focus (intro _ _; go_simp; (try go_ints); rfl)); (focus (go_simp; rfl)))
       | (apply wpOrd_read rfl rfl rfl; (focus (intro _; go_simp; (try go_ints); rfl)); (focus (go_simp; rfl))))
      refine wpOrd_eff rfl rfl (fun n7 => ?_)
      go_wp2_with fail
      obtain ⟨w10, hw10⟩ : ∃ W, W = (w9.drewN n7).alloc (.cells #[.string tn, .int .i64 0] 243) := ⟨_, rfl⟩
      have h10g : w10.heap[w9.heap.size]? = some (.cells #[.string tn, .int .i64 0] 243 (0, 0)) := by rw [hw10]; exact heap_alloc_new (w9.drewN n7) _
      have k10 : Kp No w9 w10 := by rw [hw10]; exact ((Kp.refl _ _).drewN n7).alloc _
      rw [← hw10]
      clear hw10
      refine ⟨Kp.of_no k10, ?_⟩
      refine wpOrd_eff rfl rfl (fun n8 => ?_)
      have hlr : LRun w9 (w10.drewN n8) l d P (.slice sa9 sn9 sc9) (.slice ea9 E9.length ec9) st1.segs E9 st1.synced st1.dead G2 := by rw [HSN9.out]; exact HRUN9.out.no (k10.drewN n8)
      have hos : Own (w10.drewN n8) 243 2 (.slice sa9 sn9 sc9) sn9 (st1.segs.flatMap (segC P)) := by have := hlr.c.segs; rw [← HSN9.out] at this; exact this
      have htnk : tn = bnm P k1 := by
       have h1 := HTO.out
       unfold toN at h1
       rw [if_pos HFR.out, HEK.out] at h1
       exact h1
      obtain ⟨a', c', w11, hrn, ho', hkp', hbl'⟩ := own_two (T := 239) (E := 243) (sz := 2) (bytes := 24) Tryz.underlying239 infoSeg hos (news := segC P (k1, 0)) (segC_one P (k1, 0)) rfl (g := w9.heap.size) (cs := #[.string tn, .int .i64 0]) h10g (by rw [htnk]; rfl) (by omega) (by omega)
      have kS : Kp (fun k => (Value.slice sa9 sn9 sc9).ownBlock = some k) w9 w11 := (Kp.of_no (k10.drewN n8)).trans_same hkp'
      have HRN := Lib.hid hrn
      have HOP := Lib.hid ho'
      have HKV := Lib.hid hkp'
      have HBL := Lib.hid hbl'
      have HLR := Lib.hid hlr
      clear hrn ho' hkp' hbl' hlr hos htnk h10g
      refine wpList_append_run rfl rfl rfl rfl HRN.out (wpList_nil ⟨rfl, kS, ?_⟩)
      repeat (first
       | (apply wpOrd_skip rfl (by decide) rfl; (focus (go_simp; rfl)))
       | (apply wpOrd_pure rfl rfl rfl; (focus (intro _ _; go_simp; (try go_ints); rfl)); (focus (go_simp; rfl)))
       | (apply wpOrd_read rfl rfl rfl; (focus (intro _; go_simp; (try go_ints); rfl)); (focus (go_simp; rfl))))
      refine last_now (fun n11 => ?_)
      refine wpOrd_eff rfl rfl (fun n12 => ?_)
      obtain ⟨w12, hw12⟩ : ∃ W, W = (w11.drewN n11).drewN n12 := ⟨_, rfl⟩
      have k12 : Kp (fun k => (Value.slice sa9 sn9 sc9).ownBlock = some k) (w10.drewN n8) w12 := by rw [hw12]; exact (HKV.out.drewN n11).drewN n12
      have kS12 : Kp (fun k => (Value.slice sa9 sn9 sc9).ownBlock = some k) w9 w12 := by rw [hw12]; exact (kS.drewN n11).drewN n12
      have ho12 : Own w12 243 2 (.slice a' (sn9 + 1) c') (sn9 + 1) (st1.segs.flatMap (segC P) ++ segC P (k1, 0)) := by rw [hw12]; exact HOP.out
      rw [← hw12]
      have hc12 := hS2 w12 kS12
      have hf12 := hSf w12 kS12
      have hl12 := kS12.lt hll99
      have hnew := HLR.out.seg (S' := st1.segs ++ [(k1, 0)]) (W' := w12) (sv' := .slice a' (sn9 + 1) c') k12 (by rw [List.length_append, List.length_singleton, ← HSN9.out, List.flatMap_append, List.flatMap_cons, List.flatMap_nil, List.append_nil]; exact ho12) HBL.out
      have HNEW := Lib.hid hnew
      clear hnew hw12 k12 kS12 ho12 k10
      go_wp2_with fail
      intro nr
      obtain ⟨w14, hw14⟩ : ∃ W, W = (w12.setCell ⟨l, 2, none⟩ (.slice a' (sn9 + 1) c')).drewN nr := ⟨_, rfl⟩
      have HL14 := Lib.hid (show LRun w9 w14 l d P (.slice a' (sn9 + 1) c') (.slice ea9 E9.length ec9) (st1.segs ++ [(k1, 0)]) E9 st1.synced st1.dead G2 from by rw [hw14]; exact HNEW.out.no ((Kp.refl No _).drewN nr))
      rw [← hw14]
      clear hw14 hc12 hf12 hl12 kS hS0 hS2 hSf hlfp HNEW HLR HKV HBL HOP
      obtain ⟨yb, hyb⟩ : ∃ yb, yb = ((k1, 0) : Nat × Nat).2 := ⟨_, rfl⟩
      have hybb : yb ≤ 1000000000 := by rw [hyb]; first | exact HZB.out | exact Nat.zero_le _
      obtain ⟨lg, loff, ln, lcap, hlsv, hln, hlnb, hlgl, hlfz, _, hlc⟩ := LogC.lastSeg HL14.out.c
      injection hlsv with hl1 hl2 hl3
      rw [hl1, hl2, hl3] at HL14
      obtain ⟨m3, hm3⟩ : ∃ m3, m3 = (st1.segs).length := ⟨_, rfl⟩
      rw [← hm3] at hln hlc
      rw [← hyb] at hlc
      have hlw : (ln : Int) - 1 = (m3 : Int) := by omega
      have hm3l : m3 < ln := by omega
      obtain ⟨v, hv⟩ : ∃ v, v = yb + fl := ⟨_, rfl⟩
      have hflb : fl ≤ 1000000 := by
       rw [HFLE.out]
       have := entL_len k1 HK1B.out p
       have := HPL2.out
       omega
      have hwv := Lib.hid (show (yb : Int) + (fl : Int) = (v : Int) from by rw [hv]; push_cast; rfl)
      have hk914 : Kp G2 w9 w14 := HL14.out.kp
      have hkb14 : ∀ i, b0 ≤ i → i ≤ b0 + 2 → i < w9.heap.size → ∀ q : Addr, q.block = i → w14.cell? q = w9.cell? q ∧ w14.frozen? q = w9.frozen? q := fun i h1 h2 h3 q hq => by
       rw [← hq] at h1 h2 h3
       exact ⟨hk914.cell h3 (HGN.out _ h1 h2), hk914.frozen h3 (HGN.out _ h1 h2)⟩
      have p14 : w14.cell? ⟨b0, 0, none⟩ = some (.pointer (some ⟨l, 0, none⟩)) := ((hkb14 b0 (Nat.le_refl _) (by omega) hb09 _ rfl).1).trans HC9.out.1
      have hb014 := hk914.lt hb09
      have hb214 : b0 + 2 < w14.heap.size := by have := hk914.size; omega
      have hC14 := HL14.out.c
      have hll14 := get_lt hC14.cell
      have g0 : ∀ W, Kp No w14 W → W.cell? ⟨b0, 0, none⟩ = some (.pointer (some ⟨l, 0, none⟩)) := fun W hW => (hW.cell (p := ⟨b0, 0, none⟩) hb014 (fun x => x)).trans p14
      have g2 : ∀ W, Kp No w14 W → W.cell? ⟨l, 2, none⟩ = some (.slice (some ⟨lg, loff, none⟩) ln lcap) := fun W hW => by
       rw [cell_at (hC14.keep_no hW).cell]
       rfl
      have HHV := Lib.hid hv
      have HM3 := Lib.hid hm3
      have HLN := Lib.hid hln
      have HKB := Lib.hid hkb14
      have HFZ := Lib.hid hlfz
      have HYB := Lib.hid hyb
      clear hv hm3 hln hkb14 hlfz hk914 hyb hl1 hl2 hl3 hC14
      go_upto_region 23 with fail
      refine wp_region_fin (Kp No w14) [0,0,0,0,0,0,0,0,1,0,0,0,0,0,1,0,0,0,2] [0,1,2,3,4,5,6,7,13,8,9,10,11,12,14,15,16,17] 18 [] (by kernel_rfl) (by kernel_rfl) (fun _ n h => h.drewN n) (Kp.refl _ _) ?_
      repeat (first
       | (apply wpOrd_skip rfl (by decide) rfl; (focus (go_simp; rfl)))
       | (apply wpOrd_pure rfl rfl rfl; (focus (intro _ _; go_simp; (try go_ints); rfl)); (focus (go_simp; rfl)))
       | (apply wpOrd_read rfl rfl rfl; (focus (intro _; go_simp; (try go_ints); rfl)); (focus (go_simp; rfl))))
      refine fin_now (fun n1 => ?_)
      refine wpSeq_step rfl ?_
      obtain ⟨w15, hw15⟩ : ∃ W, W = w14.drewN n1 := ⟨_, rfl⟩
      have hk15 : Kp No w14 w15 := by rw [hw15]; exact (Kp.refl No w14).drewN n1
      rw [← hw15]
      have hls15 := hlc w15 hk15
      have hlf15 : w15.frozen? ⟨lg, loff + m3 * 2 + 1, none⟩ = false := (hk15.frozen (p := ⟨lg, loff + m3 * 2 + 1, none⟩) hlgl (fun x => x)).trans (HFZ.out _)
      have hll15 := hk15.lt hlgl
      have HL15 := Lib.hid (HL14.out.no hk15)
      obtain ⟨w16, hw16⟩ : ∃ W, W = w15.setCell ⟨lg, loff + m3 * 2 + 1, none⟩ (.int .i64 (v : Int)) := ⟨_, rfl⟩
      have HL16 := Lib.hid (show LRun w9 w16 l d P (.slice (some ⟨lg, loff, none⟩) ln lcap) (.slice ea9 E9.length ec9) (st1.segs ++ [(((k1, 0) : Nat × Nat).1, v)]) E9 st1.synced st1.dead G2 from by
       have hO := HL15.out.c.segs
       have hlen : (st1.segs ++ [((k1, 0) : Nat × Nat)]).length = ln := by rw [List.length_append, List.length_singleton, ← HM3.out, HLN.out]
       rw [hlen] at hO
       have h1 := Mer.own_set hO (m3 * 2 + 1) (by omega) (.int .i64 (v : Int))
       have hlt : m3 < (st1.segs ++ [((k1, 0) : Nat × Nat)]).length := by rw [hlen]; exact hm3l
       have hget : (st1.segs ++ [((k1, 0) : Nat × Nat)])[m3]'hlt = (k1, 0) := by simp [HM3.out]
       rw [chunk_set (segC P) 2 (segC_len P) _ hlt (by omega) (x := (((k1, 0) : Nat × Nat).1, v)) (by rw [hget]; rfl)] at h1
       have hset : (st1.segs ++ [((k1, 0) : Nat × Nat)]).set m3 (((k1, 0) : Nat × Nat).1, v) = st1.segs ++ [(((k1, 0) : Nat × Nat).1, v)] := by simp [HM3.out]
       rw [hset] at h1
       rw [hw16]
       refine HL15.out.rowS ((Kp.refl (fun k => (Value.slice (some ⟨lg, loff, none⟩) ln lcap).ownBlock = some k) w15).setCell (p := ⟨lg, loff + m3 * 2 + 1, none⟩) (.inl rfl) _) ?_
       rw [show (st1.segs ++ [(((k1, 0) : Nat × Nat).1, v)]).length = ln by rw [← hlen]; simp]
       rw [Nat.add_assoc]
       exact h1)
      have HW16 := Lib.hid hw16
      clear hw15 hw16 hk15
      go_wp2_with fail
      refine upto_done ?_
      rw [hwv.out]
      rw [← HW16.out]
      clear hls15 hlf15 hll15 hlc g0 g2 p14 hb014
      have hk916 : Kp G2 w9 w16 := HL16.out.kp
      have hC16 := HL16.out.c
      have hll16 := get_lt hC16.cell
      have hwx16 : Kp (Both F G) w w16 := (((Kp.of_no HK2.out).trans_same HB.out.2.2.2.1).trans (T := G2) hk916 fun i hi hg => by
       rcases HB.out.2.2.1 i hg with h1 | h1
       ·exact .inr h1
       ·have := HAW.out.size; have := HAW.out.b0w; omega)
      have hE16 : ∀ k, (Value.slice ea9 en9 ec9).ownBlock = some k → k ≠ l ∧ ¬ k = b0 ∧ k < w16.heap.size := fun k hk => by
       rw [HEN9.out] at hk
       refine ⟨(hC16.ent_ne hk).1, fun e => ?_, hC16.ents.lt k hk⟩
       rcases HL16.out.foot k (.inr (.inr (.inl hk))) with h1 | h1
       ·exact HGN.out k (by omega) (by omega) h1
       ·omega
      have hb016 := hk916.lt hb09
      have p16 : w16.cell? ⟨b0, 0, none⟩ = some (.pointer (some ⟨l, 0, none⟩)) := (hk916.cell (p := ⟨b0, 0, none⟩) hb09 (HGN.out b0 (Nat.le_refl _) (by omega))).trans HC9.out.1
      have e0 : ∀ W, Kp (fun k => (Value.slice ea9 en9 ec9).ownBlock = some k) w16 W → W.cell? ⟨b0, 0, none⟩ = some (.pointer (some ⟨l, 0, none⟩)) := fun W hW => (hW.cell (p := ⟨b0, 0, none⟩) hb016 (fun h => (hE16 b0 h).2.1 rfl)).trans p16
      have e3 : ∀ W, Kp (fun k => (Value.slice ea9 en9 ec9).ownBlock = some k) w16 W → W.cell? ⟨l, 3, none⟩ = some (.slice ea9 en9 ec9) := fun W hW => by
       rw [hW.cell (p := ⟨l, 3, none⟩) hll16 (fun h => (hE16 l h).1 rfl), cell_at hC16.cell, HEN9.out]
       rfl
      have e3f : ∀ W, Kp (fun k => (Value.slice ea9 en9 ec9).ownBlock = some k) w16 W → W.frozen? ⟨l, 3, none⟩ = false := fun W hW => by
       rw [hW.frozen (p := ⟨l, 3, none⟩) hll16 (fun h => (hE16 l h).1 rfl)]
       exact free_at hC16.cell 3
      have HWX16 := Lib.hid hwx16
      have HE16 := Lib.hid hE16
      clear hwx16 hE16 hC16 hk916
      go_upto_region 24 with fail
      refine wp_region_last (Kp (fun k => (Value.slice ea9 en9 ec9).ownBlock = some k) w16) [0,0,0,0,0,0,2,2,2,0,0,2] [0,1,2,3,4,5,6,7,8,9,10] 11 (by kernel_rfl) (by kernel_rfl) (fun _ n h => h.drewN n) (Kp.refl _ _) ?_
      repeat (first
       | (apply wpOrd_skip rfl (by decide) rfl; (focus (go_simp; rfl)))
       | (apply wpOrd_pure rfl rfl rfl; (focus (intro _ _; go_simp; (try go_ints); rfl)); (focus (go_simp; rfl)))
       | (apply wpOrd_read rfl rfl rfl; (focus (intro _; go_simp; (try go_ints); rfl)); (focus (go_simp; rfl))))
      refine wpOrd_eff rfl rfl (fun n6 => ?_)
      have hcl := clone_any pa pc p w16.heap.size (w16.drewN n6) ((HP.out w16 HWX16.out).drewN n6) (by have := HPL2.out; omega)
      rw [← HPLE.out] at hcl
      go_wp2_with fail
      with_reducible refine hcl.mono ?_
      rintro e w17 ⟨cv, rfl, hoc, hk17, hfc⟩
      clear hcl
      obtain ⟨_, ca, cc, rfl, hpc, _⟩ := id hoc
      have HOC := Lib.hid hoc
      have HFC := Lib.hid hfc
      have HK17 := Lib.hid (show Kp No w16 w17 from hk17.of_drewN)
      have HPC := Lib.hid hpc
      clear hoc hfc hk17 hpc
      go_wp2_with fail
      refine ⟨Kp.of_no HK17.out, ?_⟩
      refine wpOrd_eff rfl rfl (fun n7 => ?_)
      go_wp2_with fail
      obtain ⟨w18, hw18⟩ : ∃ W, W = (w17.drewN n7).alloc (.cells #[.slice ca pl cc] 42) := ⟨_, rfl⟩
      have h18g : w18.heap[w17.heap.size]? = some (.cells #[.slice ca pl cc] 42 (0, 0)) := by rw [hw18]; exact heap_alloc_new (w17.drewN n7) _
      have k18 : Kp No w17 w18 := by rw [hw18]; exact ((Kp.refl _ _).drewN n7).alloc _
      rw [← hw18]
      clear hw18
      have k1618 : Kp No w16 w18 := HK17.out.trans_same k18
      refine ⟨Kp.of_no k1618, ?_⟩
      refine wpOrd_eff rfl rfl (fun n8 => ?_)
      have hlr : LRun w9 (w18.drewN n8) l d P (.slice (some ⟨lg, loff, none⟩) ln lcap) (.slice ea9 en9 ec9) (st1.segs ++ [(((k1, 0) : Nat × Nat).1, v)]) E9 st1.synced st1.dead G2 := by rw [HEN9.out]; exact HL16.out.no (k1618.drewN n8)
      have hoe : Own (w18.drewN n8) 42 1 (.slice ea9 en9 ec9) en9 (E9.flatMap rowC) := by have := hlr.c.ents; rw [← HEN9.out] at this; exact this
      obtain ⟨a', c', w19, hrn, ho', hkp', hbl'⟩ := own_two (T := 187) (E := 42) (sz := 1) (bytes := 24) Tryz.underlying187 infoRowB hoe (news := rowC ⟨ca, cc, p⟩) (rowC_one _) rfl (g := w17.heap.size) (cs := #[.slice ca pl cc]) h18g (by rw [HPLE.out]; rfl) (by have := HEN9B.out; omega) (by have := HEN9B.out; omega)
      have kS : Kp (fun k => (Value.slice ea9 en9 ec9).ownBlock = some k) w16 w19 := (Kp.of_no (k1618.drewN n8)).trans_same hkp'
      have HRN := Lib.hid hrn
      have HOP := Lib.hid ho'
      have HKV := Lib.hid hkp'
      have HBL := Lib.hid hbl'
      have HLR := Lib.hid hlr
      have HK18 := Lib.hid (k18.drewN n8)
      clear hrn ho' hkp' hbl' hlr hoe h18g k18 k1618
      refine wpList_append_run rfl rfl rfl rfl HRN.out (wpList_nil ⟨rfl, kS, ?_⟩)
      repeat (first
       | (apply wpOrd_skip rfl (by decide) rfl; (focus (go_simp; rfl)))
       | (apply wpOrd_pure rfl rfl rfl; (focus (intro _ _; go_simp; (try go_ints); rfl)); (focus (go_simp; rfl)))
       | (apply wpOrd_read rfl rfl rfl; (focus (intro _; go_simp; (try go_ints); rfl)); (focus (go_simp; rfl))))
      refine last_now (fun n9 => ?_)
      refine wpOrd_eff rfl rfl (fun n10 => ?_)
      obtain ⟨w20, hw20⟩ : ∃ W, W = (w19.drewN n9).drewN n10 := ⟨_, rfl⟩
      have k20 : Kp (fun k => (Value.slice ea9 en9 ec9).ownBlock = some k) (w18.drewN n8) w20 := by rw [hw20]; exact (HKV.out.drewN n9).drewN n10
      have kS20 : Kp (fun k => (Value.slice ea9 en9 ec9).ownBlock = some k) w16 w20 := by rw [hw20]; exact (kS.drewN n9).drewN n10
      have ho20 : Own w20 42 1 (.slice a' (en9 + 1) c') (en9 + 1) (E9.flatMap rowC ++ rowC ⟨ca, cc, p⟩) := by rw [hw20]; exact HOP.out
      rw [← hw20]
      have hc20 := e3 w20 kS20
      have hf20 := e3f w20 kS20
      have hl20 := kS20.lt hll16
      have hocp : EntOk (w18.drewN n8) ⟨ca, cc, p⟩ := by
       refine ⟨?_, ?_, ?_⟩
       ·have := HOC.out
        rw [HPLE.out] at this
        exact this.keep HK18.out fun _ _ x => x
       ·show p.length ≤ cc
        rw [← HPLE.out]
        exact HPC.out
       ·show p.length ≤ 1000000000
        have := HPL2.out
        omega
      have hnew := HLR.out.ent (r := ⟨ca, cc, p⟩) (W' := w20) (ev' := .slice a' (en9 + 1) c') hocp
       (fun g hg => .inr (by
        have h1 := HFC.out g (by rw [HPLE.out]; exact hg)
        have h2 : w16.heap.size ≤ g := h1
        have h3 := HL16.out.kp.size
        omega)) k20
       (by rw [List.length_append, List.length_singleton, ← HEN9.out, List.flatMap_append, List.flatMap_cons, List.flatMap_nil, List.append_nil]; exact ho20) HBL.out
      have HNEW := Lib.hid hnew
      clear hnew hw20 k20 kS20 ho20 hocp
      go_wp2_with fail
      intro nr
      obtain ⟨w22, hw22⟩ : ∃ W, W = (w20.setCell ⟨l, 3, none⟩ (.slice a' (en9 + 1) c')).drewN nr := ⟨_, rfl⟩
      have HL22 := Lib.hid (HNEW.out.no (show Kp No _ w22 from by rw [hw22]; exact (Kp.refl No _).drewN nr))
      rw [← hw22]
      clear hw22 hc20 hf20 hl20 kS e0 e3 e3f p16 hb016
      have hk22 : Kp G2 w9 w22 := HL22.out.kp
      have q1 : w22.cell? ⟨b0 + 1, 0, none⟩ = some (.int .i64 0) := (hk22.cell (p := ⟨b0 + 1, 0, none⟩) (by show b0 + 1 < _; omega) (HGN.out (b0 + 1) (by omega) (by omega))).trans HC9.out.2.1
      have q1f : w22.frozen? ⟨b0 + 1, 0, none⟩ = false := (hk22.frozen (p := ⟨b0 + 1, 0, none⟩) (by show b0 + 1 < _; omega) (HGN.out (b0 + 1) (by omega) (by omega))).trans HC9.out.2.2.1
      have q2 : w22.cell? ⟨b0 + 1 + 1, 0, none⟩ = some (.int .i64 0) := (hk22.cell (p := ⟨b0 + 1 + 1, 0, none⟩) (by show b0 + 1 + 1 < _; omega) (HGN.out (b0 + 1 + 1) (by omega) (by omega))).trans HC9.out.2.2.2.1
      have q2f : w22.frozen? ⟨b0 + 1 + 1, 0, none⟩ = false := (hk22.frozen (p := ⟨b0 + 1 + 1, 0, none⟩) (by show b0 + 1 + 1 < _; omega) (HGN.out (b0 + 1 + 1) (by omega) (by omega))).trans HC9.out.2.2.2.2.1
      have hb22 : b0 + 1 + 1 < w22.heap.size := by have := hk22.size; omega
      have HK22 := Lib.hid hk22
      clear hk22
      go_wp2_with fail
      have r1 : ((w22.setCell ⟨b0 + 1, 0, none⟩ (.int .i64 (k1 : Int))).setCell ⟨b0 + 1 + 1, 0, none⟩ (.int .i64 0)).cell? ⟨b0 + 1, 0, none⟩ = some (.int .i64 (k1 : Int)) := by
       have hk := (Kp.refl (One (b0 + 1 + 1)) (w22.setCell ⟨b0 + 1, 0, none⟩ (.int .i64 (k1 : Int)))).setCell (p := ⟨b0 + 1 + 1, 0, none⟩) (.inl rfl) (.int .i64 0)
       rw [hk.cell (p := ⟨b0 + 1, 0, none⟩) (by simp [World.setCell]; omega) (by show ¬ b0 + 1 = b0 + 1 + 1; omega)]
       simp [go_sem, q1]
      have r2 : ((w22.setCell ⟨b0 + 1, 0, none⟩ (.int .i64 (k1 : Int))).setCell ⟨b0 + 1 + 1, 0, none⟩ (.int .i64 0)).cell? ⟨b0 + 1 + 1, 0, none⟩ = some (.int .i64 0) := by
       have hk := (Kp.refl (One (b0 + 1)) w22).setCell (p := ⟨b0 + 1, 0, none⟩) (.inl rfl) (.int .i64 (k1 : Int))
       have h2 := (hk.cell (p := ⟨b0 + 1 + 1, 0, none⟩) hb22 (by show ¬ b0 + 1 + 1 = b0 + 1; omega)).trans q2
       simp [go_sem, h2]
      have k24 : Kp (fun i => i = b0 + 1 ∨ i = b0 + 1 + 1) w22 ((w22.setCell ⟨b0 + 1, 0, none⟩ (.int .i64 (k1 : Int))).setCell ⟨b0 + 1 + 1, 0, none⟩ (.int .i64 0)) :=
       ((Kp.refl (fun i => i = b0 + 1 ∨ i = b0 + 1 + 1) w22).setCell (p := ⟨b0 + 1, 0, none⟩) (.inl (.inl rfl)) _).setCell (p := ⟨b0 + 1 + 1, 0, none⟩) (.inl (.inr rfl)) _
      obtain ⟨w24, hw24⟩ : ∃ W, W = (w22.setCell ⟨b0 + 1, 0, none⟩ (.int .i64 (k1 : Int))).setCell ⟨b0 + 1 + 1, 0, none⟩ (.int .i64 0) := ⟨_, rfl⟩
      rw [← hw24] at r1 r2 k24 ⊢
      clear hw24
      have hap := app_go (p := p) HD.out HPL2.out HPR.out
      rw [HEK.out, ← HTO.out, ← HQ.out, if_pos (by rw [← HQE.out]; exact hz)] at hap
      have hadd : addS st1 p = { st1 with ents := st1.ents ++ [p], segs := st1.segs ++ [(((k1, 0) : Nat × Nat).1, ((k1, 0) : Nat × Nat).2 + fl)] } := by rw [add_fresh (show freshS st1 = true by unfold freshS; rw [HST.out.2]; exact HFR.out), HST.out.1, HEK.out, ← HFLE.out]
      obtain ⟨G3, hL3, hG3, hK3⟩ := HL22.out.stop
      have hW22 := HB.out.1.turnL hL3 hG3 hK3
      have h0 := HAW.out.b0w
      have hsz := HAW.out.size
      have hF2n : ∀ g, F2 g → ¬ (g = b0 + 1 ∨ g = b0 + 1 + 1) := fun g hg hb => by
       rcases HB.out.2.1 g hg with h1 | h1
       ·have := HFL.out g h1; omega
       ·omega
      have hG3n : ∀ g, G3 g → ¬ (g = b0 + 1 ∨ g = b0 + 1 + 1) := fun g hg hb => by
       rcases hG3 g hg with h1 | h1
       ·exact HGN.out g (by omega) (by omega) h1
       ·omega
      have hW24 : WAt w24 d l P q.2 _ F2 G3 := ⟨hW22.disk.keep k24 hF2n, hW22.log.keep k24 hG3n, hW22.sep⟩
      have hst : (⟨(E9 ++ [(⟨ca, cc, p⟩ : Row)]).map Row.data, st1.segs ++ [(((k1, 0) : Nat × Nat).1, v)], st1.synced, st1.dead⟩ : LSt) = addS st1 p := by
       rw [hadd, List.map_append, ← HB.out.2.2.2.2, HHV.out, HYB.out]
       rfl
      rw [hst] at hW24
      have hfin : SaidW w d l P F G q.2 (addS st1 p) w24 := by
       refine ⟨F2, G3, hW24, fun g hg => (HB.out.2.1 g hg).imp id fun h => Nat.le_trans HK2.out.size h, fun g hg => ?_, ?_⟩
       ·rcases hG3 g hg with h1 | h1
        ·exact (HB.out.2.2.1 g h1).imp id fun h => Nat.le_trans HK2.out.size h
        ·right; omega
       ·refine ((((Kp.of_no HK2.out).trans_same HB.out.2.2.2.1).trans (T := G2) HK22.out fun i hi hg => ?_).trans k24 fun i hi hb => by omega)
        rcases HB.out.2.2.1 i hg with h1 | h1
        ·exact .inr h1
        ·omega
      refine app_done r1 r2 _ rfl rfl _ ?_
      rw [hap]
      exact ⟨rfl, hfin⟩
     ·have hap := app_no (p := p) HD.out HPL2.out (show (preS P s st).1 ≠ 0 by rw [HPRE2.out, HKN.out]; exact hz)
      rw [HPRE2.out, HKN.out] at hap
      refine app_leaves HAW.out HS1.out kn _ rfl rfl _ fun w'' hw'' => ?_
      rw [hap]
      exact ⟨rfl, hw''⟩
    ·have e4 : decide ((1024 : Int) ≤ (zb : Int)) = false := by rw [decide_eq_false_iff_not]; omega
     have HFR := Lib.hid (show freshS st = false by rw [fresh_last HSG.out, ← HZBE.out]; exact decide_eq_false hfr)
     clear hfr
     go_enter_defers Tryz.func112, Tryz.ntmps112
     go_upto_region 8 with fail
     rw [← HW2.out, ← HB0.out]
     clear c5w
     go_upto_region 11 with fail
     go_wp2_with fail
     have hc := HNM.out
     with_reducible refine hc.mono ?_
     rintro e w3 ⟨rfl, hk3⟩
     clear hc HNM
     have p03 := (hk3.cell (p := ⟨b0, 0, none⟩) (by show b0 < _; have := HAW.out.size; omega) (fun x => x)).trans hp0
     have d23 := (hk3.cell (p := ⟨l, 2, none⟩) hll2 (fun x => x)).trans d2w
     have hsc3 := (hk3.cell (p := ⟨sg, soff + m2 * 2, none⟩) hsgl (fun x => x)).trans hsc0w
     go_upto_region 16 with fail
     obtain ⟨s1, hs1⟩ : ∃ s1, s1 = s := ⟨_, rfl⟩
     obtain ⟨st1, hst1⟩ : ∃ st1, st1 = st := ⟨_, rfl⟩
     have HS1 := Lib.hid (show SaidW W2 d l P F G s1 st1 w3 from by rw [hs1, hst1]; exact SaidW.here (H.out.no HK2.out) hk3)
     have HPR := Lib.hid (show preS P s st = (0, s1, st1) from by rw [hs1, hst1]; exact pre_old HFR.out)
     have HST := Lib.hid (show st1.ents = st.ents ∧ st1.segs = st.segs from by rw [hst1]; exact ⟨rfl, rfl⟩)
     clear hs1 hst1
     obtain ⟨tn, htn⟩ : ∃ tn, tn = zn := ⟨_, rfl⟩
     have HTO := Lib.hid (show tn = toN P st by unfold toN; rw [if_neg (by rw [HFR.out]; decide), lastNo_last HSG.out, htn]; exact HZN.out)
     rw [← htn]
     clear htn hk3 d0w d1w d2w d3w hp0 hw1 p03 d23 hsc3 hsc0w hsc1w
     have hkx := HS1.out.kp
     have hxc := HAW.out.cells hkx
     have hwx : Kp (Both F G) w w3 := (Kp.of_no HK2.out).trans_same hkx
     have hpx := HP.out w3 hwx
     have HPX := Lib.hid hpx
     have HKX := Lib.hid hkx
     have HWX := Lib.hid hwx
     obtain ⟨bw, hbw⟩ : ∃ bw, bw = w3.heap.size := ⟨_, rfl⟩
     obtain ⟨W4, hW4⟩ : ∃ W, W = (w3.alloc (.cells #[.slice none 0 0] 121)).alloc (.cells #[.int .i64 (k1 : Int)] 3) := ⟨_, rfl⟩
     have k4 : Kp No w3 W4 := by rw [hW4]; exact ((Kp.refl _ _).alloc _).alloc _
     have hb4 : W4.heap[bw]? = some (.cells #[.slice none 0 0] 121 (0, 0)) := by
      rw [hW4, hbw]
      exact alloc_far (heap_alloc_new w3 _) _
     have hg4 : W4.cell? ⟨bw + 1, 0, none⟩ = some (.int .i64 (k1 : Int)) := by rw [hW4, hbw]; simp [go_sem]
     have hk1b : k1 ≤ 1000000000000 := by rw [← HEK.out]; have := HFEW.out.1; omega
     have hnums := Nums_1 W4 bw (bw + 1) 1 k1 hk1b hb4 hg4
     have HNU := Lib.hid hnums
     have HK4 := Lib.hid k4
     have HW4 := Lib.hid hW4
     have HBW := Lib.hid hbw
     have HK1B := Lib.hid hk1b
     clear hkx hwx hpx k4 hb4 hg4 hnums hW4 hbw hk1b hxc
     go_upto_region 17 with fail
     go_wp2_with fail
     rw [← HBW.out, ← HW4.out]
     have hc := HNU.out
     with_reducible refine hc.mono ?_
     rintro e w5 ⟨rfl, na, nc, hb5, ho5, hf5, hk5⟩
     clear hc HNU
     have hk45 : Kp No w3 w5 := HK4.out.trans hk5 fun i hi (e : i = bw) => by have := HBW.out; omega
     have hou := Out_any w5 bw na nc (numL k1) hb5 ho5.rd' (by have := (entL_len k1 HK1B.out p).2; omega)
     have HOU := Lib.hid hou
     have HK45 := Lib.hid hk45
     clear hb5 ho5 hf5 hk5 hk45 hou
     go_upto_region 18 with fail
     go_wp2_with fail
     have hc := HOU.out
     with_reducible refine hc.mono ?_
     rintro e w6 ⟨oa, oc, rfl, ho6, hf6, hk6⟩
     clear hc HOU
     have hp6 := HPX.out.kp (HK45.out.trans_same hk6)
     have htwo := two_made w6 42 oa pa oc pc (numL k1) p ho6.rd' hp6 (by have := (entL_len k1 HK1B.out p).2; omega) (by have := HPL2.out; omega)
     obtain ⟨W7, hW7⟩ : ∃ W, W = w6.alloc (.cells #[.slice oa (numL k1).length oc, .slice pa p.length pc] 42) := ⟨_, rfl⟩
     have hen : Calls Tryz.prog 186 #[.slice (some ⟨w6.heap.size, 0, none⟩) 2 2] W7 (FrP W7 (numL k1 ++ p)) := by
      have h := Encode_any W7 (some ⟨w6.heap.size, 0, none⟩) 2 [⟨oa, oc, numL k1⟩, ⟨pa, pc, p⟩] (by rw [hW7]; exact htwo.1) (Nat.le_refl _) (by show 2 ≤ _; omega) (by
       rw [catR_two, List.length_append]
       have := (entL_len k1 HK1B.out p).2
       have := HPL2.out
       omega)
      rw [catR_two] at h
      exact h
     have k67 : Kp No w6 W7 := by rw [hW7]; exact htwo.2
     obtain ⟨nl, hnl⟩ : ∃ nl, nl = (numL k1).length := ⟨_, rfl⟩
     rw [← hnl, ← HPLE.out] at hW7
     rw [← hnl]
     have HEN := Lib.hid hen
     have HK7 := Lib.hid ((HK45.out.trans_same hk6).trans_same k67)
     have HW7 := Lib.hid hW7
     clear hp6 htwo hen k67 hnl hW7 ho6 hf6 hk6
     go_wp2_with fail
     rw [← HW7.out]
     have hc := HEN.out
     with_reducible refine hc.mono ?_
     rintro e w8 ⟨fa, fc, rfl, hr8, hk8⟩
     clear hc HEN
     have hk8x : Kp No w3 w8 := HK7.out.trans_same hk8
     obtain ⟨F1, G1, hW1, hF1, hG1, hK1⟩ := HS1.out
     have hc8 := HAW.out.cells (HKX.out.trans_no hk8x)
     have hp08 := hc8.1
     have hL8 := hW1.log.keep_no hk8x
     obtain ⟨svx, evx, Ex, hCx, hEx, _, _⟩ := hL8
     have hl08 := hCx.cells.1 w8 (Kp.refl _ _)
     have hll8 := get_lt hCx.cell
     have hb08 : b0 < w8.heap.size := by have := hc8.2.2.2.2.2; omega
     have hgo := gate_ok w8
     have hwr := Write_any w8 d s1 F1 (hW1.disk.keep_no hk8x) tn fa fc (entL k1 p) hr8 (by
      have := (entL_len k1 HK1B.out p)
      have := HPL2.out
      omega)
     obtain ⟨q, hq⟩ : ∃ q, q = wrS s1 tn (entL k1 p) := ⟨_, rfl⟩
     have hqc := wr_code s1 tn (entL k1 p)
     rw [← hq] at hwr hqc
     obtain ⟨fl, hfl⟩ : ∃ fl, fl = (entL k1 p).length := ⟨_, rfl⟩
     rw [show (frameL (numL k1 ++ p)).length = fl from hfl.symm]
     rw [← hfl] at hwr
     have HWR := Lib.hid hwr
     have HQ := Lib.hid hq
     have HFLE := Lib.hid hfl
     have HK8X := Lib.hid hk8x
     have HW1 := Lib.hid (And.intro hW1 (And.intro hF1 (And.intro hG1 hK1)))
     clear hr8 hk8 hk8x hW1 hF1 hG1 hK1 hc8 hCx hEx hwr hq hfl
     go_wp2_with fail
     with_reducible refine hgo.mono ?_
     rintro e w9 ⟨rfl, rfl⟩
     clear hgo
     go_wp2_with fail
     have hc := HWR.out
     with_reducible refine hc.mono ?_
     rintro e w9 ⟨rfl, F9, hD9, hF9, hK9⟩
     clear hc HWR
     obtain ⟨qc, hqe⟩ : ∃ qc, qc = q.1 := ⟨_, rfl⟩
     rw [← hqe] at hqc ⊢
     have hga := gate_any qc hqc.1 hqc.2 w9
     have hS9 : SaidW W2 d l P F G q.2 st1 w9 := SaidW.trans ⟨F1, G1, HW1.out.1, HW1.out.2.1, HW1.out.2.2.1, HW1.out.2.2.2, F9, G1, (HW1.out.1.no HK8X.out).turnD hD9 hF9 hK9, fun k hk => (hF9 k hk).imp id fun h => Nat.le_trans HK8X.out.size h, Foot.refl _ _, ((Kp.of_no HK8X.out).trans_same hK9).mono fun _ _ x => .inl x⟩
     have HS9 := Lib.hid hS9
     have HQE := Lib.hid hqe
     clear hD9 hF9 hK9 hS9 hqe hp08 hl08 hll8 hb08
     go_wp2_with fail
     with_reducible refine hga.mono ?_
     rintro e w' ⟨hgp, rfl⟩
     clear hga
     rcases hgp with ⟨hz, rfl⟩ | ⟨hz, rfl⟩
     rotate_left
     ·obtain ⟨kn, hkn⟩ := Int.eq_ofNat_of_zero_le hqc.1
      have hap := app_go (p := p) HD.out HPL2.out HPR.out
      rw [HEK.out, ← HTO.out, ← HQ.out, if_neg (by rw [← HQE.out]; exact hz), ← HQE.out, hkn] at hap
      rw [hkn]
      refine app_leaves HAW.out HS9.out kn _ rfl rfl _ fun w'' hw'' => ?_
      rw [hap]
      exact ⟨rfl, hw''⟩
     obtain ⟨F2, G2, hW9', hF2, hG2, hK9'⟩ := HS9.out
     obtain ⟨sv9, ev9, E9, hrun9, hE9, _⟩ := LRun.start hW9'.log
     have hc9 := HAW.out.cells hK9'
     have h90 := hc9.1
     have hs9 := hc9.2.2.2.2.2
     have h0 := HAW.out.b0w
     have hsz := HAW.out.size
     have hll9 := HAW.out.ll
     have hgb : ∀ k, G2 k → k < b0 ∨ b0 + 2 < k := fun k hk => by
      rcases hG2 k hk with h1 | h1
      ·have := HGL.out k h1; omega
      ·omega
     have hGn : ∀ i, b0 ≤ i → i ≤ b0 + 2 → ¬ G2 i := fun i h1 h2 h3 => by have := hgb i h3; omega
     have HB := Lib.hid (And.intro hW9' (And.intro hF2 (And.intro hG2 (And.intro hK9' hE9))))
     have HGN := Lib.hid hGn
     have HRUN9 := Lib.hid hrun9
     have HC9 := Lib.hid hc9
     clear hW9' hF2 hG2 hK9' hE9 hgb hGn hrun9 hc9 h0 hsz
     obtain ⟨sa9, sc9, rfl, _, _⟩ := HRUN9.out.c.segs.rd
     obtain ⟨ea9, ec9, rfl, _, _⟩ := HRUN9.out.c.ents.rd
     obtain ⟨en9, hen9⟩ : ∃ en9, en9 = E9.length := ⟨_, rfl⟩
     have HEN9 := Lib.hid hen9
     have hb09 : b0 < w9.heap.size := by omega
     have hen9b : en9 ≤ 1000000 := by
      have h1 := HB.out.2.2.2.2
      have h2 := congrArg List.length h1
      rw [List.length_map, HST.out.1] at h2
      have h3 := HFEW.out.1
      omega
     have HEN9B := Lib.hid hen9b
     clear hen9 hen9b
     obtain ⟨w14, hw14⟩ : ∃ W, W = w9 := ⟨_, rfl⟩
     have HL14 : Hid (LRun w9 w14 l d P (.slice sa9 st1.segs.length sc9) (.slice ea9 E9.length ec9) (S1 ++ [z]) E9 st1.synced st1.dead G2) := by
      rw [hw14]
      have h1 := HRUN9.out
      have h2 : st1.segs = S1 ++ [z] := HST.out.2.trans HSG.out
      have h3 : LRun w9 w9 l d P (.slice sa9 st1.segs.length sc9) (.slice ea9 E9.length ec9) (S1 ++ [z]) E9 st1.synced st1.dead G2 := by
       rw [h2] at h1 ⊢
       exact h1
      exact Lib.hid h3
     rw [← hw14]
     clear hw14
     obtain ⟨yb, hyb⟩ : ∃ yb, yb = (z : Nat × Nat).2 := ⟨_, rfl⟩
     have hybb : yb ≤ 1000000000 := by rw [hyb]; first | exact HZB.out | exact Nat.zero_le _
     obtain ⟨lg, loff, ln, lcap, hlsv, hln, hlnb, hlgl, hlfz, _, hlc⟩ := LogC.lastSeg HL14.out.c
     injection hlsv with hl1 hl2 hl3
     rw [hl1, hl2, hl3] at HL14
     obtain ⟨m3, hm3⟩ : ∃ m3, m3 = (S1).length := ⟨_, rfl⟩
     rw [← hm3] at hln hlc
     rw [← hyb] at hlc
     have hlw : (ln : Int) - 1 = (m3 : Int) := by omega
     have hm3l : m3 < ln := by omega
     obtain ⟨v, hv⟩ : ∃ v, v = yb + fl := ⟨_, rfl⟩
     have hflb : fl ≤ 1000000 := by
      rw [HFLE.out]
      have := entL_len k1 HK1B.out p
      have := HPL2.out
      omega
     have hwv := Lib.hid (show (yb : Int) + (fl : Int) = (v : Int) from by rw [hv]; push_cast; rfl)
     have hk914 : Kp G2 w9 w14 := HL14.out.kp
     have hkb14 : ∀ i, b0 ≤ i → i ≤ b0 + 2 → i < w9.heap.size → ∀ q : Addr, q.block = i → w14.cell? q = w9.cell? q ∧ w14.frozen? q = w9.frozen? q := fun i h1 h2 h3 q hq => by
      rw [← hq] at h1 h2 h3
      exact ⟨hk914.cell h3 (HGN.out _ h1 h2), hk914.frozen h3 (HGN.out _ h1 h2)⟩
     have p14 : w14.cell? ⟨b0, 0, none⟩ = some (.pointer (some ⟨l, 0, none⟩)) := ((hkb14 b0 (Nat.le_refl _) (by omega) hb09 _ rfl).1).trans HC9.out.1
     have hb014 := hk914.lt hb09
     have hb214 : b0 + 2 < w14.heap.size := by have := hk914.size; omega
     have hC14 := HL14.out.c
     have hll14 := get_lt hC14.cell
     have g0 : ∀ W, Kp No w14 W → W.cell? ⟨b0, 0, none⟩ = some (.pointer (some ⟨l, 0, none⟩)) := fun W hW => (hW.cell (p := ⟨b0, 0, none⟩) hb014 (fun x => x)).trans p14
     have g2 : ∀ W, Kp No w14 W → W.cell? ⟨l, 2, none⟩ = some (.slice (some ⟨lg, loff, none⟩) ln lcap) := fun W hW => by
      rw [cell_at (hC14.keep_no hW).cell]
      rfl
     have HHV := Lib.hid hv
     have HM3 := Lib.hid hm3
     have HLN := Lib.hid hln
     have HKB := Lib.hid hkb14
     have HFZ := Lib.hid hlfz
     have HYB := Lib.hid hyb
     clear hv hm3 hln hkb14 hlfz hk914 hyb hl1 hl2 hl3 hC14
     go_upto_region 23 with fail
     refine wp_region_fin (Kp No w14) [0,0,0,0,0,0,0,0,1,0,0,0,0,0,1,0,0,0,2] [0,1,2,3,4,5,6,7,13,8,9,10,11,12,14,15,16,17] 18 [] (by kernel_rfl) (by kernel_rfl) (fun _ n h => h.drewN n) (Kp.refl _ _) ?_
     repeat (first
      | (apply wpOrd_skip rfl (by decide) rfl; (focus (go_simp; rfl)))
      | (apply wpOrd_pure rfl rfl rfl; (focus (intro _ _; go_simp; (try go_ints); rfl)); (focus (go_simp; rfl)))
      | (apply wpOrd_read rfl rfl rfl; (focus (intro _; go_simp; (try go_ints); rfl)); (focus (go_simp; rfl))))
     refine fin_now (fun n1 => ?_)
     refine wpSeq_step rfl ?_
     obtain ⟨w15, hw15⟩ : ∃ W, W = w14.drewN n1 := ⟨_, rfl⟩
     have hk15 : Kp No w14 w15 := by rw [hw15]; exact (Kp.refl No w14).drewN n1
     rw [← hw15]
     have hls15 := hlc w15 hk15
     have hlf15 : w15.frozen? ⟨lg, loff + m3 * 2 + 1, none⟩ = false := (hk15.frozen (p := ⟨lg, loff + m3 * 2 + 1, none⟩) hlgl (fun x => x)).trans (HFZ.out _)
     have hll15 := hk15.lt hlgl
     have HL15 := Lib.hid (HL14.out.no hk15)
     obtain ⟨w16, hw16⟩ : ∃ W, W = w15.setCell ⟨lg, loff + m3 * 2 + 1, none⟩ (.int .i64 (v : Int)) := ⟨_, rfl⟩
     have HL16 := Lib.hid (show LRun w9 w16 l d P (.slice (some ⟨lg, loff, none⟩) ln lcap) (.slice ea9 E9.length ec9) (S1 ++ [((z : Nat × Nat).1, v)]) E9 st1.synced st1.dead G2 from by
      have hO := HL15.out.c.segs
      have hlen : (S1 ++ [(z : Nat × Nat)]).length = ln := by rw [List.length_append, List.length_singleton, ← HM3.out, HLN.out]
      rw [hlen] at hO
      have h1 := Mer.own_set hO (m3 * 2 + 1) (by omega) (.int .i64 (v : Int))
      have hlt : m3 < (S1 ++ [(z : Nat × Nat)]).length := by rw [hlen]; exact hm3l
      have hget : (S1 ++ [(z : Nat × Nat)])[m3]'hlt = z := by simp [HM3.out]
      rw [chunk_set (segC P) 2 (segC_len P) _ hlt (by omega) (x := ((z : Nat × Nat).1, v)) (by rw [hget]; rfl)] at h1
      have hset : (S1 ++ [(z : Nat × Nat)]).set m3 ((z : Nat × Nat).1, v) = S1 ++ [((z : Nat × Nat).1, v)] := by simp [HM3.out]
      rw [hset] at h1
      rw [hw16]
      refine HL15.out.rowS ((Kp.refl (fun k => (Value.slice (some ⟨lg, loff, none⟩) ln lcap).ownBlock = some k) w15).setCell (p := ⟨lg, loff + m3 * 2 + 1, none⟩) (.inl rfl) _) ?_
      rw [show (S1 ++ [((z : Nat × Nat).1, v)]).length = ln by rw [← hlen]; simp]
      rw [Nat.add_assoc]
      exact h1)
     have HW16 := Lib.hid hw16
     clear hw15 hw16 hk15
     go_wp2_with fail
     refine upto_done ?_
     rw [hwv.out]
     rw [← HW16.out]
     clear hls15 hlf15 hll15 hlc g0 g2 p14 hb014
     have hk916 : Kp G2 w9 w16 := HL16.out.kp
     have hC16 := HL16.out.c
     have hll16 := get_lt hC16.cell
     have hwx16 : Kp (Both F G) w w16 := (((Kp.of_no HK2.out).trans_same HB.out.2.2.2.1).trans (T := G2) hk916 fun i hi hg => by
      rcases HB.out.2.2.1 i hg with h1 | h1
      ·exact .inr h1
      ·have := HAW.out.size; have := HAW.out.b0w; omega)
     have hE16 : ∀ k, (Value.slice ea9 en9 ec9).ownBlock = some k → k ≠ l ∧ ¬ k = b0 ∧ k < w16.heap.size := fun k hk => by
      rw [HEN9.out] at hk
      refine ⟨(hC16.ent_ne hk).1, fun e => ?_, hC16.ents.lt k hk⟩
      rcases HL16.out.foot k (.inr (.inr (.inl hk))) with h1 | h1
      ·exact HGN.out k (by omega) (by omega) h1
      ·omega
     have hb016 := hk916.lt hb09
     have p16 : w16.cell? ⟨b0, 0, none⟩ = some (.pointer (some ⟨l, 0, none⟩)) := (hk916.cell (p := ⟨b0, 0, none⟩) hb09 (HGN.out b0 (Nat.le_refl _) (by omega))).trans HC9.out.1
     have e0 : ∀ W, Kp (fun k => (Value.slice ea9 en9 ec9).ownBlock = some k) w16 W → W.cell? ⟨b0, 0, none⟩ = some (.pointer (some ⟨l, 0, none⟩)) := fun W hW => (hW.cell (p := ⟨b0, 0, none⟩) hb016 (fun h => (hE16 b0 h).2.1 rfl)).trans p16
     have e3 : ∀ W, Kp (fun k => (Value.slice ea9 en9 ec9).ownBlock = some k) w16 W → W.cell? ⟨l, 3, none⟩ = some (.slice ea9 en9 ec9) := fun W hW => by
      rw [hW.cell (p := ⟨l, 3, none⟩) hll16 (fun h => (hE16 l h).1 rfl), cell_at hC16.cell, HEN9.out]
      rfl
     have e3f : ∀ W, Kp (fun k => (Value.slice ea9 en9 ec9).ownBlock = some k) w16 W → W.frozen? ⟨l, 3, none⟩ = false := fun W hW => by
      rw [hW.frozen (p := ⟨l, 3, none⟩) hll16 (fun h => (hE16 l h).1 rfl)]
      exact free_at hC16.cell 3
     have HWX16 := Lib.hid hwx16
     have HE16 := Lib.hid hE16
     clear hwx16 hE16 hC16 hk916
     go_upto_region 24 with fail
     refine wp_region_last (Kp (fun k => (Value.slice ea9 en9 ec9).ownBlock = some k) w16) [0,0,0,0,0,0,2,2,2,0,0,2] [0,1,2,3,4,5,6,7,8,9,10] 11 (by kernel_rfl) (by kernel_rfl) (fun _ n h => h.drewN n) (Kp.refl _ _) ?_
     repeat (first
      | (apply wpOrd_skip rfl (by decide) rfl; (focus (go_simp; rfl)))
      | (apply wpOrd_pure rfl rfl rfl; (focus (intro _ _; go_simp; (try go_ints); rfl)); (focus (go_simp; rfl)))
      | (apply wpOrd_read rfl rfl rfl; (focus (intro _; go_simp; (try go_ints); rfl)); (focus (go_simp; rfl))))
     refine wpOrd_eff rfl rfl (fun n6 => ?_)
     have hcl := clone_any pa pc p w16.heap.size (w16.drewN n6) ((HP.out w16 HWX16.out).drewN n6) (by have := HPL2.out; omega)
     rw [← HPLE.out] at hcl
     go_wp2_with fail
     with_reducible refine hcl.mono ?_
     rintro e w17 ⟨cv, rfl, hoc, hk17, hfc⟩
     clear hcl
     obtain ⟨_, ca, cc, rfl, hpc, _⟩ := id hoc
     have HOC := Lib.hid hoc
     have HFC := Lib.hid hfc
     have HK17 := Lib.hid (show Kp No w16 w17 from hk17.of_drewN)
     have HPC := Lib.hid hpc
     clear hoc hfc hk17 hpc
     go_wp2_with fail
     refine ⟨Kp.of_no HK17.out, ?_⟩
     refine wpOrd_eff rfl rfl (fun n7 => ?_)
     go_wp2_with fail
     obtain ⟨w18, hw18⟩ : ∃ W, W = (w17.drewN n7).alloc (.cells #[.slice ca pl cc] 42) := ⟨_, rfl⟩
     have h18g : w18.heap[w17.heap.size]? = some (.cells #[.slice ca pl cc] 42 (0, 0)) := by rw [hw18]; exact heap_alloc_new (w17.drewN n7) _
     have k18 : Kp No w17 w18 := by rw [hw18]; exact ((Kp.refl _ _).drewN n7).alloc _
     rw [← hw18]
     clear hw18
     have k1618 : Kp No w16 w18 := HK17.out.trans_same k18
     refine ⟨Kp.of_no k1618, ?_⟩
     refine wpOrd_eff rfl rfl (fun n8 => ?_)
     have hlr : LRun w9 (w18.drewN n8) l d P (.slice (some ⟨lg, loff, none⟩) ln lcap) (.slice ea9 en9 ec9) (S1 ++ [((z : Nat × Nat).1, v)]) E9 st1.synced st1.dead G2 := by rw [HEN9.out]; exact HL16.out.no (k1618.drewN n8)
     have hoe : Own (w18.drewN n8) 42 1 (.slice ea9 en9 ec9) en9 (E9.flatMap rowC) := by have := hlr.c.ents; rw [← HEN9.out] at this; exact this
     obtain ⟨a', c', w19, hrn, ho', hkp', hbl'⟩ := own_two (T := 187) (E := 42) (sz := 1) (bytes := 24) Tryz.underlying187 infoRowB hoe (news := rowC ⟨ca, cc, p⟩) (rowC_one _) rfl (g := w17.heap.size) (cs := #[.slice ca pl cc]) h18g (by rw [HPLE.out]; rfl) (by have := HEN9B.out; omega) (by have := HEN9B.out; omega)
     have kS : Kp (fun k => (Value.slice ea9 en9 ec9).ownBlock = some k) w16 w19 := (Kp.of_no (k1618.drewN n8)).trans_same hkp'
     have HRN := Lib.hid hrn
     have HOP := Lib.hid ho'
     have HKV := Lib.hid hkp'
     have HBL := Lib.hid hbl'
     have HLR := Lib.hid hlr
     have HK18 := Lib.hid (k18.drewN n8)
     clear hrn ho' hkp' hbl' hlr hoe h18g k18 k1618
     refine wpList_append_run rfl rfl rfl rfl HRN.out (wpList_nil ⟨rfl, kS, ?_⟩)
     repeat (first
      | (apply wpOrd_skip rfl (by decide) rfl; (focus (go_simp; rfl)))
      | (apply wpOrd_pure rfl rfl rfl; (focus (intro _ _; go_simp; (try go_ints); rfl)); (focus (go_simp; rfl)))
      | (apply wpOrd_read rfl rfl rfl; (focus (intro _; go_simp; (try go_ints); rfl)); (focus (go_simp; rfl))))
     refine last_now (fun n9 => ?_)
     refine wpOrd_eff rfl rfl (fun n10 => ?_)
     obtain ⟨w20, hw20⟩ : ∃ W, W = (w19.drewN n9).drewN n10 := ⟨_, rfl⟩
     have k20 : Kp (fun k => (Value.slice ea9 en9 ec9).ownBlock = some k) (w18.drewN n8) w20 := by rw [hw20]; exact (HKV.out.drewN n9).drewN n10
     have kS20 : Kp (fun k => (Value.slice ea9 en9 ec9).ownBlock = some k) w16 w20 := by rw [hw20]; exact (kS.drewN n9).drewN n10
     have ho20 : Own w20 42 1 (.slice a' (en9 + 1) c') (en9 + 1) (E9.flatMap rowC ++ rowC ⟨ca, cc, p⟩) := by rw [hw20]; exact HOP.out
     rw [← hw20]
     have hc20 := e3 w20 kS20
     have hf20 := e3f w20 kS20
     have hl20 := kS20.lt hll16
     have hocp : EntOk (w18.drewN n8) ⟨ca, cc, p⟩ := by
      refine ⟨?_, ?_, ?_⟩
      ·have := HOC.out
       rw [HPLE.out] at this
       exact this.keep HK18.out fun _ _ x => x
      ·show p.length ≤ cc
       rw [← HPLE.out]
       exact HPC.out
      ·show p.length ≤ 1000000000
       have := HPL2.out
       omega
     have hnew := HLR.out.ent (r := ⟨ca, cc, p⟩) (W' := w20) (ev' := .slice a' (en9 + 1) c') hocp
      (fun g hg => .inr (by
       have h1 := HFC.out g (by rw [HPLE.out]; exact hg)
       have h2 : w16.heap.size ≤ g := h1
       have h3 := HL16.out.kp.size
       omega)) k20
      (by rw [List.length_append, List.length_singleton, ← HEN9.out, List.flatMap_append, List.flatMap_cons, List.flatMap_nil, List.append_nil]; exact ho20) HBL.out
     have HNEW := Lib.hid hnew
     clear hnew hw20 k20 kS20 ho20 hocp
     go_wp2_with fail
     intro nr
     obtain ⟨w22, hw22⟩ : ∃ W, W = (w20.setCell ⟨l, 3, none⟩ (.slice a' (en9 + 1) c')).drewN nr := ⟨_, rfl⟩
     have HL22 := Lib.hid (HNEW.out.no (show Kp No _ w22 from by rw [hw22]; exact (Kp.refl No _).drewN nr))
     rw [← hw22]
     clear hw22 hc20 hf20 hl20 kS e0 e3 e3f p16 hb016
     have hk22 : Kp G2 w9 w22 := HL22.out.kp
     have q1 : w22.cell? ⟨b0 + 1, 0, none⟩ = some (.int .i64 0) := (hk22.cell (p := ⟨b0 + 1, 0, none⟩) (by show b0 + 1 < _; omega) (HGN.out (b0 + 1) (by omega) (by omega))).trans HC9.out.2.1
     have q1f : w22.frozen? ⟨b0 + 1, 0, none⟩ = false := (hk22.frozen (p := ⟨b0 + 1, 0, none⟩) (by show b0 + 1 < _; omega) (HGN.out (b0 + 1) (by omega) (by omega))).trans HC9.out.2.2.1
     have q2 : w22.cell? ⟨b0 + 1 + 1, 0, none⟩ = some (.int .i64 0) := (hk22.cell (p := ⟨b0 + 1 + 1, 0, none⟩) (by show b0 + 1 + 1 < _; omega) (HGN.out (b0 + 1 + 1) (by omega) (by omega))).trans HC9.out.2.2.2.1
     have q2f : w22.frozen? ⟨b0 + 1 + 1, 0, none⟩ = false := (hk22.frozen (p := ⟨b0 + 1 + 1, 0, none⟩) (by show b0 + 1 + 1 < _; omega) (HGN.out (b0 + 1 + 1) (by omega) (by omega))).trans HC9.out.2.2.2.2.1
     have hb22 : b0 + 1 + 1 < w22.heap.size := by have := hk22.size; omega
     have HK22 := Lib.hid hk22
     clear hk22
     go_wp2_with fail
     have r1 : ((w22.setCell ⟨b0 + 1, 0, none⟩ (.int .i64 (k1 : Int))).setCell ⟨b0 + 1 + 1, 0, none⟩ (.int .i64 0)).cell? ⟨b0 + 1, 0, none⟩ = some (.int .i64 (k1 : Int)) := by
      have hk := (Kp.refl (One (b0 + 1 + 1)) (w22.setCell ⟨b0 + 1, 0, none⟩ (.int .i64 (k1 : Int)))).setCell (p := ⟨b0 + 1 + 1, 0, none⟩) (.inl rfl) (.int .i64 0)
      rw [hk.cell (p := ⟨b0 + 1, 0, none⟩) (by simp [World.setCell]; omega) (by show ¬ b0 + 1 = b0 + 1 + 1; omega)]
      simp [go_sem, q1]
     have r2 : ((w22.setCell ⟨b0 + 1, 0, none⟩ (.int .i64 (k1 : Int))).setCell ⟨b0 + 1 + 1, 0, none⟩ (.int .i64 0)).cell? ⟨b0 + 1 + 1, 0, none⟩ = some (.int .i64 0) := by
      have hk := (Kp.refl (One (b0 + 1)) w22).setCell (p := ⟨b0 + 1, 0, none⟩) (.inl rfl) (.int .i64 (k1 : Int))
      have h2 := (hk.cell (p := ⟨b0 + 1 + 1, 0, none⟩) hb22 (by show ¬ b0 + 1 + 1 = b0 + 1; omega)).trans q2
      simp [go_sem, h2]
     have k24 : Kp (fun i => i = b0 + 1 ∨ i = b0 + 1 + 1) w22 ((w22.setCell ⟨b0 + 1, 0, none⟩ (.int .i64 (k1 : Int))).setCell ⟨b0 + 1 + 1, 0, none⟩ (.int .i64 0)) :=
      ((Kp.refl (fun i => i = b0 + 1 ∨ i = b0 + 1 + 1) w22).setCell (p := ⟨b0 + 1, 0, none⟩) (.inl (.inl rfl)) _).setCell (p := ⟨b0 + 1 + 1, 0, none⟩) (.inl (.inr rfl)) _
     obtain ⟨w24, hw24⟩ : ∃ W, W = (w22.setCell ⟨b0 + 1, 0, none⟩ (.int .i64 (k1 : Int))).setCell ⟨b0 + 1 + 1, 0, none⟩ (.int .i64 0) := ⟨_, rfl⟩
     rw [← hw24] at r1 r2 k24 ⊢
     clear hw24
     have hap := app_go (p := p) HD.out HPL2.out HPR.out
     rw [HEK.out, ← HTO.out, ← HQ.out, if_pos (by rw [← HQE.out]; exact hz)] at hap
     have hadd : addS st1 p = { st1 with ents := st1.ents ++ [p], segs := S1 ++ [((z : Nat × Nat).1, (z : Nat × Nat).2 + fl)] } := by rw [add_old (show freshS st1 = false by unfold freshS; rw [HST.out.2]; exact HFR.out) (HST.out.2.trans HSG.out), HST.out.1, HEK.out, ← HFLE.out]
     obtain ⟨G3, hL3, hG3, hK3⟩ := HL22.out.stop
     have hW22 := HB.out.1.turnL hL3 hG3 hK3
     have h0 := HAW.out.b0w
     have hsz := HAW.out.size
     have hF2n : ∀ g, F2 g → ¬ (g = b0 + 1 ∨ g = b0 + 1 + 1) := fun g hg hb => by
      rcases HB.out.2.1 g hg with h1 | h1
      ·have := HFL.out g h1; omega
      ·omega
     have hG3n : ∀ g, G3 g → ¬ (g = b0 + 1 ∨ g = b0 + 1 + 1) := fun g hg hb => by
      rcases hG3 g hg with h1 | h1
      ·exact HGN.out g (by omega) (by omega) h1
      ·omega
     have hW24 : WAt w24 d l P q.2 _ F2 G3 := ⟨hW22.disk.keep k24 hF2n, hW22.log.keep k24 hG3n, hW22.sep⟩
     have hst : (⟨(E9 ++ [(⟨ca, cc, p⟩ : Row)]).map Row.data, S1 ++ [((z : Nat × Nat).1, v)], st1.synced, st1.dead⟩ : LSt) = addS st1 p := by
      rw [hadd, List.map_append, ← HB.out.2.2.2.2, HHV.out, HYB.out]
      rfl
     rw [hst] at hW24
     have hfin : SaidW w d l P F G q.2 (addS st1 p) w24 := by
      refine ⟨F2, G3, hW24, fun g hg => (HB.out.2.1 g hg).imp id fun h => Nat.le_trans HK2.out.size h, fun g hg => ?_, ?_⟩
      ·rcases hG3 g hg with h1 | h1
       ·exact (HB.out.2.2.1 g h1).imp id fun h => Nat.le_trans HK2.out.size h
       ·right; omega
      ·refine ((((Kp.of_no HK2.out).trans_same HB.out.2.2.2.1).trans (T := G2) HK22.out fun i hi hg => ?_).trans k24 fun i hi hb => by omega)
       rcases HB.out.2.2.1 i hg with h1 | h1
       ·exact .inr h1
       ·omega
     refine app_done r1 r2 _ rfl rfl _ ?_
     rw [hap]
     exact ⟨rfl, hfin⟩
end Go.Proofs.YtgnkmjeoaoongaaGreatDoor
namespace Go.Proofs.YtgnkmjeoaoongaaGreatDoor
open Go.RowKit Go.Mer
theorem SaidX.keep {w a b : World} {d l : Nat} {P : ByteArray} {F G : Nat → Prop} {s' : DSt} {st' : LSt} (h : SaidX w d l P F G s' st' a) (hk : Kp No a b) : SaidX w d l P F G s' st' b := by
 obtain ⟨F', G', h1, h2, h3, h4⟩ := h
 exact ⟨F', G', h1.no hk, h2, h3, h4.trans_no hk⟩
end Go.Proofs.YtgnkmjeoaoongaaGreatDoor
namespace Go.Proofs.YtgnkmjeoaoongaaGreatDoor
open Go.RowKit Go.Mer
end Go.Proofs.YtgnkmjeoaoongaaGreatDoor

