/-
  Texts laid together: SMore, SPut, Last, SPut2.
-/
import Derived.Test.YtgnkmjeoaoongaaGreatDoorSa4
import Derived.Test.YtgnkmjeoaoongaaGreatDoorSa3
import Derived.Test.YtgnkmjeoaoongaaGreatDoorSa1
namespace Go.Proofs.YtgnkmjeoaoongaaGreatDoor
open Go.RowKit Go.Mer
def KeptOk (o : Nat) (q : Int) (l : List RecS) : Prop := ∀ (i : Nat) (h : i < l.length), isR l[i] = true ∧ l[i].o = (o : Int) ∧ l[i].seq + ((l.length - 1 - i : Nat) : Int) = q
theorem KeptOk.tail {o : Nat} {q : Int} {x : RecS} {l : List RecS} (h : KeptOk o q (x :: l)) : KeptOk o q l := fun i hi => by
 have h1 := h (i + 1) (Nat.succ_lt_succ hi)
 simp only [List.getElem_cons_succ, List.length_cons] at h1
 refine ⟨h1.1, h1.2.1, ?_⟩
 have h2 := h1.2.2
 omega
theorem putI_iff {l : List VerS} (hs : ChS l) {v x : VerS} {i : Nat} (hx : l[i]? = some x) : vLt x v = true ↔ i < putI l v := by
 have hil := (List.getElem?_eq_some_iff.1 hx).1
 constructor
 ·intro h
  refine Decidable.byContradiction fun hn => ?_
  have h0 : l[putI l v]? = some l[putI l v] := List.getElem?_eq_getElem (by omega)
  have h1 := takeWhile_get (p := fun x => vLt x v) h0
  have h1 : vLt l[putI l v] v = false := h1
  rcases Nat.lt_or_ge (putI l v) i with hlt | hge
  ·have h2 := List.pairwise_iff_getElem.1 hs _ _ (by omega) hil hlt
   rw [(List.getElem?_eq_some_iff.1 hx).2] at h2
   rw [vLt_trans h2 h] at h1
   cases h1
  ·have e : putI l v = i := by omega
   simp only [e] at h1
   rw [(List.getElem?_eq_some_iff.1 hx).2, h] at h1
   cases h1
 ·intro h
  refine putI_below (l := l) (List.mem_of_getElem? (i := i) ?_)
  rw [List.getElem?_take_of_lt h]
  exact hx
theorem atC_none {l : List VerS} {m c : Int} : atC l m c = none ↔ uptoC l m c = 0 := by
 have := uptoC_le l m c
 unfold atC
 split
 ·next h => exact ⟨fun _ => h, fun _ => rfl⟩
 ·next h =>
  rw [List.getElem?_eq_none_iff]
  omega
end Go.Proofs.YtgnkmjeoaoongaaGreatDoor
namespace Go.Proofs.YtgnkmjeoaoongaaGreatDoor
open Go.RowKit Go.Mer
theorem ver_range {w : World} {a : Option Addr} {R : List VerR} (h : Rd w w.heap.size a (R.flatMap verC)) {k : Nat} (hk : k < R.length) :
  ∃ g off, a = some ⟨g, off, none⟩ ∧ g < w.heap.size ∧ ∀ W, Kp No w W → W.rangeAt g (off + k * 6) (verC R[k]) := by
 obtain ⟨g, off, ha, hc⟩ := rd_chunk (f := verC) verC_len (by decide) h hk
 obtain ⟨g', off', ha', hg', _⟩ := h (by rw [chunk_len verC 6 verC_len]; omega)
 rw [ha] at ha'
 injection ha' with ha'
 injection ha' with e1 e2
 exact ⟨g, off, ha, by rw [e1]; exact hg', fun W hW j u hu => hc W hW j u hu⟩
theorem ordZ_pos (a b : VerS) : 0 < ordZ a b ↔ vLt b a = true := by
 rw [vLt_iff]
 unfold ordZ ordF cmpH cmpI
 repeat' split
 all_goals omega
def SrcP (w : World) (n : Nat) (i : Nat) (b : Bool) (e : Ending) (w' : World) : Prop := e = .returned (.tuple #[.int .i64 (i : Int), .bool b]) ∧ Kp No w w'
set_option maxRecDepth 100000 in
set_option maxHeartbeats 1000000 in
theorem Search_any (w : World) (a : Option Addr) (cap : Nat) (R : List VerR) (hR : Rd w w.heap.size a (R.flatMap verC)) (hc : R.length ≤ cap) (hn : R.length ≤ 1000000) (hs : ChS (R.map VerR.v)) (x : VerR) :
  Calls Tryz.prog 190 #[.slice a R.length cap, verV x, .func (.func 191) #[] #[]] w (SrcP w R.length (putI (R.map VerR.v) x.v) (putHas (R.map VerR.v) x.v)) := by
 obtain ⟨p, hp⟩ : ∃ p, p = putI (R.map VerR.v) x.v := ⟨_, rfl⟩
 obtain ⟨bh, hbh⟩ : ∃ bh, bh = putHas (R.map VerR.v) x.v := ⟨_, rfl⟩
 have hpl : p ≤ R.length := by rw [hp]; have := putI_le (R.map VerR.v) x.v; rwa [List.length_map] at this
 have hlt : ∀ k (h : k < R.length), ordZ R[k].v x.v < 0 ↔ k < p := fun k h => by
  rw [ordZ_neg, hp]
  exact putI_iff hs (by rw [List.getElem?_map, List.getElem?_eq_getElem h]; rfl)
 have hat : bh = match (R.map VerR.v)[p]? with | some y => !vLt x.v y | none => false := by rw [hbh, hp]; rfl
 obtain ⟨n, hnR⟩ : ∃ n, n = R.length := ⟨_, rfl⟩
 rw [← hp, ← hbh, ← hnR]
 rw [← hnR] at hpl hc hn
 have HR := Lib.hid hR
 have HLT := Lib.hid hlt
 have HAT := Lib.hid hat
 have HN := Lib.hid hnR
 have HP := Lib.hid (And.intro hp hbh)
 have HS := Lib.hid hs
 clear hR hs hlt hat hnR hp hbh
 obtain ⟨w1, hw1⟩ : ∃ W, W = w.alloc (.cells (verC x).toArray 44) := ⟨_, rfl⟩
 have k1 : Kp No w w1 := by rw [hw1]; exact (Kp.refl _ _).alloc _
 have bx : w1.heap[w.heap.size]? = some (.cells (verC x).toArray 44 (0, 0)) := by rw [hw1]; exact heap_alloc_new w _
 have HX := Lib.hid (show ∀ W, Kp No w1 W → W.rangeAt w.heap.size 0 (verC x) from fun W hW => by have := rangeAt_block (hW.get bx fun x => x) 0 6; exact this)
 have HK1 := Lib.hid k1
 have hxl := get_lt bx
 have HXL := Lib.hid hxl
 have hw1' : w.alloc (.cells #[.int .i64 x.v.m, .int .i64 x.v.c, .int .i64 x.v.o, x.sl, .bool x.v.gone, .int .i64 x.v.ttl] 44) = w1 := hw1.symm
 have HRK := Lib.hid (show ∀ k (h : k < R.length), ∃ g off, a = some ⟨g, off, none⟩ ∧ g < w1.heap.size ∧ ∀ W, Kp No w1 W → W.rangeAt g (off + k * 6) (verC R[k]) from fun k h => by
  obtain ⟨g, off, h1, h2, h3⟩ := ver_range HR.out h
  exact ⟨g, off, h1, Nat.lt_of_lt_of_le h2 HK1.out.size, fun W hW => h3 W (HK1.out.trans_same hW)⟩)
 have HW1 := Lib.hid hw1'
 clear hw1 k1 bx hw1' HR hxl
 unfold verV verC
 go_enter Tryz.func190, Tryz.ntmps190
 go_wp2_with fail
 (try rw [HW1.out])
 go_loopw [9, 10] (fun s9 s10 wr => ∃ lo hi : Nat, s9 = .int .i64 lo ∧ s10 = .int .i64 hi ∧ lo ≤ p ∧ p ≤ hi ∧ hi ≤ n ∧ Hid (Kp No w1 wr)) (fun s9 s10 _ => (intOf s10).toNat - (intOf s9).toNat)
 case atStart => exact ⟨0, n, rfl, rfl, Nat.zero_le _, hpl, Nat.le_refl _, Lib.hid (Kp.refl _ _)⟩
 case round =>
  obtain ⟨lo, hi, rfl, rfl, hlp, hph, hhn, HK⟩ := hrel
  by_cases hlh : lo < hi
  ·obtain ⟨m, hm0⟩ : ∃ m, m = (lo + hi) / 2 := ⟨_, rfl⟩
   have hml : lo ≤ m := by omega
   have hmh : m < hi := by omega
   have hmn : m < n := by omega
   have hm : ((lo : Int) + (hi : Int)) / 2 = (m : Int) := by omega
   have hmR : m < R.length := by have := HN.out; omega
   obtain ⟨g, off, rfl, hgl, hgr⟩ := HRK.out m hmR
   have hlt := HLT.out m hmR
   obtain ⟨y, hy⟩ : ∃ y, y = R[m] := ⟨_, rfl⟩
   rw [← hy] at hgr hlt
   obtain ⟨z, hz⟩ : ∃ z, z = ordZ y.v x.v := ⟨_, rfl⟩
   have hcm := fun W => cOrder_any y x W
   rw [← hz] at hlt hcm
   have HGR := Lib.hid hgr
   have HCM := Lib.hid hcm
   have hgl' : g < wr.heap.size := HK.out.lt hgl
   have hxl' : w.heap.size < wr.heap.size := HK.out.lt HXL.out
   clear hm0 hmR hgr hcm hy hz hgl
   have hzz : (z < 0 ∧ m < p) ∨ (0 ≤ z ∧ p ≤ m) := by omega
   clear hlt
   rcases hzz with ⟨hz1, hz2⟩ | ⟨hz1, hz2⟩
   ·have hd : decide (z < 0) = true := decide_eq_true hz1
    go_upto_region 5 with fail
    refine wp_region_held' (Kp No _) [0,0,0,0,0,0,2,0] [0,1,2,3,4,5,6,7] (by kernel_rfl) (by kernel_rfl) (fun _ n h => h.drewN n) (Kp.refl _ _) ?_
    repeat (first
     | (apply wpOrd_skip rfl (by decide) rfl; (focus (go_simp; rfl)))
     | (apply wpOrd_pure rfl rfl rfl; (focus (intro _ _; go_simp; (try go_ints); rfl)); (focus (go_simp; rfl)))
     | (apply wpOrd_read rfl rfl rfl; (focus (intro _; go_simp; (try go_ints); rfl)); (focus (go_simp; rfl))))
    apply wpOrd_pure rfl rfl rfl
    ·intro W hW
     exact exec_load_w 44 _ rfl g (off + m * 6) rfl (verC y) _ (HGR.out W (HK.out.trans_same hW)) Tryz.underlying44 rfl (by kernel_rfl)
    ·(focus (go_simp; rfl))
    apply wpOrd_pure rfl rfl rfl
    ·intro W hW
     exact exec_load_w 44 _ rfl w.heap.size 0 rfl (verC x) _ (HX.out W (HK.out.trans_same hW)) Tryz.underlying44 rfl (by kernel_rfl)
    ·(focus (go_simp; rfl))
    refine wpOrd_eff rfl rfl (fun q => ?_)
    go_wp2_with fail
    refine (HCM.out _).mono ?_
    rintro e w2 ⟨rfl, hk2⟩
    go_wp2_with fail
    refine ⟨hk2.of_drewN, ?_⟩
    repeat (first
     | (apply wpOrd_skip rfl (by decide) rfl; (focus (go_simp; rfl)))
     | (apply wpOrd_pure rfl rfl rfl; (focus (intro _ _; go_simp; (try go_ints); rfl)); (focus (go_simp; rfl)))
     | (apply wpOrd_read rfl rfl rfl; (focus (intro _; go_simp; (try go_ints); rfl)); (focus (go_simp; rfl))))
    refine wpOrd_nil (fun nq => ?_)
    have HK2 := Lib.hid ((HK.out.trans_same hk2.of_drewN).drewN nq)
    clear hk2
    go_wp2_with fail
    go_roundw
    case rel => exact ⟨m + 1, hi, by go_num, rfl, by omega, hph, hhn, HK2⟩
    case measure => simp [intOf]; omega
   ·have hd : decide (z < 0) = false := decide_eq_false (by omega)
    go_upto_region 5 with fail
    refine wp_region_held' (Kp No _) [0,0,0,0,0,0,2,0] [0,1,2,3,4,5,6,7] (by kernel_rfl) (by kernel_rfl) (fun _ n h => h.drewN n) (Kp.refl _ _) ?_
    repeat (first
     | (apply wpOrd_skip rfl (by decide) rfl; (focus (go_simp; rfl)))
     | (apply wpOrd_pure rfl rfl rfl; (focus (intro _ _; go_simp; (try go_ints); rfl)); (focus (go_simp; rfl)))
     | (apply wpOrd_read rfl rfl rfl; (focus (intro _; go_simp; (try go_ints); rfl)); (focus (go_simp; rfl))))
    apply wpOrd_pure rfl rfl rfl
    ·intro W hW
     exact exec_load_w 44 _ rfl g (off + m * 6) rfl (verC y) _ (HGR.out W (HK.out.trans_same hW)) Tryz.underlying44 rfl (by kernel_rfl)
    ·(focus (go_simp; rfl))
    apply wpOrd_pure rfl rfl rfl
    ·intro W hW
     exact exec_load_w 44 _ rfl w.heap.size 0 rfl (verC x) _ (HX.out W (HK.out.trans_same hW)) Tryz.underlying44 rfl (by kernel_rfl)
    ·(focus (go_simp; rfl))
    refine wpOrd_eff rfl rfl (fun q => ?_)
    go_wp2_with fail
    refine (HCM.out _).mono ?_
    rintro e w2 ⟨rfl, hk2⟩
    go_wp2_with fail
    refine ⟨hk2.of_drewN, ?_⟩
    repeat (first
     | (apply wpOrd_skip rfl (by decide) rfl; (focus (go_simp; rfl)))
     | (apply wpOrd_pure rfl rfl rfl; (focus (intro _ _; go_simp; (try go_ints); rfl)); (focus (go_simp; rfl)))
     | (apply wpOrd_read rfl rfl rfl; (focus (intro _; go_simp; (try go_ints); rfl)); (focus (go_simp; rfl))))
    refine wpOrd_nil (fun nq => ?_)
    have HK2 := Lib.hid ((HK.out.trans_same hk2.of_drewN).drewN nq)
    clear hk2
    go_wp2_with fail
    go_roundw
    case rel => exact ⟨lo, m, rfl, rfl, hlp, hz2, by omega, HK2⟩
    case measure => simp [intOf]; omega
  ·have hlo : lo = p := by omega
   subst hlo
   rcases Nat.lt_or_ge lo n with hln | hln
   ·have hmR : lo < R.length := by have := HN.out; omega
    obtain ⟨g, off, rfl, hgl, hgr⟩ := HRK.out lo hmR
    have hlt := HLT.out lo hmR
    have hat := HAT.out
    rw [List.getElem?_map, List.getElem?_eq_getElem hmR] at hat
    simp only [Option.map_some] at hat
    obtain ⟨y, hy⟩ : ∃ y, y = R[lo] := ⟨_, rfl⟩
    rw [← hy] at hgr hlt hat
    have hpos := ordZ_pos y.v x.v
    obtain ⟨z, hz⟩ : ∃ z, z = ordZ y.v x.v := ⟨_, rfl⟩
    have hcm := fun W => cOrder_any y x W
    rw [← hz] at hlt hcm hpos
    have HGR := Lib.hid hgr
    have HCM := Lib.hid hcm
    have hgl' : g < wr.heap.size := HK.out.lt hgl
    have hxl' : w.heap.size < wr.heap.size := HK.out.lt HXL.out
    have hzz : (z = 0 ∧ bh = true) ∨ (0 < z ∧ bh = false) := by
     rcases Int.lt_trichotomy z 0 with h | h | h
     ·exact absurd (hlt.1 h) (Nat.lt_irrefl _)
     ·left
      refine ⟨h, ?_⟩
      have : vLt x.v y.v = false := by
       cases hv : vLt x.v y.v with
       | false => rfl
       | true => have := hpos.2 hv; omega
      rw [hat, this]
      rfl
     ·right
      refine ⟨h, ?_⟩
      rw [hat, hpos.1 h]
      rfl
    clear hmR hgr hcm hy hz hgl hlt hat hpos
    rcases hzz with ⟨hz1, hz2⟩ | ⟨hz1, hz2⟩
    ·have hd : (z == 0) = true := by rw [beq_iff_eq]; exact hz1
     have HB := Lib.hid hz2
     clear hz1 hz2
     go_upto_region 8 with fail
     refine wp_region_held' (Kp No _) [0,0,0,0,0,0,0,0,0,0,0,2,0,0,0,0] [0,1,2,3,4,5,6,7,8,9,10,11,12,13,14,15] (by kernel_rfl) (by kernel_rfl) (fun _ n h => h.drewN n) (Kp.refl _ _) ?_
     repeat (first
      | (apply wpOrd_skip rfl (by decide) rfl; (focus (go_simp; rfl)))
      | (apply wpOrd_pure rfl rfl rfl; (focus (intro _ _; go_simp; (try go_ints); rfl)); (focus (go_simp; rfl)))
      | (apply wpOrd_read rfl rfl rfl; (focus (intro _; go_simp; (try go_ints); rfl)); (focus (go_simp; rfl))))
     apply wpOrd_pure rfl rfl rfl
     ·intro W hW
      exact exec_load_w 44 _ rfl g (off + lo * 6) rfl (verC y) _ (HGR.out W (HK.out.trans_same hW)) Tryz.underlying44 rfl (by kernel_rfl)
     ·(focus (go_simp; rfl))
     apply wpOrd_pure rfl rfl rfl
     ·intro W hW
      exact exec_load_w 44 _ rfl w.heap.size 0 rfl (verC x) _ (HX.out W (HK.out.trans_same hW)) Tryz.underlying44 rfl (by kernel_rfl)
     ·(focus (go_simp; rfl))
     refine wpOrd_eff rfl rfl (fun q => ?_)
     go_wp2_with fail
     refine (HCM.out _).mono ?_
     rintro e w2 ⟨rfl, hk2⟩
     go_wp2_with fail
     refine ⟨hk2.of_drewN, ?_⟩
     repeat (first
      | (apply wpOrd_skip rfl (by decide) rfl; (focus (go_simp; rfl)))
      | (apply wpOrd_pure rfl rfl rfl; (focus (intro _ _; go_simp; (try go_ints); rfl)); (focus (go_simp; rfl)))
      | (apply wpOrd_read rfl rfl rfl; (focus (intro _; go_simp; (try go_ints); rfl)); (focus (go_simp; rfl))))
     refine wpOrd_nil (fun nq => ?_)
     have HK2 := Lib.hid ((HK1.out.trans_same (HK.out.trans_same hk2.of_drewN)).drewN nq)
     clear hk2
     go_wp2_with fail
     go_ret2
     exact ⟨by rw [HB.out]; rfl, HK2.out⟩
    ·have hd : (z == 0) = false := by rw [beq_eq_false_iff_ne]; omega
     have HB := Lib.hid hz2
     clear hz1 hz2
     go_upto_region 8 with fail
     refine wp_region_held' (Kp No _) [0,0,0,0,0,0,0,0,0,0,0,2,0,0,0,0] [0,1,2,3,4,5,6,7,8,9,10,11,12,13,14,15] (by kernel_rfl) (by kernel_rfl) (fun _ n h => h.drewN n) (Kp.refl _ _) ?_
     repeat (first
      | (apply wpOrd_skip rfl (by decide) rfl; (focus (go_simp; rfl)))
      | (apply wpOrd_pure rfl rfl rfl; (focus (intro _ _; go_simp; (try go_ints); rfl)); (focus (go_simp; rfl)))
      | (apply wpOrd_read rfl rfl rfl; (focus (intro _; go_simp; (try go_ints); rfl)); (focus (go_simp; rfl))))
     apply wpOrd_pure rfl rfl rfl
     ·intro W hW
      exact exec_load_w 44 _ rfl g (off + lo * 6) rfl (verC y) _ (HGR.out W (HK.out.trans_same hW)) Tryz.underlying44 rfl (by kernel_rfl)
     ·(focus (go_simp; rfl))
     apply wpOrd_pure rfl rfl rfl
     ·intro W hW
      exact exec_load_w 44 _ rfl w.heap.size 0 rfl (verC x) _ (HX.out W (HK.out.trans_same hW)) Tryz.underlying44 rfl (by kernel_rfl)
     ·(focus (go_simp; rfl))
     refine wpOrd_eff rfl rfl (fun q => ?_)
     go_wp2_with fail
     refine (HCM.out _).mono ?_
     rintro e w2 ⟨rfl, hk2⟩
     go_wp2_with fail
     refine ⟨hk2.of_drewN, ?_⟩
     repeat (first
      | (apply wpOrd_skip rfl (by decide) rfl; (focus (go_simp; rfl)))
      | (apply wpOrd_pure rfl rfl rfl; (focus (intro _ _; go_simp; (try go_ints); rfl)); (focus (go_simp; rfl)))
      | (apply wpOrd_read rfl rfl rfl; (focus (intro _; go_simp; (try go_ints); rfl)); (focus (go_simp; rfl))))
     refine wpOrd_nil (fun nq => ?_)
     have HK2 := Lib.hid ((HK1.out.trans_same (HK.out.trans_same hk2.of_drewN)).drewN nq)
     clear hk2
     go_wp2_with fail
     go_ret2
     exact ⟨by rw [HB.out]; rfl, HK2.out⟩
   ·obtain rfl : n = lo := by omega
    have hb : bh = false := by
     have hat := HAT.out
     rw [List.getElem?_eq_none (by rw [List.length_map, ← HN.out]; exact Nat.le_refl _)] at hat
     exact hat
    have HB := Lib.hid hb
    clear hb hlp
    go_upto_region 8 with fail
    refine wp_region_held' (Kp No _) [0,0,0,0,0,0,0,0,0,0,0,2,0,0,0,0] [0,1,2,3,4,5,6,7,8,9,10,11,12,13,14,15] (by kernel_rfl) (by kernel_rfl) (fun _ n h => h.drewN n) (Kp.refl _ _) ?_
    repeat (first
     | (apply wpOrd_skip rfl (by decide) rfl; (focus (go_simp; rfl)))
     | (apply wpOrd_pure rfl rfl rfl; (focus (intro _ _; go_simp; (try go_ints); rfl)); (focus (go_simp; rfl)))
     | (apply wpOrd_read rfl rfl rfl; (focus (intro _; go_simp; (try go_ints); rfl)); (focus (go_simp; rfl))))
    refine wpOrd_shutw rfl rfl (by rfl) rfl (fun q => ⟨(Kp.refl _ _).drewN q, ?_⟩)
    repeat (first
     | (apply wpOrd_skip rfl (by decide) rfl; (focus (go_simp; rfl)))
     | (apply wpOrd_pure rfl rfl rfl; (focus (intro _ _; go_simp; (try go_ints); rfl)); (focus (go_simp; rfl)))
     | (apply wpOrd_read rfl rfl rfl; (focus (intro _; go_simp; (try go_ints); rfl)); (focus (go_simp; rfl))))
    refine wpOrd_nil (fun nq => ?_)
    go_wp2_with fail
    go_ret2
    exact ⟨by rw [HB.out]; rfl, ((HK1.out.trans_same HK.out).drewN _).drewN _⟩
end Go.Proofs.YtgnkmjeoaoongaaGreatDoor
namespace Go.Mer
open Go
def WaitsFor (ops : Array Oper) (z i : Nat) : Prop := ∀ o, ops[z]? = some o → ∃ e ∈ o.after, Region.binds .any e = true ∧ e.on = i
def waitsB (ops : Array Oper) (z i : Nat) : Bool := match ops[z]? with
 | some o => o.after.any fun e => Region.binds .any e && e.on == i
 | none => true
theorem waitsB_spec {ops : Array Oper} {z i : Nat} (h : waitsB ops z i = true) : WaitsFor ops z i := fun o ho => by
 unfold waitsB at h
 rw [ho] at h
 obtain ⟨e, he, hb⟩ := Array.any_eq_true'.1 h
 simp only [Bool.and_eq_true, beq_iff_eq] at hb
 exact ⟨e, he, hb.1, hb.2⟩
theorem push_fold (f : Array Bool → Nat → Bool) : ∀ (l : List Nat) (acc : Array Bool), (l.foldl (fun acc j => acc.push (f acc j)) acc).size = acc.size + l.length
 | [], acc => by simp
 | x :: l, acc => by
  rw [List.foldl_cons, push_fold f l, Array.size_push, List.length_cons]
  omega
theorem depsOn_size (ops : Array Oper) (i : Nat) : (depsOn ops i).size = ops.size := by
 have h := push_fold (fun acc j => match ops[j]? with
  | some o => o.after.any fun e => Region.binds .any e && (e.on == i || acc.getD e.on false)
  | none => false) (List.range ops.size) #[]
 simp only [List.length_range, List.size_toArray, List.length_nil, Nat.zero_add] at h
 exact h
section
variable {P : Program} {ops : Array Oper} {Q : Exit → Act → World → Prop} {S : World → Prop} {ks : List Nat} {z : Nat}
def anyL (P : Program) (ops : Array Oper) (ks : List Nat) (z : Nat) (S : World → Prop) (Q : Exit → Act → World → Prop) : Nat → Array Bool → Act → World → Prop
 | 0, listed, a, w => Region.ready .any ops listed = [] ∧ ∀ n, Q .normal a (w.drewN n)
 | fuel + 1, listed, a, w =>
  (Region.ready .any ops listed = [] → ∀ n, Q .normal a (w.drewN n)) ∧
  ∀ i ∈ Region.ready .any ops listed, ∀ o, ops[i]? = some o →
   if ks.getD i 2 = 2 then ∀ n, wpOp P ops Q i (fun a' w' => (i = z ∨ S w') ∧ anyL P ops ks z S Q fuel (listed.setIfInBounds i true) a' w') a (w.drewN n)
   else ∃ v, YieldsIn P ops (Dr w) o v a ∧ anyL P ops ks z S Q fuel (listed.setIfInBounds i true) (a.put o.dst v) w
theorem wpAny_of_anyL : ∀ (fuel : Nat) (listed : Array Bool) (a : Act) (w : World) (n : Nat), anyL P ops ks z S Q fuel listed a w → wpAny P .any ops Q fuel listed a (w.drewN n)
 | 0, _, _, _, n, h => ⟨h.1, h.2 n⟩
 | fuel + 1, listed, a, w, n, h => by
  refine ⟨fun h0 => h.1 h0 n, fun i hi => ?_⟩
  obtain ⟨_, o, ho, _⟩ := mem_ready.1 hi
  have h2 := h.2 i hi o ho
  split at h2
  ·exact wpOp_mono (fun a w hh => wpAny_of_anyL fuel _ a w 0 hh.2) (h2 n)
  ·obtain ⟨v, hy, hk⟩ := h2
   exact wpOp_of_qOp (C := Dr w) (K := fun a => anyL P ops ks z S Q fuel (listed.setIfInBounds i true) a w) ⟨n, rfl⟩ (fun a' w' ⟨m, hw'⟩ hh => by subst hw'; exact wpAny_of_anyL fuel _ a' w m hh) (hy.qOp ho hk)
theorem anyL_held {i : Nat} {oi : Oper} {v : Value} (hz : WaitsFor ops z i) (hSd : ∀ w n, S w → S (w.drewN n)) (hi : ops[i]? = some oi) (hki : ks.getD i 2 ≠ 2) (hsel : ∀ (j : Nat) (o : Oper) cs b, ops[j]? = some o → o.op ≠ .select cs b)
  (hQ : ∀ c a w, Q (.panic c) (a.put oi.dst v) w → Q (.panic c) a w) :
  ∀ (fuel : Nat) (listed : Array Bool) (a : Act) (w : World), S w →
   (∀ j oj, ops[j]? = some oj → j ≠ i → listed.getD j true = false → (∀ e ∈ oj.after, Region.binds .any e = true → e.on ≠ i) → oi.apart ops oj = true) →
   i ∈ Region.ready .any ops listed → YieldsIf P ops S oi v a →
   anyL P ops ks z S Q fuel (listed.setIfInBounds i true) (a.put oi.dst v) w → anyL P ops ks z S Q (fuel + 1) listed a w := by
 intro fuel
 induction fuel with
 | zero =>
  intro listed a w hS _ hr hy H
  refine ⟨fun h => (by rw [h] at hr; cases hr), fun j hj o ho => ?_⟩
  by_cases hji : j = i
  ·subst hji
   rw [hi] at ho; injection ho with ho; subst ho
   rw [if_neg hki]
   exact ⟨v, yieldsIn_of_if (fun n => hSd w n hS) hy, H⟩
  ·have := ready_mono hj hji
   rw [H.1] at this
   cases this
 | succ fuel ih =>
  intro listed a w hS hfree hr hy H
  refine ⟨fun h => (by rw [h] at hr; cases hr), fun j hj o ho => ?_⟩
  by_cases hji : j = i
  ·subst hji
   rw [hi] at ho; injection ho with ho; subst ho
   rw [if_neg hki]
   exact ⟨v, yieldsIn_of_if (fun n => hSd w n hS) hy, H⟩
  ·have h1 := H.2 j (ready_mono hj hji) o ho
   obtain ⟨hjun, oj, hoj, hall⟩ := mem_ready.1 hj
   rw [ho] at hoj; injection hoj with hoj; subst hoj
   have hnot : ∀ e ∈ o.after, Region.binds .any e = true → e.on ≠ i := fun e he hb heq => by
    have h1 := hall e he hb
    have h0 := (mem_ready.1 hr).1
    rw [heq] at h1
    rcases Nat.lt_or_ge i listed.size with h' | h'
    ·simp [h'] at h0 h1; rw [h0] at h1; cases h1
    ·simp [Array.getElem?_eq_none h'] at h1
   have hjz : j ≠ z := fun e => by
    subst e
    obtain ⟨e, he, hb, hon⟩ := hz o ho
    exact hnot e he hb hon
   have hap := hfree j o ho hji hjun hnot
   have hfree' : ∀ k ok, ops[k]? = some ok → k ≠ i → (listed.setIfInBounds j true).getD k true = false →
     (∀ e ∈ ok.after, Region.binds .any e = true → e.on ≠ i) → oi.apart ops ok = true := fun k ok hk hki hun hno => by
    refine hfree k ok hk hki ?_ hno
    by_cases hjk : j = k
    ·subst hjk; exact hjun
    ·rw [getD_set_ne true hjk] at hun; exact hun
   have hcm : (listed.setIfInBounds i true).setIfInBounds j true = (listed.setIfInBounds j true).setIfInBounds i true := Array.setIfInBounds_comm _ _ (fun e => hji e.symm)
   by_cases hk2 : ks.getD j 2 = 2
   ·rw [if_pos hk2] at h1 ⊢
    intro n
    have h2 := wpOp_putIf ho hap (fun cs b => hsel i oi cs b hi) (fun cs b => hsel j o cs b ho) hQ hy (h1 n)
    refine wpOp_mono (fun a' w' h3 => ⟨h3.2.1, ih (listed.setIfInBounds j true) a' w' (h3.2.1.resolve_left hjz) hfree' (ready_mono hr (Ne.symm hji)) h3.1 ?_⟩) h2
    rw [← hcm]
    exact h3.2.2
   ·rw [if_neg hk2] at h1 ⊢
    obtain ⟨u, hu, hK⟩ := h1
    obtain ⟨a1, a2, a3⟩ := Oper.apart_spec hap
    refine ⟨u, hu.of_same (execOp_put o (fun cs b => hsel j o cs b ho) a oi.dst v a1).symm (wanted_put o a oi.dst v a1).symm, ?_⟩
    refine ih (listed.setIfInBounds j true) _ w hS hfree' (ready_mono hr (Ne.symm hji))
     (hy.of_same (execOp_put oi (fun cs b => hsel i oi cs b hi) a o.dst u a3) (wanted_put oi a o.dst u a3)) ?_
    rw [← hcm, ← Act.put_comm a v u a2]
    exact hK
theorem anyL_held2 {i : Nat} {oi : Oper} {v : Value} {dep : Array Bool} (hz : dep.getD z false = true) (hSd : ∀ w n, S w → S (w.drewN n)) (hi : ops[i]? = some oi) (hki : ks.getD i 2 ≠ 2) (hsel : ∀ (j : Nat) (o : Oper) cs b, ops[j]? = some o → o.op ≠ .select cs b)
  (hQ : ∀ c a w, Q (.panic c) (a.put oi.dst v) w → Q (.panic c) a w) :
  ∀ (fuel : Nat) (listed : Array Bool) (a : Act) (w : World), S w →
   (∀ j oj, ops[j]? = some oj → j ≠ i → listed.getD j true = false → (∀ e ∈ oj.after, Region.binds .any e = true → e.on ≠ i) → oi.apart ops oj = true) →
   (∀ j, dep.getD j false = true → j ≠ i ∧ listed.getD j true = false ∧ ∃ o, ops[j]? = some o ∧ ∃ e ∈ o.after, Region.binds .any e = true ∧ (e.on = i ∨ dep.getD e.on false = true)) →
   i ∈ Region.ready .any ops listed → YieldsIf P ops S oi v a →
   anyL P ops ks z S Q fuel (listed.setIfInBounds i true) (a.put oi.dst v) w → anyL P ops ks z S Q (fuel + 1) listed a w := by
 intro fuel
 induction fuel with
 | zero =>
  intro listed a w hS _ _ hr hy H
  refine ⟨fun h => (by rw [h] at hr; cases hr), fun j hj o ho => ?_⟩
  by_cases hji : j = i
  ·subst hji
   rw [hi] at ho; injection ho with ho; subst ho
   rw [if_neg hki]
   exact ⟨v, yieldsIn_of_if (fun n => hSd w n hS) hy, H⟩
  ·have := ready_mono hj hji
   rw [H.1] at this
   cases this
 | succ fuel ih =>
  intro listed a w hS hfree hdep hr hy H
  refine ⟨fun h => (by rw [h] at hr; cases hr), fun j hj o ho => ?_⟩
  by_cases hji : j = i
  ·subst hji
   rw [hi] at ho; injection ho with ho; subst ho
   rw [if_neg hki]
   exact ⟨v, yieldsIn_of_if (fun n => hSd w n hS) hy, H⟩
  ·have h1 := H.2 j (ready_mono hj hji) o ho
   obtain ⟨hjun, oj, hoj, hall⟩ := mem_ready.1 hj
   rw [ho] at hoj; injection hoj with hoj; subst hoj
   have hnot : ∀ e ∈ o.after, Region.binds .any e = true → e.on ≠ i := fun e he hb heq => by
    have h1 := hall e he hb
    have h0 := (mem_ready.1 hr).1
    rw [heq] at h1
    rcases Nat.lt_or_ge i listed.size with h' | h'
    ·simp [h'] at h0 h1; rw [h0] at h1; cases h1
    ·simp [Array.getElem?_eq_none h'] at h1
   have unl : ∀ k, listed.getD k true = false → listed.getD k false = true → False := fun k h0 h1 => by
    rcases Nat.lt_or_ge k listed.size with h' | h'
    ·simp [h'] at h0 h1; rw [h0] at h1; cases h1
    ·simp [Array.getElem?_eq_none h'] at h1
   have hnd : dep.getD j false = false := by
    cases hd : dep.getD j false with
    | false => rfl
    | true =>
     obtain ⟨_, _, o', ho', e, he, hb, h⟩ := hdep j hd
     rw [ho] at ho'; injection ho' with ho'; subst ho'
     rcases h with h | h
     ·exact absurd h (hnot e he hb)
     ·exact (unl e.on (hdep e.on h).2.1 (hall e he hb)).elim
   have hjz : j ≠ z := fun e => by
    subst e
    rw [hz] at hnd
    cases hnd
   have hdep' : ∀ k, dep.getD k false = true → k ≠ i ∧ (listed.setIfInBounds j true).getD k true = false ∧ ∃ o, ops[k]? = some o ∧ ∃ e ∈ o.after, Region.binds .any e = true ∧ (e.on = i ∨ dep.getD e.on false = true) := fun k hk => by
    obtain ⟨k1, k2, k3⟩ := hdep k hk
    refine ⟨k1, ?_, k3⟩
    rw [getD_set_ne true (fun e => by subst e; rw [hnd] at hk; cases hk)]
    exact k2
   have hap := hfree j o ho hji hjun hnot
   have hfree' : ∀ k ok, ops[k]? = some ok → k ≠ i → (listed.setIfInBounds j true).getD k true = false →
     (∀ e ∈ ok.after, Region.binds .any e = true → e.on ≠ i) → oi.apart ops ok = true := fun k ok hk hki hun hno => by
    refine hfree k ok hk hki ?_ hno
    by_cases hjk : j = k
    ·subst hjk; exact hjun
    ·rw [getD_set_ne true hjk] at hun; exact hun
   have hcm : (listed.setIfInBounds i true).setIfInBounds j true = (listed.setIfInBounds j true).setIfInBounds i true := Array.setIfInBounds_comm _ _ (fun e => hji e.symm)
   by_cases hk2 : ks.getD j 2 = 2
   ·rw [if_pos hk2] at h1 ⊢
    intro n
    have h2 := wpOp_putIf ho hap (fun cs b => hsel i oi cs b hi) (fun cs b => hsel j o cs b ho) hQ hy (h1 n)
    refine wpOp_mono (fun a' w' h3 => ⟨h3.2.1, ih (listed.setIfInBounds j true) a' w' (h3.2.1.resolve_left hjz) hfree' hdep' (ready_mono hr (Ne.symm hji)) h3.1 ?_⟩) h2
    rw [← hcm]
    exact h3.2.2
   ·rw [if_neg hk2] at h1 ⊢
    obtain ⟨u, hu, hK⟩ := h1
    obtain ⟨a1, a2, a3⟩ := Oper.apart_spec hap
    refine ⟨u, hu.of_same (execOp_put o (fun cs b => hsel j o cs b ho) a oi.dst v a1).symm (wanted_put o a oi.dst v a1).symm, ?_⟩
    refine ih (listed.setIfInBounds j true) _ w hS hfree' hdep' (ready_mono hr (Ne.symm hji))
     (hy.of_same (execOp_put oi (fun cs b => hsel i oi cs b hi) a o.dst u a3) (wanted_put oi a o.dst u a3)) ?_
    rw [← hcm, ← Act.put_comm a v u a2]
    exact hK
theorem anyL_quiet {w : World} {i : Nat} {oi : Oper} {v : Value} {dep : Array Bool} (hi : ops[i]? = some oi) (hki : ks.getD i 2 ≠ 2) (hsel : ∀ (j : Nat) (o : Oper) cs b, ops[j]? = some o → o.op ≠ .select cs b) :
  ∀ (fuel : Nat) (listed : Array Bool) (a : Act),
   (∀ j oj, ops[j]? = some oj → j ≠ i → listed.getD j true = false → (∀ e ∈ oj.after, Region.binds .any e = true → e.on ≠ i) → oi.apart ops oj = true) →
   (∀ j, dep.getD j false = true → j ≠ i ∧ listed.getD j true = false ∧ ∃ o, ops[j]? = some o ∧ ∃ e ∈ o.after, Region.binds .any e = true ∧ (e.on = i ∨ dep.getD e.on false = true)) →
   (∀ j oj, ops[j]? = some oj → dep.getD j false = false → j ≠ i → listed.getD j true = false → ks.getD j 2 ≠ 2) →
   i ∈ Region.ready .any ops listed → YieldsIn P ops (Dr w) oi v a →
   anyL P ops ks z S Q fuel (listed.setIfInBounds i true) (a.put oi.dst v) w → anyL P ops ks z S Q (fuel + 1) listed a w := by
 intro fuel
 induction fuel with
 | zero =>
  intro listed a _ _ _ hr hy H
  refine ⟨fun h => (by rw [h] at hr; cases hr), fun j hj o ho => ?_⟩
  by_cases hji : j = i
  ·subst hji
   rw [hi] at ho; injection ho with ho; subst ho
   rw [if_neg hki]
   exact ⟨v, hy, H⟩
  ·have := ready_mono hj hji
   rw [H.1] at this
   cases this
 | succ fuel ih =>
  intro listed a hfree hdep hkind hr hy H
  refine ⟨fun h => (by rw [h] at hr; cases hr), fun j hj o ho => ?_⟩
  by_cases hji : j = i
  ·subst hji
   rw [hi] at ho; injection ho with ho; subst ho
   rw [if_neg hki]
   exact ⟨v, hy, H⟩
  ·have h1 := H.2 j (ready_mono hj hji) o ho
   obtain ⟨hjun, oj, hoj, hall⟩ := mem_ready.1 hj
   rw [ho] at hoj; injection hoj with hoj; subst hoj
   have unl : ∀ k, listed.getD k true = false → listed.getD k false = true → False := fun k h0 h1 => by
    rcases Nat.lt_or_ge k listed.size with h' | h'
    ·simp [h'] at h0 h1; rw [h0] at h1; cases h1
    ·simp [Array.getElem?_eq_none h'] at h1
   have hnot : ∀ e ∈ o.after, Region.binds .any e = true → e.on ≠ i := fun e he hb heq =>
    unl i (mem_ready.1 hr).1 (heq ▸ hall e he hb)
   have hnd : dep.getD j false = false := by
    cases hd : dep.getD j false with
    | false => rfl
    | true =>
     obtain ⟨_, _, o', ho', e, he, hb, h⟩ := hdep j hd
     rw [ho] at ho'; injection ho' with ho'; subst ho'
     rcases h with h | h
     ·exact absurd h (hnot e he hb)
     ·exact (unl e.on (hdep e.on h).2.1 (hall e he hb)).elim
   have hap := hfree j o ho hji hjun hnot
   have hset : ∀ k, (listed.setIfInBounds j true).getD k true = false → listed.getD k true = false := fun k hun => by
    by_cases hjk : j = k
    ·subst hjk; exact hjun
    ·rw [getD_set_ne true hjk] at hun; exact hun
   have hfree' : ∀ k ok, ops[k]? = some ok → k ≠ i → (listed.setIfInBounds j true).getD k true = false →
     (∀ e ∈ ok.after, Region.binds .any e = true → e.on ≠ i) → oi.apart ops ok = true := fun k ok hk hki hun hno => hfree k ok hk hki (hset k hun) hno
   have hcm : (listed.setIfInBounds i true).setIfInBounds j true = (listed.setIfInBounds j true).setIfInBounds i true := Array.setIfInBounds_comm _ _ (fun e => hji e.symm)
   have hk2 := hkind j o ho hnd hji hjun
   rw [if_neg hk2] at h1 ⊢
   obtain ⟨u, hu, hK⟩ := h1
   obtain ⟨a1, a2, a3⟩ := Oper.apart_spec hap
   refine ⟨u, hu.of_same (execOp_put o (fun cs b => hsel j o cs b ho) a oi.dst v a1).symm (wanted_put o a oi.dst v a1).symm, ?_⟩
   refine ih (listed.setIfInBounds j true) _ hfree' (fun k hk => ?_) (fun k ok hk h1 h2 h3 => hkind k ok hk h1 h2 (hset k h3)) (ready_mono hr (Ne.symm hji))
    (hy.of_same (execOp_put oi (fun cs b => hsel i oi cs b hi) a o.dst u a3) (wanted_put oi a o.dst u a3)) ?_
   ·obtain ⟨k1, k2, k3⟩ := hdep k hk
    refine ⟨k1, ?_, k3⟩
    rw [getD_set_ne true (fun e => by subst e; rw [hnd] at hk; cases hk)]
    exact k2
   ·rw [← hcm, ← Act.put_comm a v u a2]
    exact hK
def depsHold (ops : Array Oper) (listed dep : Array Bool) (i z : Nat) : Bool :=
 dep.getD z false && (List.range ops.size).all fun j =>
  !dep.getD j false || (j != i && !listed.getD j true && match ops[j]? with
   | some o => o.after.any fun e => Region.binds .any e && (e.on == i || dep.getD e.on false)
   | none => false)
theorem depsHold_spec {listed : Array Bool} {i : Nat} (hk : depsHold ops listed (depsOn ops i) i z = true) : (depsOn ops i).getD z false = true ∧
  ∀ j, (depsOn ops i).getD j false = true → j ≠ i ∧ listed.getD j true = false ∧ ∃ o, ops[j]? = some o ∧ ∃ e ∈ o.after, Region.binds .any e = true ∧ (e.on = i ∨ (depsOn ops i).getD e.on false = true) := by
 simp only [depsHold, Bool.and_eq_true, List.all_eq_true, List.mem_range] at hk
 refine ⟨hk.1, fun j hj => ?_⟩
 have hjs : j < ops.size := by
  rcases Nat.lt_or_ge j (depsOn ops i).size with h' | h'
  ·have := depsOn_size ops i
   omega
  ·simp [Array.getElem?_eq_none h'] at hj
 have h1 := hk.2 j hjs
 rw [hj] at h1
 simp only [Bool.not_true, Bool.false_or, Bool.and_eq_true, bne_iff_ne, Bool.not_eq_true'] at h1
 obtain ⟨⟨h1, h2⟩, h3⟩ := h1
 refine ⟨h1, h2, ?_⟩
 split at h3
 ·rename_i oj hoj
  obtain ⟨e, he, hb⟩ := Array.any_eq_true'.1 h3
  simp only [Bool.and_eq_true, Bool.or_eq_true, beq_iff_eq] at hb
  exact ⟨oj, hoj, e, he, hb.1, hb.2⟩
 ·cases h3
def ordPre (ops : Array Oper) (ks : List Nat) (z : Nat) : List Nat → Array Bool → Bool
 | [], listed => Region.ready .any ops listed == [z] && ks.getD z 2 == 2 && (Region.ready .any ops (listed.setIfInBounds z true)).isEmpty
 | i :: rest, listed =>
  (Region.ready .any ops listed).contains i && Region.free .any ops listed i && i != z &&
  (match ks.getD i 2 with
   | 0 => waitsB ops z i || Region.ready .any ops listed == [i] || depsHold ops listed (depsOn ops i) i z
   | 1 => depsOk ops ks listed (depsOn ops i) i
   | 2 => Region.ready .any ops listed == [i]
   | _ => false) &&
  ordPre ops ks z rest (listed.setIfInBounds i true)
def lastOk (ops : Array Oper) (ks : List Nat) (z : Nat) (pre : List Nat) : Bool := Region.noSelect ops && pre.length + 1 == ops.size && ordPre ops ks z pre (Array.replicate ops.size false)
def onward (K : Act → World → Prop) : Exit → Act → World → Prop
 | .normal, a, w => K a w
 | _, _, _ => False
theorem wp_only2 {Q1 Q2 : Exit → Act → World → Prop} {o : Oper} {a : Act} {w : World} {K : Act → World → Prop} (h : o.wp P a w K (only Q1)) : o.wp P a w K Q2 := by
 unfold Oper.wp at *
 generalize (execOp a.eval o).run P w = r at *
 cases r with
 | ok n w' =>
  cases n <;> simp only [Oper.upon] at h ⊢
  case value => exact h
  case skip => exact h
  case defer => exact h
  case row => exact h
  case enter f args =>
   refine Calls.mono h fun e w'' he => ?_
   cases e with
   | returned v => exact he
   | panicked c => exact he.elim
   | outgrown => obtain ⟨_, _, h⟩ := he; exact h.elim
 | halt x w' => cases x <;> simp only [Oper.upon] at h ⊢; exact h.elim
theorem wpOp_only2 {Q1 Q2 : Exit → Act → World → Prop} {i : Nat} {K : Act → World → Prop} {a : Act} {w : World} (h : wpOp P ops (only Q1) i K a w) : wpOp P ops (only Q2) i K a w := by
 unfold wpOp at *
 split
 ·rename_i hn; simp only [hn] at h; exact h
 ·rename_i o ho
  simp only [ho] at h
  split
  ·rename_i hw
   simp only [hw, if_true] at h
   exact .inl (h.elim wp_only2 fun ⟨_, _, _, hh⟩ => hh.elim)
  ·rename_i hw; simp only [hw] at h; exact h
abbrev lastQ (P : Program) (ops : Array Oper) (ks : List Nat) (Q : Exit → Act → World → Prop) (z : Nat) : Exit → Act → World → Prop := onward fun a w => wpOrd P ops ks (fun _ => True) Q [z] a w
theorem anyL_of_pre (hSd : ∀ w n, S w → S (w.drewN n)) (hs : Region.noSelect ops = true) : ∀ (pre : List Nat) (listed : Array Bool) (a : Act) (w : World), S w →
  ordPre ops ks z pre listed = true → wpOrd P ops ks S (lastQ P ops ks Q z) pre a w → anyL P ops ks z S (only Q) (pre.length + 1) listed a w
 | [], listed, a, w, _, hB, h => by
  simp only [ordPre, Bool.and_eq_true, beq_iff_eq, List.isEmpty_iff] at hB
  obtain ⟨⟨hr, hk⟩, hB'⟩ := hB
  obtain ⟨o, ho, h⟩ := h 0
  rw [hk] at h
  refine ⟨fun h0 => (by rw [h0] at hr; cases hr), fun j hj oj hoj => ?_⟩
  rw [hr] at hj
  simp only [List.mem_singleton] at hj
  subst hj
  rw [ho] at hoj; injection hoj with hoj; subst hoj
  rw [if_pos hk]
  exact fun n => wpOp_mono (fun a w hh => ⟨.inl rfl, hB', hh.2⟩) (show wpOp P ops (only Q) j (fun a' w' => True ∧ wpOrd P ops ks (fun _ => True) Q [] a' w') a (w.drewN n) from h n)
 | i :: rest, listed, a, w, hS, hB, h => by
  obtain ⟨o, ho, h⟩ := h
  simp only [ordPre, Bool.and_eq_true] at hB
  obtain ⟨⟨⟨⟨hr, hf⟩, hiz⟩, hk⟩, hB'⟩ := hB
  have hready : i ∈ Region.ready .any ops listed := by simpa using hr
  have hko : ks.getD i 2 = 0 ∨ ks.getD i 2 = 1 ∨ ks.getD i 2 = 2 := by
   split at hk
   ·rename_i h; exact .inl h
   ·rename_i h; exact .inr (.inl h)
   ·rename_i h; exact .inr (.inr h)
   ·cases hk
  rcases hko with hko | hko | hko
  ·rw [hko] at h
   obtain ⟨v, hy, hK⟩ := h
   rw [hko] at hk
   simp only [Bool.or_eq_true, beq_iff_eq] at hk
   rcases hk with (hk | hk) | hk
   ·exact anyL_held (waitsB_spec hk) hSd ho (by omega) (Region.noSelect_spec hs) (fun _ _ _ h => h.elim) (rest.length + 1) listed a w hS (Region.free_spec ho hf) hready hy (anyL_of_pre hSd hs rest _ _ _ hS hB' hK)
   ·refine ⟨fun h0 => (by rw [h0] at hk; cases hk), fun j hj oj hoj => ?_⟩
    rw [hk] at hj
    simp only [List.mem_singleton] at hj
    subst hj
    rw [ho] at hoj; injection hoj with hoj; subst hoj
    rw [if_neg (by omega)]
    exact ⟨v, yieldsIn_of_if (fun n => hSd w n hS) hy, anyL_of_pre hSd hs rest _ _ _ hS hB' hK⟩
   ·exact anyL_held2 (depsHold_spec hk).1 hSd ho (by omega) (Region.noSelect_spec hs) (fun _ _ _ h => h.elim) (rest.length + 1) listed a w hS (Region.free_spec ho hf) (depsHold_spec hk).2 hready hy (anyL_of_pre hSd hs rest _ _ _ hS hB' hK)
  ·rw [hko] at h hk
   obtain ⟨v, hy, hK⟩ := h
   simp only [depsOk, List.all_eq_true, List.mem_range, Bool.and_eq_true] at hk
   have hlt : ∀ j oj, ops[j]? = some oj → j < ops.size := fun j oj h => (Array.getElem?_eq_some_iff.1 h).1
   refine anyL_quiet (dep := depsOn ops i) ho (by omega) (Region.noSelect_spec hs) (rest.length + 1) listed a (Region.free_spec ho hf) (fun j hj => ?_) (fun j oj hoj hd hne hun => ?_) hready hy (anyL_of_pre hSd hs rest _ _ _ hS hB' hK)
   ·have hjs : j < ops.size := by
     rcases Nat.lt_or_ge j (depsOn ops i).size with h' | h'
     ·have := depsOn_size ops i
      omega
     ·simp [Array.getElem?_eq_none h'] at hj
    have h1 := (hk j hjs).1
    rw [hj] at h1
    simp only [Bool.not_true, Bool.false_or, Bool.and_eq_true, bne_iff_ne, Bool.not_eq_true'] at h1
    obtain ⟨⟨h1, h2⟩, h3⟩ := h1
    refine ⟨h1, h2, ?_⟩
    split at h3
    ·rename_i oj hoj
     obtain ⟨e, he, hb⟩ := Array.any_eq_true'.1 h3
     simp only [Bool.and_eq_true, Bool.or_eq_true, beq_iff_eq] at hb
     exact ⟨oj, hoj, e, he, hb.1, hb.2⟩
    ·cases h3
   ·have h1 := (hk j (hlt j oj hoj)).2
    rw [hd] at h1
    simp only [Bool.false_or, Bool.or_eq_true, beq_iff_eq, bne_iff_ne] at h1
    rcases h1 with (h1 | h1) | h1
    ·exact absurd h1 hne
    ·rw [hun] at h1; cases h1
    ·exact h1
  ·rw [hko] at h hk
   have hk' : Region.ready .any ops listed = [i] := by simpa using hk
   refine ⟨fun h0 => (by rw [h0] at hk'; cases hk'), fun j hj oj hoj => ?_⟩
   rw [hk'] at hj
   simp only [List.mem_singleton] at hj
   subst hj
   rw [ho] at hoj; injection hoj with hoj; subst hoj
   rw [if_pos hko]
   exact fun n => wpOp_mono (fun a w hh => ⟨.inr hh.1, anyL_of_pre hSd hs rest _ a w hh.1 hB' hh.2⟩) (wpOp_only2 (h n))
theorem wp_region_last {id : Nat} {a : Act} {w : World} {l : List Oper} (S : World → Prop) (ks pre : List Nat) (z : Nat) (hm : P.follows .mixedOrders = true) (hB : lastOk l.toArray ks z pre = true)
  (hSd : ∀ w n, S w → S (w.drewN n)) (hS : S w) (h : wpOrd P l.toArray ks S (lastQ P l.toArray ks Q z) pre a w) : (Code.region id l.toArray true).wp P Q a w := by
 simp only [lastOk, Bool.and_eq_true, beq_iff_eq] at hB
 refine wp_region_any hm (wpAny_only _ _ _ _ ?_)
 have := wpAny_of_anyL _ (Array.replicate l.toArray.size false) a w 1 (anyL_of_pre hSd hB.1.1 pre _ a _ hS hB.2 h)
 rw [hB.1.2] at this
 exact this
theorem last_now {a : Act} {w : World} (h : ∀ n, wpOrd P ops ks (fun _ => True) Q [z] a (w.drewN n)) : wpOrd P ops ks S (lastQ P ops ks Q z) [] a w := h
end
end Go.Mer
namespace Go.Proofs.YtgnkmjeoaoongaaGreatDoor
open Go.RowKit Go.Mer
structure PutR (t : TypeId) (c c' : ChR) (x : VerS) (w w' : World) : Prop where
 b : c'.b = c.b
 vs : c'.vs = putC c.vs x
 ok : ChOk t w' c'
 kp : Kp (fun k => k = c.b ∨ c.row.ownBlock = some k) w w'
 row : c'.row.ownBlock = c.row.ownBlock ∨ ∃ g, c'.row.ownBlock = some g ∧ w.heap.size ≤ g
 vals : ∀ y ∈ c'.R, y ∈ c.R ∨ ∀ g, y.sl.ownBlock = some g → w.heap.size ≤ g
theorem put_cells (R : List VerR) (y : VerR) (i : Nat) : (R.flatMap verC).take (i * 6) ++ (verC y ++ (R.flatMap verC).drop (i * 6)) = (R.take i ++ y :: R.drop i).flatMap verC := by
 rw [chunk_take verC 6 verC_len, chunk_drop verC 6 verC_len, List.flatMap_append, List.flatMap_cons]
theorem flat_one (R : List VerR) : ∀ u ∈ R.flatMap verC, u.oneCell' = true := fun u hu => by
 obtain ⟨y, _, hy⟩ := List.mem_flatMap.1 hu
 exact verC_one y u hy
theorem VerR.rd_kp {x : VerR} {w w' : World} (h : x.rd w) (hk : Kp No w w') : x.rd w' := ⟨Rd.kp h.1 hk, h.2⟩
set_option maxRecDepth 100000 in
set_option maxHeartbeats 1000000 in
theorem cPut_any (w : World) (c : ChR) (x : VerR) (hc : ChOk 203 w c) (hs : ChS c.vs) (hx : x.rd w) (hv : isV x.v = true) (hh : putHas c.vs x.v = false) (hn : c.R.length ≤ 1000000) :
  Calls Tryz.prog 115 #[.pointer (some ⟨c.b, 0, none⟩), verV x] w fun e w' => e = .returned (.int .i64 0) ∧ ∃ c', PutR 203 c c' x.v w w' := by
 obtain ⟨cb, ra, rc, R⟩ := c
 obtain ⟨n, hnR⟩ : ∃ n, n = R.length := ⟨_, rfl⟩
 have hcl : R.length ≤ rc := by
  obtain ⟨_, a, cap, e, h1, _⟩ := hc.own
  unfold ChR.row at e
  injection e with _ _ e3
  have e3 : rc = cap := e3
  rw [e3]; exact h1
 have hrow : (⟨cb, ra, rc, R⟩ : ChR).row = .slice ra n rc := by unfold ChR.row; rw [hnR]
 obtain ⟨w1, hw1⟩ : ∃ W, W = w.alloc (.cells (verC x).toArray 44) := ⟨_, rfl⟩
 have k1 : Kp No w w1 := by rw [hw1]; exact (Kp.refl _ _).alloc _
 have bx : w1.heap[w.heap.size]? = some (.cells (verC x).toArray 44 (0, 0)) := by rw [hw1]; exact heap_alloc_new w _
 have hbl := get_lt hc.cell
 simp only at hbl hn hcl
 obtain ⟨p, hp⟩ : ∃ p, p = putI (R.map VerR.v) x.v := ⟨_, rfl⟩
 have hpn : p ≤ n := by rw [hp, hnR]; have := putI_le (R.map VerR.v) x.v; rwa [List.length_map] at this
 have HC := Lib.hid hc
 have HS := Lib.hid hs
 have HX := Lib.hid hx
 have HV := Lib.hid hv
 have HH := Lib.hid (show putHas (R.map VerR.v) x.v = false from hh)
 have HN := Lib.hid hnR
 have HP := Lib.hid hp
 have HCL := Lib.hid hcl
 have HROW := Lib.hid hrow
 have HK1 := Lib.hid k1
 have HBX := Lib.hid bx
 have HW1 := Lib.hid (show w.alloc (.cells #[.int .i64 x.v.m, .int .i64 x.v.c, .int .i64 x.v.o, x.sl, .bool x.v.gone, .int .i64 x.v.ttl] 44) = w1 from hw1.symm)
 have HNB := Lib.hid hn
 clear hc hs hx hv hh hnR hp hcl hrow k1 bx hw1 hn
 unfold verV verC
 go_enter Tryz.func115, Tryz.ntmps115
 go_upto_region 1 with fail
 (try rw [HW1.out])
 have d0 : w1.cell? ⟨w.heap.size, 0, none⟩ = some (.int .i64 x.v.m) := cell_at HBX.out 0
 have d1 : w1.cell? ⟨w.heap.size, 1, none⟩ = some (.int .i64 x.v.c) := cell_at HBX.out 1
 have d2 : w1.cell? ⟨w.heap.size, 2, none⟩ = some (.int .i64 x.v.o) := cell_at HBX.out 2
 have d3 : w1.cell? ⟨w.heap.size, 3, none⟩ = some x.sl := cell_at HBX.out 3
 have d4 : w1.cell? ⟨w.heap.size, 4, none⟩ = some (.bool x.v.gone) := cell_at HBX.out 4
 have d5 : w1.cell? ⟨w.heap.size, 5, none⟩ = some (.int .i64 x.v.ttl) := cell_at HBX.out 5
 have hxl := HK1.out.size
 have hxl1 := get_lt HBX.out
 go_wp2_with fail
 refine (cIs_any x w1).mono ?_
 rintro e w2 ⟨rfl, k2⟩
 rw [HV.out]
 have HK2 := Lib.hid (HK1.out.trans_same k2)
 have hxl2 := get_lt (k2.get HBX.out fun x => x)
 have hbl2 := HK2.out.lt hbl
 have f0 : ∀ W, Kp No w2 W → W.cell? ⟨cb, 0, none⟩ = some (.slice ra n rc) := fun W hW => by
  have := HC.out.cells.1 W (HK2.out.trans_same hW)
  rw [HROW.out] at this
  exact this
 have HX2 := Lib.hid (show ∀ W, Kp No w2 W → W.rangeAt w.heap.size 0 (verC x) from fun W hW => by have := rangeAt_block ((k2.trans_same hW).get HBX.out fun x => x) 0 6; exact this)
 clear k2 hxl1 d0 d1 d2 d3 d4 d5
 go_upto_region 3 with fail
 refine wp_region_held' (Kp No _) [0,0,0,0,0,2,0,0,0,0,0] [0,1,2,3,4,5,6,7,8,9,10] (by kernel_rfl) (by kernel_rfl) (fun _ n h => h.drewN n) (Kp.refl _ _) ?_
 repeat (first
  | (apply wpOrd_skip rfl (by decide) rfl; (focus (go_simp; rfl)))
  | (apply wpOrd_pure rfl rfl rfl; (focus (intro _ _; go_simp; (try go_ints); rfl)); (focus (go_simp; rfl)))
  | (apply wpOrd_read rfl rfl rfl; (focus (intro _; go_simp; (try go_ints); rfl)); (focus (go_simp; rfl))))
 apply wpOrd_pure rfl rfl rfl
 ·intro W hW
  exact exec_load_w 44 _ rfl w.heap.size 0 rfl (verC x) _ (HX2.out W hW) Tryz.underlying44 rfl (by kernel_rfl)
 ·(focus (go_simp; rfl))
 refine wpOrd_eff rfl rfl (fun q => ?_)
 have hsr := Search_any (w2.drewN q) ra rc R ((Rd.kp (by have := Own.rd' (a := ra) (cap := rc) (m := R.length) HC.out.own; exact this) HK2.out).drewN q) HCL.out HNB.out HS.out x
 rw [← HN.out, ← HP.out, HH.out] at hsr
 have HSR := Lib.hid hsr
 clear hsr
 go_wp2_with fail
 refine HSR.out.mono ?_
 rintro e w3 ⟨rfl, k3⟩
 go_wp2_with fail
 refine ⟨k3.of_drewN, ?_⟩
 repeat (first
  | (apply wpOrd_skip rfl (by decide) rfl; (focus (go_simp; rfl)))
  | (apply wpOrd_pure rfl rfl rfl; (focus (intro _ _; go_simp; (try go_ints); rfl)); (focus (go_simp; rfl)))
  | (apply wpOrd_read rfl rfl rfl; (focus (intro _; go_simp; (try go_ints); rfl)); (focus (go_simp; rfl))))
 refine wpOrd_nil (fun nq => ?_)
 obtain ⟨w4, hw4⟩ : ∃ W, W = w3.drewN nq := ⟨_, rfl⟩
 have k4 : Kp No w2 w4 := by rw [hw4]; exact k3.of_drewN.drewN nq
 have HK4 := Lib.hid (HK2.out.trans_same k4)
 have HX4 := Lib.hid (show ∀ W, Kp (fun k => (Value.slice ra n rc).ownBlock = some k) w4 W → W.rangeAt w.heap.size 0 (verC x) from fun W hW => fun j u hu => by
  have h1 := HX2.out w4 k4 j u hu
  have hlt4 := k4.lt hxl2
  rw [hW.cell (p := ⟨w.heap.size, 0 + j, none⟩) hlt4 (fun e => by
   rw [← HROW.out] at e
   have := HC.out.own.lt _ e
   exact Nat.lt_irrefl _ this)]
  exact h1)
 have hbl4 := k4.lt hbl2
 have hxl4 := k4.lt hxl2
 have hne : ∀ g, (Value.slice ra n rc).ownBlock = some g → g ≠ cb := fun g hg => by
  rw [← HROW.out] at hg
  exact HC.out.row_ne (by decide) hg
 have f4 : ∀ W, Kp (fun k => (Value.slice ra n rc).ownBlock = some k) w4 W → W.cell? ⟨cb, 0, none⟩ = some (.slice ra n rc) := fun W hW => by
  rw [hW.cell (p := ⟨cb, 0, none⟩) hbl4 (fun e => hne _ e rfl)]
  exact f0 w4 k4
 have g4 : ∀ W, Kp (fun k => (Value.slice ra n rc).ownBlock = some k) w4 W → W.frozen? ⟨cb, 0, none⟩ = false := fun W hW => by
  rw [hW.frozen (p := ⟨cb, 0, none⟩) hbl4 (fun e => hne _ e rfl)]
  exact HC.out.cells.2 w4 HK4.out
 rw [← hw4]
 clear hw4 k3 k4 f0 HX2 HSR hxl2 hbl2
 go_upto_region 6 with fail
 refine wp_region_last (Kp (fun k => (Value.slice ra n rc).ownBlock = some k) w4) [0,0,0,0,0,0,0,2,2,2,0,0,2] [0,1,2,3,4,5,6,7,8,9,10,11] 12 (by kernel_rfl) (by kernel_rfl) (fun _ n h => h.drewN n) (Kp.refl _ _) ?_
 repeat (first
  | (apply wpOrd_skip rfl (by decide) rfl; (focus (go_simp; rfl)))
  | (apply wpOrd_pure rfl rfl rfl; (focus (intro _ _; go_simp; (try go_ints); rfl)); (focus (go_simp; rfl)))
  | (apply wpOrd_read rfl rfl rfl; (focus (intro _; go_simp; (try go_ints); rfl)); (focus (go_simp; rfl))))
 apply wpOrd_pure rfl rfl rfl
 ·intro W hW
  exact exec_load_w 44 _ rfl w.heap.size 0 rfl (verC x) _ (HX4.out W hW) Tryz.underlying44 rfl (by kernel_rfl)
 ·(focus (go_simp; rfl))
 refine wpOrd_eff rfl rfl (fun q2 => ?_)
 have hlen : x.v.val.length ≤ 140737488355328 := by
  have := (isV_iff.1 HV.out).2.2.2.1
  omega
 have how := cOwn_any x (w4.drewN q2) (VerR.rd_kp HX.out (HK4.out.drewN q2)) hlen
 clear hlen
 have HOW := Lib.hid how
 clear how
 go_wp2_with fail
 refine HOW.out.mono ?_
 rintro e w5 ⟨y, hyv, rfl, hyo, hyf, k5⟩
 have HY := Lib.hid (And.intro hyv (And.intro hyo hyf))
 have k5' : Kp No w4 w5 := k5.of_drewN
 clear hyv hyo hyf k5
 simp only [verV, verC]
 go_wp2_with fail
 refine ⟨Kp.of_no k5', ?_⟩
 refine wpOrd_eff rfl rfl (fun q3 => ?_)
 go_wp2_with fail
 obtain ⟨w6, hw6⟩ : ∃ W, W = (w5.drewN q3).alloc (.cells (verC y).toArray 44) := ⟨_, rfl⟩
 have k6 : Kp No w4 w6 := by rw [hw6]; exact (k5'.drewN q3).alloc _
 have k56 : Kp No w5 w6 := by rw [hw6]; exact ((Kp.refl _ _).drewN q3).alloc _
 have b6 : w6.heap[w5.heap.size]? = some (.cells (verC y).toArray 44 (0, 0)) := by rw [hw6]; exact heap_alloc_new (w5.drewN q3) _
 (try rw [show (w5.drewN q3).alloc (.cells #[.int .i64 y.v.m, .int .i64 y.v.c, .int .i64 y.v.o, y.sl, .bool y.v.gone, .int .i64 y.v.ttl] 44) = w6 from hw6.symm])
 have h56 := k5'.size
 have HK6 := Lib.hid k6
 have HK56 := Lib.hid k56
 have HB6 := Lib.hid b6
 clear hw6 k6 k56 b6 HOW
 refine ⟨Kp.of_no HK6.out, ?_⟩
 refine wpOrd_eff rfl rfl (fun q4 => ?_)
 have hO : Own (w6.drewN q4) 44 6 (.slice ra n rc) n (R.flatMap verC) := by
  have h1 := HC.out.own
  rw [HROW.out] at h1
  rw [HN.out] at h1 ⊢
  exact h1.keep ((HK4.out.trans_same HK6.out).drewN q4) fun _ _ x => x
 have hins := Insert_any (w6.drewN q4) ra n rc p (R.flatMap verC) hO hpn (by have := HNB.out; have := HN.out; omega) (flat_one R) w5.heap.size y 44 HB6.out (fun e => by
  have h1 := HC.out.own.lt w5.heap.size (by rw [HROW.out]; exact e)
  have h2 := HK4.out.size
  omega)
 have HIN := Lib.hid hins
 clear hins hO
 go_wp2_with fail
 refine HIN.out.mono ?_
 rintro e w7 ⟨a', c', rfl, ho7, k7, hb7⟩
 have k7' : Kp (fun k => (Value.slice ra n rc).ownBlock = some k) w6 w7 := k7.of_drewN
 rw [put_cells] at ho7
 have HO7 := Lib.hid (And.intro ho7 hb7)
 have HK7 := Lib.hid k7'
 have kS : Kp (fun k => (Value.slice ra n rc).ownBlock = some k) w4 w7 := (Kp.of_no HK6.out).trans_same k7'
 clear ho7 hb7 k7 k7' HIN
 go_wp2_with fail
 (try refine ⟨kS, ?_⟩)
 repeat (first
  | (apply wpOrd_skip rfl (by decide) rfl; (focus (go_simp; rfl)))
  | (apply wpOrd_pure rfl rfl rfl; (focus (intro _ _; go_simp; (try go_ints); rfl)); (focus (go_simp; rfl)))
  | (apply wpOrd_read rfl rfl rfl; (focus (intro _; go_simp; (try go_ints); rfl)); (focus (go_simp; rfl))))
 refine last_now (fun n11 => ?_)
 refine wpOrd_eff rfl rfl (fun n12 => ?_)
 obtain ⟨w8, hw8⟩ : ∃ W, W = (w7.drewN n11).drewN n12 := ⟨_, rfl⟩
 have k8 : Kp (fun k => (Value.slice ra n rc).ownBlock = some k) w6 w8 := by rw [hw8]; exact (HK7.out.drewN n11).drewN n12
 have k48 : Kp (fun k => (Value.slice ra n rc).ownBlock = some k) w4 w8 := by rw [hw8]; exact (kS.drewN n11).drewN n12
 have ho8 : Own w8 44 6 (.slice a' (n + 1) c') (n + 1) ((R.take p ++ y :: R.drop p).flatMap verC) := by rw [hw8]; exact HO7.out.1
 rw [← hw8]
 have hc8 := f4 w8 k48
 have hf8 := g4 w8 k48
 have hl8 := k48.lt hbl4
 have HO8 := Lib.hid ho8
 have HK8 := Lib.hid k8
 have HK48 := Lib.hid k48
 clear hw8 k8 ho8 kS f4 g4 HX4 k48
 go_wp2_with fail
 intro nr
 obtain ⟨w9, hw9⟩ : ∃ W, W = (w8.setCell ⟨cb, 0, none⟩ (.slice a' (n + 1) c')).drewN nr := ⟨_, rfl⟩
 have k9 : Kp (Mer.One cb) w8 w9 := by rw [hw9]; exact ((Kp.refl (Mer.One cb) _).setCell (p := ⟨cb, 0, none⟩) (.inl (show Mer.One cb cb from rfl)) _).drewN nr
 have hcb8 : w8.heap[cb]? = some (.cells #[.slice ra n rc] 203 (0, 0)) := by
  have h1 := HC.out.cell
  rw [HROW.out] at h1
  exact HK48.out.get (HK4.out.get h1 fun x => x) fun e => hne _ e rfl
 have hcb9 : w9.heap[cb]? = some (.cells #[.slice a' (n + 1) c'] 203 (0, 0)) := by
  have := set_at hcb8 0 (.slice a' (n + 1) c')
  rw [hw9]
  simpa using this
 rw [← hw9]
 have HK9 := Lib.hid k9
 have HCB := Lib.hid (And.intro hcb8 hcb9)
 clear hw9 k9 hcb8 hcb9 hc8 hf8 hl8
 go_wp2_with fail
 go_ret
 have hvs : (R.take p ++ y :: R.drop p).map VerR.v = putC (R.map VerR.v) x.v := by
  unfold putC
  rw [← HP.out, List.map_append, List.map_cons, List.map_take, List.map_drop, HY.out.1]
 have hlen : (R.take p ++ y :: R.drop p).length = n + 1 := by
  have := HN.out
  rw [List.length_append, List.length_cons, List.length_take, List.length_drop]
  omega
 have hkAll : Kp (fun k => k = cb ∨ (Value.slice ra n rc).ownBlock = some k) w4 w9 := (HK48.out.mono fun _ _ h => .inr h).trans HK9.out fun i _ e => .inl e
 have hvc : ∀ z ∈ R, z.ok w4 := fun z hz => (HC.out.vals z hz).keep HK4.out fun _ _ x => x
 refine ⟨rfl, ⟨cb, a', c', R.take p ++ y :: R.drop p⟩, ⟨rfl, hvs, ⟨?_, ?_, ?_⟩, ?_, ?_, ?_⟩⟩
 ·unfold ChR.row
  simp only
  rw [hlen]
  exact HCB.out.2
 ·unfold ChR.row
  simp only
  rw [hlen]
  refine HO8.out.keep HK9.out fun g hg e => ?_
  have e : g = cb := e
  rcases HO7.out.2 with h1 | ⟨g', h1, h2⟩
  ·rw [h1] at hg
   exact hne g hg e
  ·rw [h1] at hg
   injection hg with hg
   have h3 : w6.heap.size ≤ g' := h2
   have h4 := HK6.out.size
   omega
 ·intro z hz
  have hS : ∀ g, (g = cb ∨ (Value.slice ra n rc).ownBlock = some g) → ∀ cur, w4.heap[g]? ≠ some (.cells cur 5 (0, 0)) := fun g hg cur hcur => by
   rcases hg with rfl | hg
   ·have h1 := HK4.out.get HC.out.cell fun x => x
    exact ne_of_type hcur h1 (by decide) rfl
   ·rw [← HROW.out] at hg
    obtain ⟨cur', hc'⟩ := (HC.out.own.keep HK4.out fun _ _ x => x).type g hg
    exact ne_of_type hcur hc' (by decide) rfl
  rcases List.mem_append.1 hz with hz | hz
  ·exact (hvc z (List.mem_of_mem_take hz)).apart hkAll hS
  ·rcases List.mem_cons.1 hz with rfl | hz
   ·have h1 : z.ok w6 := HY.out.2.1.keep HK56.out fun _ _ x => x
    have h2 : z.ok w8 := h1.apart HK8.out fun g hg cur hcur => by
     have h3 : w6.heap[g]? = w4.heap[g]? := HK6.out.block g (by rw [← HROW.out] at hg; exact HK4.out.lt (HC.out.own.lt g hg)) (fun x => x)
     rw [h3] at hcur
     exact hS g (.inr hg) cur hcur
    exact h2.apart HK9.out fun g hg cur hcur => by
     have e : g = cb := hg
     rw [e, HCB.out.1] at hcur
     injection hcur with hcur
     injection hcur with _ ht
     exact absurd ht (by decide)
   ·exact (hvc z (List.mem_of_mem_drop hz)).apart hkAll hS
 ·rw [HROW.out]
  exact (HK4.out.of_no).trans_same hkAll
 ·rw [HROW.out]
  show (Value.slice a' (R.take p ++ y :: R.drop p).length c').ownBlock = _ ∨ _
  rcases HO7.out.2 with h1 | ⟨g', h1, h2⟩
  ·exact .inl (by rw [hlen]; exact h1)
  ·refine .inr ⟨g', by show (Value.slice a' (R.take p ++ y :: R.drop p).length c').ownBlock = _; rw [hlen]; exact h1, ?_⟩
   have h3 : w6.heap.size ≤ g' := h2
   have h4 := HK6.out.size
   have h5 := HK4.out.size
   omega
 ·intro z hz
  rcases List.mem_append.1 hz with hz | hz
  ·exact .inl (List.mem_of_mem_take hz)
  ·rcases List.mem_cons.1 hz with rfl | hz
   ·right
    intro g hg
    have h1 := HY.out.2.2 g hg
    have h2 : w4.heap.size ≤ g := h1
    have h5 := HK4.out.size
    omega
   ·exact .inl (List.mem_of_mem_drop hz)
theorem cOf_any (w : World) : Calls Tryz.prog 114 #[.slice none 0 0] w fun e w' => ∃ b, e = .returned (.tuple #[.pointer (some ⟨b, 0, none⟩), .int .i64 0]) ∧ ChOk 203 w' ⟨b, none, 0, []⟩ ∧ w.heap.size ≤ b ∧ Kp No w w' := by
 go_enter Tryz.func114, Tryz.ntmps114
 go_wp2_with fail
 go_loop [12] (fun s => s = .int .i64 0) (fun _ => 0)
 case atStart => rfl
 case round =>
  obtain rfl := hrel
  go_wp2_with fail
  go_ret2
  refine ⟨w.heap.size, rfl, ⟨heap_alloc_new w _, show Own _ 44 6 (.slice none 0 0) 0 [] from Own.nil _ _ _, fun x hx => absurd hx (List.not_mem_nil)⟩, Nat.le_refl _, (Kp.refl _ _).alloc _⟩
end Go.Proofs.YtgnkmjeoaoongaaGreatDoor

