/-
  Records by rows: next, walked.
-/
import Derived.Test.YtgnkmjeoaoongaaGreatDoorSe1
import Derived.Test.YtgnkmjeoaoongaaGreatDoorSb6
import Derived.Test.YtgnkmjeoaoongaaGreatDoorSc5
import Derived.Test.YtgnkmjeoaoongaaGreatDoorSa1
import Derived.Test.YtgnkmjeoaoongaaGreatDoorSe0
namespace Go.Proofs.YtgnkmjeoaoongaaGreatDoor
open Go.RowKit Go.Mer
theorem stx_of (r y : Nat) (P : ByteArray) (o : Nat) (st : SSt) (lv kv : Value) : ((xsCells r y P o st lv kv).toList.drop 8).take 15 = ofC st.of := rfl
def NextP (w00 w : World) (of : List DoneS) (L : List RowR) (e : Ending) (w' : World) : Prop :=
 ∃ (b : Option Addr) (c : Nat) (R : List RecR), e = .returned (.slice b R.length c) ∧ Own w' 46 9 (.slice b R.length c) R.length (R.flatMap recC) ∧ R.map RecR.r = nextL of (L.map RowR.r) ∧ (∀ y ∈ R, y.rd w00) ∧ (∀ g, (Value.slice b R.length c).ownBlock = some g → w.heap.size ≤ g) ∧ Kp No w w'
structure NxI (w00 w : World) (q : Nat) (of : List DoneS) (L : List RowR) (j : Nat) (ra : Option Addr) (c : Nat) (R : List RecR) (wr : World) : Prop where
 row : RowRel 46 9 recC w wr (.slice ra j c) j R
 done : wr.heap[q]? = some (.cells (ofC (nextOf of ((L.take j).map RowR.r))).toArray 62 (0, 0))
 rd : ∀ y ∈ R, y.rd w00
 eq : R.map RecR.r = nextL of ((L.take j).map RowR.r)
set_option maxRecDepth 100000 in
set_option maxHeartbeats 4000000 in
theorem snext_any {w : World} {x r y o : Nat} {P : ByteArray} {st : SSt} {la ka : Option Addr} {lc kc : Nat} {cs : ChL} {K : List RecR} (h : StX w x r y P o st la lc cs ka kc K) (hof : OfHi 0 st.of) (a : Option Addr) (cap : Nat) (L : List RowR) {w00 : World} (hL0 : RowsIn w00 a L) (hk0 : Kp No w00 w) (hn : L.length ≤ 1000) :
  Calls Tryz.prog 16 #[.pointer (some ⟨x, 0, none⟩), .slice a L.length cap] w (NextP w00 w st.of L) := by
 have hL := hL0.kp hk0
 obtain ⟨n, hnL⟩ : ∃ n, n = L.length := ⟨_, rfl⟩
 have hnn : n ≤ 1000 := by omega
 have hxl := get_lt h.cell
 have RX := Lib.hid (show w.rangeAt x 8 (ofC st.of) from by
  have := rangeAt_block h.cell 8 15
  rwa [stx_of] at this)
 obtain ⟨w1, hw1⟩ : ∃ W, W = w.alloc (.cells (ofC st.of).toArray 62) := ⟨_, rfl⟩
 have k1 : Kp No w w1 := by rw [hw1]; exact (Kp.refl _ _).alloc _
 obtain ⟨q, hq⟩ : ∃ q, q = w.heap.size := ⟨_, rfl⟩
 have b1 : w1.heap[q]? = some (.cells (ofC st.of).toArray 62 (0, 0)) := by rw [hw1, hq]; exact heap_alloc_new w _
 have HI0 := Lib.hid (show NxI w00 w q st.of L 0 none 0 [] w1 from ⟨(RowRel.nil 46 9 recC w).keep k1, b1, fun y hy => absurd hy List.not_mem_nil, rfl⟩)
 have HL := Lib.hid hL
 have HL0 := Lib.hid hL0
 have HOF := Lib.hid hof
 have HN := Lib.hid hnL
 have HQ := Lib.hid hq
 have HW1 := Lib.hid hw1
 rw [← hnL]
 clear h hof hL hL0 hk0 hn hnL hq hw1 k1 b1
 go_enter Tryz.func16, Tryz.ntmps16
 go_upto_region 3 with (first
  | (refine wpList_load_w rfl 62 _ rfl x 8 rfl _ _ RX Tryz.underlying62 rfl (by kernel_rfl) ?_)
  | (refine wpList_store_w rfl 62 _ _ rfl w.heap.size (by rfl) _ _ _ rfl rfl (by kernel_rfl) (by rfl) (by rfl) ?_))
 rw [← HW1.out, ← HQ.out]
 go_wp2_with fail
 go_loopw [5, 7] (fun v i wr => ∃ (j c : Nat) (ra : Option Addr) (R : List RecR), j ≤ n ∧ i = .int .i64 (j : Int) ∧ v = .slice ra j c ∧ Hid (NxI w00 w q st.of L j ra c R wr)) (fun _ i _ => n - (intOf i).toNat)
 case atStart => exact ⟨0, 0, none, [], Nat.zero_le _, rfl, rfl, HI0⟩
 case round =>
  clear HI0
  obtain ⟨j, c, ra, R, hj, rfl, rfl, HI⟩ := hrel
  rcases Nat.lt_or_ge j n with hlt | hge
  ·have hjL : j < L.length := by have := HN.out; omega
   obtain ⟨g, off, rfl, hgl, hgr⟩ := row_range HL.out.1 hjL
   have hkr := HI.out.row.2.2.2
   have hxa := HL0.out.2 _ (List.getElem_mem hjL)
   have hst : (L.take (j + 1)).map RowR.r = (L.take j).map RowR.r ++ [L[j].r] := by rw [List.take_succ_eq_append_getElem hjL, List.map_append]; rfl
   have hofj : OfHi (0 + j) (nextOf st.of ((L.take j).map RowR.r)) := by
    have := HOF.out.upto ((L.take j).map RowR.r)
    rwa [List.length_map, List.length_take, Nat.min_eq_left (by omega)] at this
   obtain ⟨OF, hOF⟩ : ∃ OF, OF = nextOf st.of ((L.take j).map RowR.r) := ⟨_, rfl⟩
   have hsn := nextL_snoc ((L.take j).map RowR.r) st.of L[j].r
   rw [← hst, ← hOF] at hsn
   rw [← hOF] at hofj
   have hdn := HI.out.done
   rw [← hOF] at hdn
   obtain ⟨xx, hx⟩ : ∃ x, x = L[j] := ⟨_, rfl⟩
   rw [← hx] at hgr hxa hsn
   obtain ⟨⟨ro, af, key, val, gone, ttl⟩, va, vc⟩ := xx
   obtain ⟨v10, hv10, hb10⟩ := low_1023 ro
   obtain ⟨A, hA, hbA⟩ := low_65535 af
   obtain ⟨oN, hoN⟩ : ∃ oN, oN = v10 % 5 := ⟨_, rfl⟩
   have hoL : oN < 5 := by omega
   have hRO : rowO ⟨ro, af, key, val, gone, ttl⟩ = oN := by unfold rowO; rw [hb10, hoN]; rfl
   have hRA : rowA ⟨ro, af, key, val, gone, ttl⟩ = (A : Int) := hbA
   have hrem : Int.tmod (v10 : Int) 5 = (oN : Int) := by rw [hoN]; exact (Int.ofNat_tmod v10 5).symm
   obtain ⟨s0, hs0⟩ : ∃ z, z = (ofAt OF oN).seq := ⟨_, rfl⟩
   obtain ⟨m0, hm0⟩ : ∃ z, z = (ofAt OF oN).m := ⟨_, rfl⟩
   obtain ⟨c0, hc0⟩ : ∃ z, z = (ofAt OF oN).c := ⟨_, rfl⟩
   have bs := hofj.seq oN
   have bm := hofj.m oN
   have bc := hofj.c oN
   rw [← hs0] at bs
   rw [← hm0] at bm
   rw [← hc0] at bc
   obtain ⟨m1, hm1⟩ : ∃ z, z = m0 + (A : Int) := ⟨_, rfl⟩
   obtain ⟨c1, hc1⟩ : ∃ z : Int, z = if (A : Int) = 0 then c0 + 1 else (oN : Int) := ⟨_, rfl⟩
   have hNM : nextM OF ⟨ro, af, key, val, gone, ttl⟩ = m1 := by unfold nextM; rw [hRO, hRA, ← hm0, hm1]
   have hNC : nextC OF ⟨ro, af, key, val, gone, ttl⟩ = c1 := by unfold nextC; rw [hRO, hRA, ← hc0, hc1]
   obtain ⟨yv, ya, yc, hyv, hyr, hyg⟩ : ∃ (yv : VerS) (ya : Option Addr) (yc : Nat), yv = nextV ⟨ro, af, key, val, gone, ttl⟩ m1 c1 ∧ VerR.rd ⟨yv, ya, yc⟩ w00 ∧ ((gone = true ∧ verC ⟨yv, ya, yc⟩ = [.int .i64 m1, .int .i64 c1, .int .i64 (oN : Int), .slice none 0 0, .bool true, .int .i64 0]) ∨ (gone = false ∧ verC ⟨yv, ya, yc⟩ = [.int .i64 m1, .int .i64 c1, .int .i64 (oN : Int), .slice va val.length vc, .bool false, .int .i64 ttl])) := by
    cases gone with
    | true => exact ⟨_, none, 0, rfl, ⟨by unfold nextV; exact Rd.nil _ _ _, Nat.le_refl _, Nat.zero_le _⟩, .inl ⟨rfl, by unfold verC VerR.sl nextV; rw [← hRO]; rfl⟩⟩
    | false => exact ⟨_, va, vc, rfl, ⟨by unfold nextV; exact hxa.rd, by unfold nextV; exact hxa.le, by simp only [maxLen]; have : vc ≤ 140737488351232 := hxa.cap; omega⟩, .inr ⟨rfl, by unfold verC VerR.sl nextV; rw [← hRO]; rfl⟩⟩
   have hns : nextS OF ⟨ro, af, key, val, gone, ttl⟩ = ⟨(oN : Int), s0 + 1, key, yv⟩ := by unfold nextS; rw [hNM, hNC, ← hyv, hRO, ← hs0]
   have hyo : yv.m = m1 ∧ yv.c = c1 ∧ yv.o = (oN : Int) := by rw [hyv, ← hRO]; exact nextV_st _ _ _
   obtain ⟨vl, hvl⟩ : ∃ k, k = val.length := ⟨_, rfl⟩
   rw [← hvl] at hyg
   have R1 := Lib.hid (show wr.rangeAt g (off + j * 6) [.int .i64 ro, .int .i64 af, .string key, .slice va vl vc, .bool gone, .int .i64 ttl] from by rw [hvl]; exact hgr wr hkr)
   have hg3 := hkr.lt hgl
   obtain ⟨w5, hw5⟩ : ∃ W, W = wr.alloc (.cells #[.int .i64 ro, .int .i64 af, .string key, .slice va vl vc, .bool gone, .int .i64 ttl] 113) := ⟨_, rfl⟩
   have k5 : Kp No wr w5 := by rw [hw5]; exact (Kp.refl _ _).alloc _
   have b5 : w5.heap[wr.heap.size]? = some (.cells #[.int .i64 ro, .int .i64 af, .string key, .slice va vl vc, .bool gone, .int .i64 ttl] 113 (0, 0)) := by rw [hw5]; exact heap_alloc_new wr _
   obtain ⟨p, hp⟩ : ∃ p, p = wr.heap.size := ⟨_, rfl⟩
   rw [← hp] at b5
   have bq5 := k5.get hdn fun x => x
   have c50 : w5.cell? ⟨p, 0, none⟩ = some (.int .i64 ro) := cell_at b5 0
   have hp5 := get_lt b5
   have HW5 := Lib.hid hw5
   have H5 := Lib.hid (And.intro (hkr.trans_same k5) (And.intro b5 bq5))
   have HP := Lib.hid hp
   have HPW := Lib.hid (show w.heap.size ≤ p from by rw [hp]; exact hkr.size)
   have HV := Lib.hid (And.intro hsn (And.intro hns (And.intro hyo hyr)))
   have HYG := Lib.hid hyg
   have HDF := Lib.hid (And.intro hofj (And.intro hs0 (And.intro hm0 (And.intro hc0 (And.intro hRO hOF)))))
   have HC1 := Lib.hid hc1
   have HM1 := Lib.hid hm1
   have bs1 : s0 ≤ 2000000000000 := by omega
   have bm1 : m0 ≤ 300000000000000 := by omega
   have bc1 : c0 ≤ 70000 := by omega
   have bs2 := bs.1
   have bm2 := bm.1
   have bc2 := bc.1
   clear hgr hxa hst hofj hOF hsn hdn hx hoN hRO hRA hs0 hm0 hc0 bs bm bc hm1 hc1 hNM hNC hyv hyr hyg hns hyo hvl hw5 k5 b5 hp bq5 hkr hgl hjL hv10
   go_upto_region 7 with (first
    | (refine wpList_load_w rfl 113 _ rfl g (off + j * 6) rfl _ _ R1 Tryz.underlying113 rfl (by kernel_rfl) ?_)
    | (refine wpList_store_w rfl 113 _ _ rfl wr.heap.size (by rfl) _ _ _ rfl rfl (by kernel_rfl) (by rfl) (by rfl) ?_))
   rw [← HW5.out, ← HP.out]
   go_upto_region 8 with fail
   have g3 := ofC_get OF hoL
   rw [← HDF.out.2.1, ← HDF.out.2.2.1, ← HDF.out.2.2.2.1] at g3
   have fm : ∀ W, Kp No w5 W → W.cell? ⟨q, oN * 3 + 1, none⟩ = some (.int .i64 m0) := fun W hW => by
    rw [cell_at (hW.get H5.out.2.2 fun x => x)]
    simpa using g3.2.1
   have fc : ∀ W, Kp No w5 W → W.cell? ⟨q, oN * 3 + 2, none⟩ = some (.int .i64 c0) := fun W hW => by
    rw [cell_at (hW.get H5.out.2.2 fun x => x)]
    simpa using g3.2.2
   have fa : ∀ W, Kp No w5 W → W.cell? ⟨p, 1, none⟩ = some (.int .i64 af) := fun W hW => cell_at (hW.get H5.out.2.1 fun x => x) 1
   have hii : ((oN : Nat) : Int) < 5 := Int.ofNat_lt.2 hoL
   have hq5 := get_lt H5.out.2.2
   have G3 := Lib.hid g3
   clear g3 c50
   refine wp_region_held' (Kp No w5) [0,0,0,0,0,0,0,0,0,0,0,0,0,0,0,2,2] [0,1,2,3,4,5,6,7,8,9,10,11,12,13,14,15,16] (by kernel_rfl) (by kernel_rfl) (fun _ n h => h.drewN n) (Kp.refl _ _) ?_
   repeat (first
    | (apply wpOrd_skip rfl (by decide) rfl; (focus (go_simp; rfl)))
    | (apply wpOrd_pure rfl rfl rfl; (focus (intro _ _; go_simp; (try go_ints); rfl)); (focus (go_simp; rfl)))
    | (apply wpOrd_read rfl rfl rfl; (focus (intro _; go_simp; (try go_ints); rfl)); (focus (go_simp; rfl))))
   refine wpOrd_eff rfl rfl (fun n1 => ?_)
   go_wp2_with fail
   obtain ⟨sb, hsb⟩ : ∃ b, b = w5.heap.size := ⟨_, rfl⟩
   obtain ⟨w6, hw6⟩ : ∃ W, W = (w5.drewN n1).alloc (.cells #[.int .i64 0, .int .i64 0] 25) := ⟨_, rfl⟩
   have k6 : Kp No w5 w6 := by rw [hw6]; exact ((Kp.refl No w5).drewN n1).alloc _
   have b6 : w6.heap[sb]? = some (.cells #[.int .i64 0, .int .i64 0] 25 (0, 0)) := by
    rw [hw6, hsb]
    exact heap_alloc_new (w5.drewN n1) _
   rw [← hw6, ← hsb]
   refine ⟨k6, ?_⟩
   have HSB := Lib.hid hsb
   have H6 := Lib.hid (And.intro k6 b6)
   clear hw6 hsb k6 b6
   repeat (first
    | (apply wpOrd_skip rfl (by decide) rfl; (focus (go_simp; rfl)))
    | (apply wpOrd_pure rfl rfl rfl; (focus (intro _ _; go_simp; (try go_ints); rfl)); (focus (go_simp; rfl)))
    | (apply wpOrd_read rfl rfl rfl; (focus (intro _; go_simp; (try go_ints); rfl)); (focus (go_simp; rfl))))
   refine wpOrd_eff rfl rfl (fun n2 => ?_)
   obtain ⟨w7, hw7⟩ : ∃ W, W = w6.drewN n2 := ⟨_, rfl⟩
   have k7 : Kp No w6 w7 := by rw [hw7]; exact (Kp.refl No w6).drewN n2
   have b7 := k7.get H6.out.2 fun x => x
   have y0 : w7.cell? ⟨sb, 0, none⟩ = some (.int .i64 0) := cell_at b7 0
   have y1 : w7.cell? ⟨sb, 1, none⟩ = some (.int .i64 0) := cell_at b7 1
   have f0 := free_at b7 0
   have f1 := free_at b7 1
   have l7 := get_lt b7
   have H7 := Lib.hid (And.intro (H6.out.1.trans_same k7) b7)
   rw [← hw7]
   clear hw7 k7 b7
   go_wp2_with fail
   obtain ⟨w8, hw8⟩ : ∃ W, W = (w7.setCell ⟨sb, 0, none⟩ (.int .i64 (m0 + (A : Int)))).setCell ⟨sb, 1, none⟩ (.int .i64 c0) := ⟨_, rfl⟩
   have k8 : Kp No w5 w8 := by
    rw [hw8]
    exact (H7.out.1.setCell (p := ⟨sb, 0, none⟩) (.inr (Nat.le_of_eq HSB.out.symm)) _).setCell (p := ⟨sb, 1, none⟩) (.inr (Nat.le_of_eq HSB.out.symm)) _
   have b8 : w8.heap[sb]? = some (.cells #[.int .i64 m1, .int .i64 c0] 25 (0, 0)) := by
    rw [hw8, set_at (set_at H7.out.2 0 _) 1 _, HM1.out]
    rfl
   rw [← hw8]
   refine ⟨k8, ?_⟩
   have H8 := Lib.hid (And.intro k8 b8)
   clear hw8 k8 b8 y0 y1 f0 f1 l7 fm fc fa
   refine wpOrd_nil (fun nq => ?_)
   obtain ⟨w9, hw9⟩ : ∃ W, W = w8.drewN nq := ⟨_, rfl⟩
   have k9 : Kp No w5 w9 := by rw [hw9]; exact H8.out.1.drewN nq
   have b9 : w9.heap[sb]? = some (.cells #[.int .i64 m1, .int .i64 c0] 25 (0, 0)) := by rw [hw9]; exact H8.out.2
   have p9 := k9.get H5.out.2.1 fun x => x
   have c91 : w9.cell? ⟨p, 1, none⟩ = some (.int .i64 af) := cell_at p9 1
   have s91 : w9.cell? ⟨sb, 1, none⟩ = some (.int .i64 c0) := cell_at b9 1
   have sf9 := free_at b9 1
   have sl9 := get_lt b9
   have pl9 := get_lt p9
   have H9 := Lib.hid (And.intro k9 b9)
   rw [← hw9]
   clear hw9 k9 b9 p9
   go_upto_if 48 with fail
   go_cut [10] from 22 to 89 (fun s10 wx => s10 = .pointer (some ⟨sb, 0, none⟩) ∧ Hid (Kp (Mer.One sb) w9 wx ∧ wx.heap[sb]? = some (.cells #[.int .i64 m1, .int .i64 c1] 25 (0, 0))))
   case first =>
    by_cases hz : (A : Int) = 0
    ·have HCC := Lib.hid (show c1 = c0 + 1 by rw [HC1.out, if_pos hz])
     have hz1 : ((A : Int) == 0) = true := by rw [beq_iff_eq]; exact hz
     have hz2 : (A == 0) = true := by rw [beq_iff_eq]; omega
     clear hz
     go_wp2_with fail
     go_meet
     case rel =>
      refine ⟨rfl, Lib.hid ⟨(Kp.refl (Mer.One sb) w9).setCell (p := ⟨sb, 1, none⟩) (.inl (show Mer.One sb sb from rfl)) _, ?_⟩⟩
      rw [set_at H9.out.2 1 _, HCC.out]
      rfl
    ·have HCC := Lib.hid (show c1 = (oN : Int) by rw [HC1.out, if_neg hz])
     have hz1 : ((A : Int) == 0) = false := by rw [beq_eq_false_iff_ne]; exact hz
     have hz2 : (A == 0) = false := by rw [beq_eq_false_iff_ne]; omega
     have hz3 : ¬ A = 0 := by omega
     go_wp2_with fail
     go_meet
     case rel =>
      refine ⟨rfl, Lib.hid ⟨(Kp.refl (Mer.One sb) w9).setCell (p := ⟨sb, 1, none⟩) (.inl (show Mer.One sb sb from rfl)) _, ?_⟩⟩
      rw [set_at H9.out.2 1 _, HCC.out]
      rfl
   case rest =>
   obtain ⟨rfl, HW10⟩ := hcut
   rename World => w10
   have k10 : Kp No w5 w10 := H9.out.1.trans HW10.out.1 fun i hi e => by
    have h1 := HSB.out
    have e : i = sb := e
    omega
   have hqsb : q ≠ sb := by have := HSB.out; omega
   have hpsb : p ≠ sb := by have := HSB.out; omega
   have b10 := HW10.out.2
   have q10 := k10.get H5.out.2.2 fun x => x
   have p10 := k10.get H5.out.2.1 fun x => x
   have H10 := Lib.hid (And.intro k10 (And.intro b10 (And.intro q10 p10)))
   obtain ⟨s1, hs1⟩ : ∃ z, z = s0 + 1 := ⟨_, rfl⟩
   have g10 : w10.cell? ⟨q, oN * 3, none⟩ = some (.int .i64 s0) := by rw [cell_at q10]; simpa using G3.out.1
   have fq10 := free_at q10 (oN * 3)
   have lq10 := get_lt q10
   have HS1 := Lib.hid hs1
   have HNE := Lib.hid (And.intro hqsb hpsb)
   clear k10 b10 q10 p10 hqsb hpsb c91 s91 sf9 sl9 pl9 hs1
   go_upto_region 13 with fail
   obtain ⟨w11, hw11⟩ : ∃ W, W = w10.setCell ⟨q, oN * 3, none⟩ (.int .i64 (s0 + 1)) := ⟨_, rfl⟩
   have k11 : Kp (Mer.One q) w10 w11 := by rw [hw11]; exact (Kp.refl (Mer.One q) w10).setCell (p := ⟨q, oN * 3, none⟩) (.inl (show Mer.One q q from rfl)) _
   have q11 := set_at H10.out.2.2.1 (oN * 3) (.int .i64 (s0 + 1))
   have b11 := k11.get H10.out.2.1 fun e => HNE.out.1 (show sb = q from e).symm
   rw [← hw11] at q11 ⊢
   have z0 : w11.cell? ⟨sb, 0, none⟩ = some (.int .i64 m1) := cell_at b11 0
   have z1 : w11.cell? ⟨sb, 1, none⟩ = some (.int .i64 c1) := cell_at b11 1
   have zl := get_lt b11
   have g11 : w11.cell? ⟨q, oN * 3 + 1, none⟩ = some (.int .i64 m0) := by
    rw [cell_at q11]
    have := G3.out.2.1
    simpa [List.getElem?_set] using this
   have g12 : w11.cell? ⟨q, oN * 3 + 2, none⟩ = some (.int .i64 c0) := by
    rw [cell_at q11]
    have := G3.out.2.2
    simpa [List.getElem?_set] using this
   have f11 := free_at q11 (oN * 3 + 1)
   have f12 := free_at q11 (oN * 3 + 2)
   have lq11 := get_lt q11
   have H11 := Lib.hid (And.intro k11 (And.intro q11 b11))
   clear hw11 k11 q11 b11 g10 fq10 lq10
   go_upto_region 14 with fail
   obtain ⟨w12, hw12⟩ : ∃ W, W = (w11.setCell ⟨q, oN * 3 + 1, none⟩ (.int .i64 m1)).setCell ⟨q, oN * 3 + 2, none⟩ (.int .i64 c1) := ⟨_, rfl⟩
   have k12 : Kp (Mer.One q) w10 w12 := by
    rw [hw12]
    exact (H11.out.1.setCell (p := ⟨q, oN * 3 + 1, none⟩) (.inl (show Mer.One q q from rfl)) _).setCell (p := ⟨q, oN * 3 + 2, none⟩) (.inl (show Mer.One q q from rfl)) _
   have q12 := set_at (set_at H11.out.2.1 (oN * 3 + 1) (.int .i64 m1)) (oN * 3 + 2) (.int .i64 c1)
   rw [← hw12] at q12 ⊢
   have hdone : w12.heap[q]? = some (.cells (ofC (OF.set oN ⟨s1, m1, c1⟩)).toArray 62 (0, 0)) := by
    rw [q12, ← ofC_set OF HDF.out.1.five hoL ⟨s1, m1, c1⟩, HS1.out]
    simp
   have HQ12 := Lib.hid k12
   have b12 := k12.get H10.out.2.1 fun e => HNE.out.1 (show sb = q from e).symm
   have hpq : p ≠ q := ne_of_type H5.out.2.1 H5.out.2.2 (by decide)
   have p12 := k12.get H10.out.2.2.2 fun e => hpq (show p = q from e)
   have x0 : w12.cell? ⟨sb, 0, none⟩ = some (.int .i64 m1) := cell_at b12 0
   have x1 : w12.cell? ⟨sb, 1, none⟩ = some (.int .i64 c1) := cell_at b12 1
   have xl := get_lt b12
   have x3 : w12.cell? ⟨p, 3, none⟩ = some (.slice va vl vc) := cell_at p12 3
   have x4 : w12.cell? ⟨p, 4, none⟩ = some (.bool gone) := cell_at p12 4
   have x5 : w12.cell? ⟨p, 5, none⟩ = some (.int .i64 ttl) := cell_at p12 5
   have xp := get_lt p12
   have H12 := Lib.hid (And.intro ((H5.out.1.trans_same H10.out.1).trans k12 fun i hi e => by
    have h1 := HQ.out
    have e : i = q := e
    omega) (And.intro hdone (And.intro b12 p12)))
   obtain ⟨w13, hw13⟩ : ∃ W, W = w12.alloc (.cells #[.int .i64 m1, .int .i64 c1, .int .i64 (oN : Int), .slice va vl vc, .bool false, .int .i64 ttl] 44) := ⟨_, rfl⟩
   obtain ⟨vb, hvb⟩ : ∃ b, b = w12.heap.size := ⟨_, rfl⟩
   have k13 : Kp No w12 w13 := by rw [hw13]; exact (Kp.refl _ _).alloc _
   have b13 : w13.heap[vb]? = some (.cells #[.int .i64 m1, .int .i64 c1, .int .i64 (oN : Int), .slice va vl vc, .bool false, .int .i64 ttl] 44 (0, 0)) := by rw [hw13, hvb]; exact heap_alloc_new w12 _
   have HW13 := Lib.hid hw13
   have HVB := Lib.hid hvb
   have H13 := Lib.hid (And.intro k13 b13)
   clear hw12 k12 q12 hdone b12 p12 hpq g11 g12 f11 f12 lq11 z0 z1 zl hw13 hvb k13 b13
   go_upto_region 15 with (refine wpList_store_w rfl 44 _ _ rfl w12.heap.size (by rfl) _ _ _ rfl rfl (by kernel_rfl) (by rfl) (by rfl) ?_)
   rw [← HW13.out, ← HVB.out]
   clear x0 x1 xl x3 x4 x5 xp
   have p13 := H13.out.1.get H12.out.2.2.2 fun x => x
   have s13 := H13.out.1.get H12.out.2.2.1 fun x => x
   have x4 : w13.cell? ⟨p, 4, none⟩ = some (.bool gone) := cell_at p13 4
   have xp := get_lt p13
   have x0 : w13.cell? ⟨sb, 0, none⟩ = some (.int .i64 m1) := cell_at s13 0
   have x1 : w13.cell? ⟨sb, 1, none⟩ = some (.int .i64 c1) := cell_at s13 1
   have xl := get_lt s13
   clear p13 s13
   go_upto_if 74 with fail
   go_cut [11] from 22 to 89 (fun s11 wx => s11 = .pointer (some ⟨vb, 0, none⟩) ∧ Hid (Kp (Mer.One vb) w13 wx ∧ wx.heap[vb]? = some (.cells (verC ⟨yv, ya, yc⟩).toArray 44 (0, 0))))
   case first =>
    rcases HYG.out with ⟨hg, hv⟩ | ⟨hg, hv⟩
    ·have HVV := Lib.hid hv
     subst hg
     have u0 : w13.cell? ⟨vb, 0, none⟩ = some (.int .i64 m1) := cell_at H13.out.2 0
     have u1 : w13.cell? ⟨vb, 1, none⟩ = some (.int .i64 c1) := cell_at H13.out.2 1
     have u2 : w13.cell? ⟨vb, 2, none⟩ = some (.int .i64 (oN : Int)) := cell_at H13.out.2 2
     have u3 : w13.cell? ⟨vb, 3, none⟩ = some (.slice va vl vc) := cell_at H13.out.2 3
     have u4 : w13.cell? ⟨vb, 4, none⟩ = some (.bool false) := cell_at H13.out.2 4
     have u5 : w13.cell? ⟨vb, 5, none⟩ = some (.int .i64 ttl) := cell_at H13.out.2 5
     have v0 := free_at H13.out.2 0
     have v1 := free_at H13.out.2 1
     have v2 := free_at H13.out.2 2
     have v3 := free_at H13.out.2 3
     have v4 := free_at H13.out.2 4
     have v5 := free_at H13.out.2 5
     have vl13 := get_lt H13.out.2
     clear hv
     go_wp2_with fail
     go_meet
     case rel =>
      refine ⟨rfl, Lib.hid ⟨?_, ?_⟩⟩
      ·exact ((((((Kp.refl (Mer.One vb) w13).setCell (p := ⟨vb, 0, none⟩) (.inl (show Mer.One vb vb from rfl)) _).setCell (p := ⟨vb, 1, none⟩) (.inl (show Mer.One vb vb from rfl)) _).setCell (p := ⟨vb, 2, none⟩) (.inl (show Mer.One vb vb from rfl)) _).setCell (p := ⟨vb, 3, none⟩) (.inl (show Mer.One vb vb from rfl)) _).setCell (p := ⟨vb, 4, none⟩) (.inl (show Mer.One vb vb from rfl)) _).setCell (p := ⟨vb, 5, none⟩) (.inl (show Mer.One vb vb from rfl)) _
      ·rw [set_at (set_at (set_at (set_at (set_at (set_at H13.out.2 0 _) 1 _) 2 _) 3 _) 4 _) 5 _, HVV.out]
       rfl
    ·have HVV := Lib.hid hv
     subst hg
     clear hv
     go_wp2_with fail
     go_meet
     case rel => exact ⟨rfl, Lib.hid ⟨Kp.refl _ _, by rw [HVV.out]; exact H13.out.2⟩⟩
   case rest =>
   obtain ⟨rfl, HW14⟩ := hcut
   rename World => w14
   have hvq : vb ≠ q := by
    have h1 := HVB.out
    have h2 := get_lt H12.out.2.1
    omega
   have hvp : vb ≠ p := by
    have h1 := HVB.out
    have h2 := get_lt H12.out.2.2.2
    omega
   have k14 : Kp (Mer.One vb) w12 w14 := (Kp.of_no H13.out.1).trans_same HW14.out.1
   have kw14 : Kp No w w14 := H12.out.1.trans k14 fun i hi e => by
    have h1 := HVB.out
    have h2 := H12.out.1.size
    have e : i = vb := e
    omega
   have q14 := k14.get H12.out.2.1 fun e => hvq (show q = vb from e).symm
   have p14 := k14.get H12.out.2.2.2 fun e => hvp (show p = vb from e).symm
   have b14 := HW14.out.2
   have hqr : wr.heap[q]? = some (.cells (ofC (nextOf st.of ((L.take j).map RowR.r))).toArray 62 (0, 0)) := HI.out.done
   have kwr : Kp (fun i => i = q ∨ wr.heap.size ≤ i) wr w14 := by
    have a1 : Kp (fun i => i = q ∨ wr.heap.size ≤ i) wr w5 := by rw [HW5.out]; exact (Kp.refl _ _).alloc _
    have a2 := a1.trans_same (Kp.of_no H10.out.1)
    refine (a2.trans (T := Mer.One q) (HQ12.out) fun i hi e => .inl e).trans k14 fun i hi e => ?_
    have e : i = vb := e
    have h1 := HVB.out
    have h2 := a2.size
    exact .inr (by have := HQ12.out.size; omega)
   have hown14 : Own w14 46 9 (.slice ra j c) j (R.flatMap recC) := HI.out.row.2.1.keep kwr fun gg hgg hh => by
    obtain ⟨cur, hcur⟩ := HI.out.row.2.1.type gg hgg
    rcases hh with hh | hh
    ·exact ne_of_type hcur hqr (by decide) hh
    ·have := get_lt hcur
     omega
   have hrow14 : RowRel 46 9 recC w w14 (.slice ra j c) j R := ⟨HI.out.row.1, hown14, HI.out.row.2.2.1, kw14⟩
   have hnt : ∀ gg, (Value.slice ra j c).ownBlock = some gg → gg ≠ q ∧ gg ≠ p ∧ gg ≠ vb := fun gg hgg => by
    obtain ⟨cur, hcur⟩ := hown14.type gg hgg
    exact ⟨ne_of_type hcur q14 (by decide), ne_of_type hcur p14 (by decide), ne_of_type hcur b14 (by decide)⟩
   have fq : ∀ W, Kp (fun k => (Value.slice ra j c).ownBlock = some k) w14 W → W.cell? ⟨q, oN * 3, none⟩ = some (.int .i64 s1) := fun W hW => by
    rw [cell_at (hW.get q14 fun e => (hnt q e).1 rfl)]
    have := (ofC_get (OF.set oN ⟨s1, m1, c1⟩) hoL).1
    rw [ofAt_set (by rw [HDF.out.1.five]; exact hoL), if_pos rfl] at this
    simpa using this
   have fk : ∀ W, Kp (fun k => (Value.slice ra j c).ownBlock = some k) w14 W → W.cell? ⟨p, 2, none⟩ = some (.string key) := fun W hW => cell_at (hW.get p14 fun e => (hnt p e).2.1 rfl) 2
   have RV := Lib.hid (show ∀ W, Kp (fun k => (Value.slice ra j c).ownBlock = some k) w14 W → W.rangeAt vb 0 [.int .i64 yv.m, .int .i64 yv.c, .int .i64 yv.o, .slice ya yv.val.length yc, .bool yv.gone, .int .i64 yv.ttl] from fun W hW => by
    have := rangeAt_block (hW.get b14 fun e => (hnt vb e).2.2 rfl) 0 6
    exact this)
   have H14 := Lib.hid (And.intro hrow14 (And.intro q14 (And.intro hnt kw14)))
   have hq14 := get_lt q14
   have hp14 := get_lt p14
   clear hvq hvp k14 kw14 q14 p14 b14 hqr kwr hown14 hrow14 hnt x0 x1 xl x4 xp hq5 hp5
   go_upto_region 17 with fail
   refine wp_region_held' (Kp (fun k => (Value.slice ra j c).ownBlock = some k) w14) [0,0,0,0,0,0,0,0,0,0,2,2,0] [0,1,2,3,4,5,6,7,8,9,10,11,12] (by kernel_rfl) (by kernel_rfl) (fun _ n h => h.drewN n) (Kp.refl _ _) ?_
   repeat (first
    | (apply wpOrd_skip rfl (by decide) rfl; (focus (go_simp; rfl)))
    | (apply wpOrd_pure rfl rfl rfl; (focus (intro _ _; go_simp; (try go_ints); rfl)); (focus (go_simp; rfl)))
    | (apply wpOrd_read rfl rfl rfl; (focus (intro _; go_simp; (try go_ints); rfl)); (focus (go_simp; rfl))))
   apply wpOrd_pure rfl rfl rfl
   ·intro W hW
    exact exec_load_w 44 _ rfl vb 0 rfl [.int .i64 yv.m, .int .i64 yv.c, .int .i64 yv.o, .slice ya yv.val.length yc, .bool yv.gone, .int .i64 yv.ttl] _ (RV.out W hW) Tryz.underlying44 rfl (by kernel_rfl)
   ·(focus (go_simp; rfl))
   repeat (first
    | (apply wpOrd_skip rfl (by decide) rfl; (focus (go_simp; rfl)))
    | (apply wpOrd_pure rfl rfl rfl; (focus (intro _ _; go_simp; (try go_ints); rfl)); (focus (go_simp; rfl)))
    | (apply wpOrd_read rfl rfl rfl; (focus (intro _; go_simp; (try go_ints); rfl)); (focus (go_simp; rfl))))
   refine wpOrd_eff rfl rfl (fun n3 => ?_)
   go_wp2_with fail
   obtain ⟨nb, hnb⟩ : ∃ b, b = w14.heap.size := ⟨_, rfl⟩
   obtain ⟨w15, hw15⟩ : ∃ W, W = (w14.drewN n3).alloc (.cells #[.int .i64 (oN : Int), .int .i64 s1, .string key, .int .i64 yv.m, .int .i64 yv.c, .int .i64 yv.o, .slice ya yv.val.length yc, .bool yv.gone, .int .i64 yv.ttl] 46) := ⟨_, rfl⟩
   have k15 : Kp No w14 w15 := by rw [hw15]; exact ((Kp.refl No w14).drewN n3).alloc _
   have b15 : w15.heap[nb]? = some (.cells #[.int .i64 (oN : Int), .int .i64 s1, .string key, .int .i64 yv.m, .int .i64 yv.c, .int .i64 yv.o, .slice ya yv.val.length yc, .bool yv.gone, .int .i64 yv.ttl] 46 (0, 0)) := by
    rw [hw15, hnb]
    exact heap_alloc_new (w14.drewN n3) _
   rw [← hw15, ← hnb]
   refine ⟨Kp.of_no k15, ?_⟩
   have H15 := Lib.hid (And.intro k15 b15)
   clear hw15 hnb k15 b15
   repeat (first
    | (apply wpOrd_skip rfl (by decide) rfl; (focus (go_simp; rfl)))
    | (apply wpOrd_pure rfl rfl rfl; (focus (intro _ _; go_simp; (try go_ints); rfl)); (focus (go_simp; rfl)))
    | (apply wpOrd_read rfl rfl rfl; (focus (intro _; go_simp; (try go_ints); rfl)); (focus (go_simp; rfl))))
   refine wpOrd_eff rfl rfl (fun n4 => ?_)
   obtain ⟨w16, hw16⟩ : ∃ W, W = w15.drewN n4 := ⟨_, rfl⟩
   have k16 : Kp No w14 w16 := by rw [hw16]; exact H15.out.1.drewN n4
   have b16 : w16.heap[nb]? = some (.cells #[.int .i64 (oN : Int), .int .i64 s1, .string key, .int .i64 yv.m, .int .i64 yv.c, .int .i64 yv.o, .slice ya yv.val.length yc, .bool yv.gone, .int .i64 yv.ttl] 46 (0, 0)) := by rw [hw16]; exact H15.out.2
   obtain ⟨a', c', W', hrun, hrel, hkp⟩ := RowRel.app (P := Tryz.prog) (T := 26) Tryz.underlying26 infoRec recC_one (H14.out.1.keep k16) [(⟨⟨(oN : Int), s1, key, yv⟩, ya, yc⟩ : RecR)] (one_src (f := recC) recC_len (x := ⟨⟨(oN : Int), s1, key, yv⟩, ya, yc⟩) b16 rfl) rfl (by unfold maxLen; omega) (by omega)
   have HX := Lib.hid hrun
   have H16 := Lib.hid (And.intro hrel (And.intro k16 hkp))
   rw [← hw16]
   clear hw16 k16 b16 hrun hrel hkp fq fk RV
   refine wpList_append_run rfl rfl rfl rfl HX.out (wpList_nil ⟨rfl, ?_⟩)
   refine ⟨(Kp.of_no H16.out.2.1).trans_same H16.out.2.2, ?_⟩
   repeat (first
    | (apply wpOrd_skip rfl (by decide) rfl; (focus (go_simp; rfl)))
    | (apply wpOrd_pure rfl rfl rfl; (focus (intro _ _; go_simp; (try go_ints); rfl)); (focus (go_simp; rfl)))
    | (apply wpOrd_read rfl rfl rfl; (focus (intro _; go_simp; (try go_ints); rfl)); (focus (go_simp; rfl))))
   refine wpOrd_nil (fun nq => ?_)
   obtain ⟨w18, hw18⟩ : ∃ W, W = W'.drewN nq := ⟨_, rfl⟩
   have k18 : Kp No W' w18 := by rw [hw18]; exact (Kp.refl No W').drewN nq
   have q18 := k18.get (H16.out.2.2.get (H16.out.2.1.get H14.out.2.1 fun x => x) fun e => (H14.out.2.2.1 q e).1 rfl) fun x => x
   have HI2 := Lib.hid (show NxI w00 w q st.of L (j + 1) a' c' (R ++ [(⟨⟨(oN : Int), s1, key, yv⟩, ya, yc⟩ : RecR)]) w18 from by
    obtain ⟨⟨e1, e2⟩, hns, hyo, hyr⟩ := HV.out
    rw [hns] at e1 e2
    refine ⟨H16.out.1.keep k18, ?_, fun z hz => ?_, ?_⟩
    ·rw [q18, e2]
     unfold doneR
     simp only [Int.toNat_natCast]
     rw [HS1.out, hyo.1, hyo.2.1]
    ·rcases List.mem_append.1 hz with hz | hz
     ·exact HI.out.rd z hz
     ·rw [List.mem_singleton] at hz
      rw [hz]
      exact hyr
    ·rw [List.map_append, HI.out.eq, e1, HS1.out]
     rfl)
   rw [← hw18]
   clear hw18 k18 q18 HI
   go_wp2_with fail
   go_roundw
   case rel => exact ⟨j + 1, c', a', _, hlt, by go_num, rfl, HI2⟩
   case measure => simp [intOf]; omega
  ·obtain rfl : j = n := by omega
   have HE := Lib.hid (show NextP w00 w st.of L (.returned (.slice ra j c)) wr from by
    have hlen := HI.out.row.1
    have heq := HI.out.eq
    rw [HN.out, List.take_length] at heq
    have ho := HI.out.row.2.1
    have hnw := HI.out.row.2.2.1
    rw [hlen] at ho hnw ⊢
    exact ⟨ra, c, R, rfl, ho, heq, HI.out.rd, hnw, HI.out.row.2.2.2⟩)
   clear hge
   go_wp2_with fail
   go_ret
   exact HE.out
end Go.Proofs.YtgnkmjeoaoongaaGreatDoor
