/-
  store's law StoreOrder, walked: it answers true.
-/
import Derived.Deep.CutBlock
import Derived.Test.YtgnkmjeoaoongaaGreatDoorSe1
import Derived.Test.YtgnkmjeoaoongaaGreatDoorSe3
import Derived.Test.YtgnkmjeoaoongaaGreatDoorSe2
import Derived.Test.YtgnkmjeoaoongaaGreatDoorSd1
import Derived.Test.YtgnkmjeoaoongaaGreatDoorSe0
namespace Go.Proofs.YtgnkmjeoaoongaaGreatDoor
open Go.RowKit Go.Mer
section
variable {w0 w w' : World} {p d s r x o B : Nat} {P : ByteArray} {st st' : SSt} {ds ds' : DSt} {lg lg' : LSt} {H1 H2 : Nat → Prop}
theorem PairAt.kpS {S : Nat → Prop} (h : PairAt w0 w p d s r x P o st ds lg st' ds' lg' B H1 H2) (hk : Kp S w w') (hp : ¬ S p) (h1 : ∀ k, H1 k → ¬ S k) (h2 : ∀ k, H2 k → ¬ S k) (hn : ∀ k, S k → w0.heap.size ≤ k) : PairAt w0 w' p d s r x P o st ds lg st' ds' lg' B H1 H2 :=
 ⟨hk.get h.cell hp, h.prog.keep hk h1, h.ref.keep hk h2, h.sep, h.p1, h.p2, h.new, h.kp.trans hk fun i hi hs => by have := hn i hs; omega⟩
theorem PairAt.keys (h : PairAt w0 w p d s r x P o st ds lg st' ds' lg' B H1 H2) (hinv : Inv o st) (hB : B ≤ 1000000) (hkn : st.keys.length ≤ 1000000) (hm : manySt st ≤ 1000000000) :
  Calls Tryz.prog 19 #[.pointer (some ⟨s, 0, none⟩)] w fun e w' => ∃ a c, e = .returned (.tuple #[.slice a (st.keys.map (·.1)).length c, .int .i64 (manySt st : Int)]) ∧ Rd w' w'.heap.size a ((st.keys.map (·.1)).map Value.string) ∧ Kp No w w' := by
 obtain ⟨l, m, cs, ka, kc, K, F, G, h1, h2, _⟩ := h.prog
 have hlen : cs.length = st.keys.length := by
  have := h1.st.perm.length_eq
  unfold keysL2 at this
  rwa [List.length_map] at this
 exact keys_any h1.st hinv (fun p hp => Nat.le_trans (h2 p hp) hB) (by omega) hm
theorem PairAt.age (h : PairAt w0 w p d s r x P o st ds lg st' ds' lg' B H1 H2) : Calls Tryz.prog 20 #[.pointer (some ⟨s, 0, none⟩)] w fun e w' => e = .returned (.tuple #[.int .i64 (st.age : Int), .int .i64 (st.n : Int)]) ∧ Kp No w w' := by
 obtain ⟨l, m, cs, ka, kc, K, F, G, h1, h2, _⟩ := h.prog
 exact age_any h1.st
end
def OrdR (w w2 wx : World) (p d s r x : Nat) (H1 H2 : Nat → Prop) (a' : Option Addr) (n' c' : Nat) : Prop :=
 ∃ R' : List RecR, R'.length = n' ∧ 1 ≤ n' ∧ n' ≤ 64 ∧ Own wx 46 9 (.slice a' n' c') n' (R'.flatMap recC) ∧ (∀ y ∈ R', y.rd w) ∧ (∀ g, (Value.slice a' n' c').ownBlock = some g → ¬ H1 g) ∧ mayS empS (R'.map RecR.r) = 12 ∧ Kp No w wx ∧
  PairAt w2 wx p d s r x skP 0 empS ⟨1048576, none, []⟩ st0 empS ⟨1048576, none, []⟩ st0 0 H1 H2
theorem ordR_mk {w w2 w3 wr wx : World} {p d s r x n' c' : Nat} {H1 H2 S : Nat → Prop} {a' : Option Addr} (R' : List RecR) (h1 : R'.length = n') (h2 : 1 ≤ n') (h3 : n' ≤ 64) (ho : Own wx 46 9 (.slice a' n' c') n' (R'.flatMap recC)) (hrd : ∀ y ∈ R', y.rd w) (hfr : ∀ g, (Value.slice a' n' c').ownBlock = some g → w3.heap.size ≤ g)
  (hm : mayS empS (R'.map RecR.r) = 12) (hK : Kp No w wr) (hw3 : w.heap.size ≤ w3.heap.size) (hP3 : PairAt w2 w3 p d s r x skP 0 empS ⟨1048576, none, []⟩ st0 empS ⟨1048576, none, []⟩ st0 0 H1 H2) (hP : PairAt w2 wr p d s r x skP 0 empS ⟨1048576, none, []⟩ st0 empS ⟨1048576, none, []⟩ st0 0 H1 H2)
  (hk : Kp S wr wx) (hS : ∀ k, S k → w3.heap.size ≤ k) : OrdR w w2 wx p d s r x H1 H2 a' n' c' :=
 ⟨R', h1, h2, h3, ho, hrd, fun g hg hh => by have := hP3.prog.lt g hh; have := hfr g hg; omega, hm, hK.trans hk fun i hi hs => by have := hS i hs; omega,
  hP.kpS hk (fun h => by have := get_lt hP3.cell; have := hS p h; omega) (fun k hh hs => by have := hP3.prog.lt k hh; have := hS k hs; omega) (fun k hh hs => by have := hP3.ref.lt k hh; have := hS k hs; omega) fun k hs => by have := hS k hs; have := hP3.kp.size; omega⟩
set_option maxRecDepth 100000 in
set_option maxHeartbeats 4000000 in
theorem sorder_any (w : World) (hpow : Pow w) (a : Option Addr) (cap : Nat) (L : List RowR) (hL : RowsIn w a L) (hl : L.length ≤ 140737488351232) (at_ way : Int) :
  Calls Tryz.prog 3 #[.slice a L.length cap, .int .i64 at_, .int .i64 way] w fun e w' => e = .returned (.bool true) ∧ Kp No w w' := by
 obtain ⟨n, hnL⟩ : ∃ n, n = L.length := ⟨_, rfl⟩
 obtain ⟨w1, hw1⟩ : ∃ W, W = w.alloc (.cells #[.int .i64 0, .int .i64 0, .int .u8 0, .int .i64 0, .int .i64 0, .slice a n cap, .slice none 0 0] 28) := ⟨_, rfl⟩
 have k1 : Kp No w w1 := by rw [hw1]; exact (Kp.refl _ _).alloc _
 obtain ⟨b, hb⟩ : ∃ b, b = w.heap.size := ⟨_, rfl⟩
 have hh := heavy1_any w1 b a cap L (by rw [hw1, hb, hnL]; exact heap_alloc_new w _) (hL.kp k1) hl
 have HH := Lib.hid hh
 have HW1 := Lib.hid hw1
 have HK1 := Lib.hid k1
 have HB := Lib.hid hb
 have HN := Lib.hid hnL
 have HL := Lib.hid hL
 have HPW := Lib.hid hpow
 rw [← hnL]
 clear hpow hL hl hw1 k1 hb hh hnL
 go_enter Tryz.func3, Tryz.ntmps3
 go_wp2_with fail
 rw [← HB.out, ← HW1.out]
 refine HH.out.mono ?_
 rintro e w2 ⟨hb, rfl, himp, k2⟩
 have HK2 := Lib.hid (HK1.out.trans_same k2)
 clear k2 HH
 cases hb with
 | true =>
  clear himp
  have HKN := Lib.hid (s16known_any w2 (HPW.out.keep HK2.out))
  go_wp2_with fail
  refine HKN.out.mono ?_
  rintro e wz ⟨rfl, kz⟩
  have HKZ := Lib.hid (HK2.out.trans_same kz)
  clear kz HKN
  go_wp2_with fail
  go_ret
  exact ⟨rfl, HKZ.out⟩
 | false =>
  clear himp
  rcases Nat.lt_or_ge 64 n with h64 | h64
  ·have d1 : decide ((64 : Int) < (n : Int)) = true := decide_eq_true (by omega)
   have d1' : decide (64 < n) = true := decide_eq_true h64
   clear h64
   have HKN := Lib.hid (s16known_any w2 (HPW.out.keep HK2.out))
   go_wp2_with fail
   refine HKN.out.mono ?_
   rintro e wz ⟨rfl, kz⟩
   have HKZ := Lib.hid (HK2.out.trans_same kz)
   clear kz HKN
   go_wp2_with fail
   go_ret
   exact ⟨rfl, HKZ.out⟩
  have d1 : decide ((64 : Int) < (n : Int)) = false := decide_eq_false (by omega)
  have d1' : decide (64 < n) = false := decide_eq_false (by omega)
  rcases Nat.eq_zero_or_pos n with h0 | h0
  ·have d2 : ((n : Int) == 0) = true := by rw [beq_iff_eq]; omega
   have d2' : (n == 0) = true := by rw [beq_iff_eq]; exact h0
   clear h64 h0
   have HKN := Lib.hid (s16known_any w2 (HPW.out.keep HK2.out))
   go_wp2_with fail
   refine HKN.out.mono ?_
   rintro e wz ⟨rfl, kz⟩
   have HKZ := Lib.hid (HK2.out.trans_same kz)
   clear kz HKN
   go_wp2_with fail
   go_ret
   exact ⟨rfl, HKZ.out⟩
  have d2 : ((n : Int) == 0) = false := by rw [beq_eq_false_iff_ne]; omega
  have d2' : (n == 0) = false := by rw [beq_eq_false_iff_ne]; omega
  have hn0 : ¬ n = 0 := by omega
  go_wp2_with fail
  refine (s16start_any w2 1048576 (HPW.out.keep HK2.out) (by decide)).mono ?_
  rintro e w3 ⟨p, d, s, r, x, H1, H2, rfl, hP⟩
  have c1 : w3.cell? ⟨p, 1, none⟩ = some (.pointer (some ⟨s, 0, none⟩)) := hP.at_ (Kp.refl _ _) 1
  have c3 : w3.cell? ⟨p, 3, none⟩ = some (.pointer (some ⟨x, 0, none⟩)) := hP.at_ (Kp.refl _ _) 3
  have lp := get_lt hP.cell
  obtain ⟨y, la, lc, cs, ka, kc, K, F, G, hXW, _⟩ := hP.ref
  have HK3 := Lib.hid (HK2.out.trans_same hP.kp)
  have hnx := snext_any hXW.st ofhi_emp a cap L HL.out HK3.out (by have := HN.out; omega)
  rw [← HN.out] at hnx
  have HNX := Lib.hid hnx
  have HP := Lib.hid hP
  clear hP hXW hnx
  go_wp2_with fail
  refine HNX.out.mono ?_
  intro e w4 hq
  unfold NextP at hq
  obtain ⟨ra, rc, R, rfl, hown, heq, hrd, hfr, k4⟩ := hq
  have hRn : R.length = n := by
   have := congrArg List.length heq
   rw [List.length_map, nextL_length, List.length_map] at this
   rw [this, HN.out]
  rw [hRn] at hown hfr ⊢
  have hP4 := HP.out.no k4
  have HR := Lib.hid (And.intro hRn (And.intro heq (And.intro (show ∀ y ∈ R, y.rd w from hrd) hfr)))
  have HO := Lib.hid hown
  have HP4 := Lib.hid hP4
  have HK4 := Lib.hid (HK3.out.trans_same k4)
  have HK34 := Lib.hid k4.size
  clear hown heq hrd hfr k4 hRn hP4 c1 c3 lp HNX
  go_wp2_with fail
  go_loopw [10] (fun i wr => ∃ j : Nat, j ≤ n ∧ i = .int .i64 (j : Int) ∧ Hid (Kp No w4 wr) ∧ Hid (∀ y ∈ R.take j, isR y.r = true)) (fun i _ => n - (intOf i).toNat)
  case atStart => exact ⟨0, Nat.zero_le _, rfl, Lib.hid (Kp.refl _ _), Lib.hid fun y hy => absurd hy (by simp)⟩
  case round =>
   obtain ⟨j, hj, rfl, HK, HA⟩ := hrel
   rcases Nat.lt_or_ge j n with hlt | hge
   ·have hjR : j < R.length := by have := HR.out.1; omega
    obtain ⟨g, off, rfl, hgl, hgr⟩ := rec_range (Own.rd' HO.out) hjR
    have hst : R.take (j + 1) = R.take j ++ [R[j]] := List.take_succ_eq_append_getElem hjR
    obtain ⟨z, hz⟩ : ∃ z, z = R[j] := ⟨_, rfl⟩
    rw [← hz] at hgr hst
    have R1 := Lib.hid (hgr wr HK.out)
    have hg3 := HK.out.lt hgl
    have HIS := Lib.hid (xIs_any z wr)
    have HST := Lib.hid hst
    clear hgr hst hz hgl hjR
    cases hri : isR z.r with
    | true =>
     have HRI := Lib.hid hri
     clear hri
     go_wp2_with (refine wpList_load_w rfl 46 _ rfl g (off + j * 9) rfl _ _ R1 Tryz.underlying46 rfl (by kernel_rfl) ?_)
     refine HIS.out.mono ?_
     rintro e w6 ⟨rfl, k6⟩
     rw [HRI.out]
     have HK6 := Lib.hid (HK.out.trans_same k6)
     have HA6 := Lib.hid (show ∀ y ∈ R.take (j + 1), isR y.r = true from fun y hy => by
      rw [HST.out] at hy
      rcases List.mem_append.1 hy with hy | hy
      ·exact HA.out y hy
      ·rw [List.mem_singleton] at hy
       rw [hy]
       exact HRI.out)
     clear k6
     go_wp2_with fail
     go_roundw
     case rel => exact ⟨j + 1, hlt, by go_num, HK6, HA6⟩
     case measure => simp [intOf]; omega
    | false =>
     have HRI := Lib.hid hri
     clear hri
     go_wp2_with (refine wpList_load_w rfl 46 _ rfl g (off + j * 9) rfl _ _ R1 Tryz.underlying46 rfl (by kernel_rfl) ?_)
     refine HIS.out.mono ?_
     rintro e w6 ⟨rfl, k6⟩
     rw [HRI.out]
     have HK6 := Lib.hid ((HK4.out.trans_same HK.out).trans_same k6)
     clear k6
     have HKN := Lib.hid (s16known_any w6 (HPW.out.keep HK6.out))
     go_wp2_with fail
     refine HKN.out.mono ?_
     rintro e wz ⟨rfl, kz⟩
     have HKZ := Lib.hid (HK6.out.trans_same kz)
     clear kz HKN
     go_wp2_with fail
     go_ret
     exact ⟨rfl, HKZ.out⟩
   ·obtain rfl : j = n := by omega
    have hall : ∀ y ∈ R, isR y.r = true := fun y hy => by
     have := HA.out
     rw [← HR.out.1, List.take_length] at this
     exact this y hy
    have hallr : ∀ q ∈ R.map RecR.r, isR q = true := fun q hq => by
     obtain ⟨y, hy, rfl⟩ := List.mem_map.1 hq
     exact hall y hy
    have hmg : mayG 0 0 (List.replicate 5 ⟨0, 0, 0⟩) (R.map RecR.r) = true := by
     rw [HR.out.2.1]
     exact next_may _ _ ofok_emp
    obtain ⟨v, hv, hbv⟩ := low_65535 at_
    obtain ⟨v3, hv3, hb3⟩ := low_3 way
    obtain ⟨kN, hkN⟩ : ∃ k, k = v % j := ⟨_, rfl⟩
    have hkl : kN < j := by rw [hkN]; exact Nat.mod_lt _ (by omega)
    have hrem : Int.tmod (v : Int) (j : Int) = (kN : Int) := by rw [hkN]; exact (Int.ofNat_tmod v j).symm
    have hkR : kN < R.length := by rw [HR.out.1]; exact hkl
    obtain ⟨g, off, rfl, hgl, hgr⟩ := rec_range (Own.rd' HO.out) hkR
    obtain ⟨z, hz⟩ : ∃ z, z = R[kN] := ⟨_, rfl⟩
    rw [← hz] at hgr
    obtain ⟨l, hlR⟩ : ∃ l, l = R.map RecR.r := ⟨_, rfl⟩
    rw [← hlR] at hallr hmg
    have hl64 : l.length ≤ 64 := by rw [hlR, List.length_map, HR.out.1]; omega
    have hkl2 : kN < l.length := by rw [hlR, List.length_map]; exact hkR
    have hzl : l[kN] = z.r := by simp only [hlR, List.getElem_map, hz]
    have hord := order_at hl64 hallr hmg hkl2
    rw [hzl] at hord
    have HALL := Lib.hid (And.intro hallr (And.intro hmg (And.intro hl64 (And.intro hlR (And.intro (show ∃ h : kN < R.length, z = R[kN] from ⟨hkR, hz⟩) (show ∃ h : kN < l.length, l[kN] = z.r from ⟨hkl2, hzl⟩))))))
    have hsq1 : 1 ≤ z.r.seq := hord.2.2.2
    have hsq2 : z.r.seq ≤ 64 := hord.2.2.1
    have HV3 := Lib.hid (And.intro hv3 hb3)
    have HGR := Lib.hid (hgr wr HK.out)
    have hgw := HK.out.lt hgl
    have HKW := Lib.hid (HK4.out.trans_same HK.out)
    have HPWR := Lib.hid (HP4.out.no HK.out)
    have HWR3 := Lib.hid (show w3.heap.size ≤ wr.heap.size from Nat.le_trans HK34.out HK.out.size)
    have HOW := Lib.hid (HO.out.keep HK.out fun _ _ x => x)
    clear hall hallr hmg hv hkN hkR hgr hge HA hv3 hb3 hz hlR hl64 hkl2 hzl hord
    go_upto_block 2 with fail
    go_cut [9] from 69 to 147 (fun s9 wx => ∃ (a' : Option Addr) (n' c' : Nat), s9 = .slice a' n' c' ∧ Hid (OrdR w w2 wx p d s r x H1 H2 a' n' c'))
    case first =>
     have h4 : v3 = 0 ∨ v3 = 1 ∨ v3 = 2 ∨ v3 = 3 := by have := HV3.out.1; omega
     rcases h4 with rfl | rfl | rfl | rfl
     ·have hb3 : bits .and .i64 way 3 = 0 := HV3.out.2
      have cz : wr.cell? ⟨g, off + kN * 9 + 1, none⟩ = some (.int .i64 z.r.seq) := HGR.out 1 _ rfl
      obtain ⟨cur, hcur⟩ := HOW.out.type g rfl
      have fz := free_at hcur (off + kN * 9 + 1)
      clear hcur
      go_wp2_with fail
      go_meet
      case rel =>
       refine ⟨_, j, rc, rfl, Lib.hid ?_⟩
       have hs1 := Go.Mer.own_set HOW.out (kN * 9 + 1) (by omega) (.int .i64 (z.r.seq + 1))
       rw [← Nat.add_assoc] at hs1
       obtain ⟨hkR, hzz⟩ := HALL.out.2.2.2.2.1
       rw [chunk_set recC 9 recC_len R hkR (by decide) (x := ⟨{ z.r with seq := z.r.seq + 1 }, z.a, z.cap⟩) (u := .int .i64 (z.r.seq + 1)) (by rw [← hzz]; rfl)] at hs1
       refine ordR_mk (w3 := w3) (R.set kN ⟨{ z.r with seq := z.r.seq + 1 }, z.a, z.cap⟩) (by rw [List.length_set]; exact HR.out.1) (by omega) (by omega) hs1 (fun q hq => ?_) HR.out.2.2.2 ?_ HKW.out HK3.out.size HP.out HPWR.out ((Kp.refl (Mer.One g) wr).setCell (p := ⟨g, off + kN * 9 + 1, none⟩) (.inl (show Mer.One g g from rfl)) _) fun k e => ?_
       ·rcases List.mem_or_eq_of_mem_set hq with hq | hq
        ·exact HR.out.2.2.1 q hq
        ·rw [hq]
         obtain ⟨_, hzz⟩ := HALL.out.2.2.2.2.1
         have hr0 := HR.out.2.2.1 z (by rw [hzz]; exact List.getElem_mem _)
         exact hr0
       ·have hlR := HALL.out.2.2.2.1
        obtain ⟨hkl2, hzl⟩ := HALL.out.2.2.2.2.2
        rw [List.map_set, ← hlR]
        have := order_seq HALL.out.2.2.1 HALL.out.1 HALL.out.2.1 hkl2 (z.r.seq + 1) (by omega) (by omega) (by rw [hzl]; omega); rw [hzl] at this; exact this
       ·have e : k = g := e
        rw [e]
        exact HR.out.2.2.2 g rfl
     ·have hb3 : bits .and .i64 way 3 = 1 := HV3.out.2
      have cz0 : wr.cell? ⟨g, off + kN * 9 + 3, none⟩ = some (.int .i64 z.r.v.m) := HGR.out 3 _ rfl
      have cz1 : wr.cell? ⟨g, off + kN * 9 + 4, none⟩ = some (.int .i64 z.r.v.c) := HGR.out 4 _ rfl
      obtain ⟨cur, hcur⟩ := HOW.out.type g rfl
      have fz0 := free_at hcur (off + kN * 9 + 3)
      have fz1 := free_at hcur (off + kN * 9 + 4)
      clear hcur
      go_wp2_with fail
      go_meet
      case rel =>
       refine ⟨_, j, rc, rfl, Lib.hid ?_⟩
       have hs1 := Go.Mer.own_set HOW.out (kN * 9 + 3) (by omega) (.int .i64 0)
       obtain ⟨hkR, hzz⟩ := HALL.out.2.2.2.2.1
       rw [chunk_set recC 9 recC_len R hkR (by decide) (x := ⟨{ z.r with v := { z.r.v with m := 0 } }, z.a, z.cap⟩) (u := .int .i64 0) (by rw [← hzz]; rfl)] at hs1
       have hs2 := Go.Mer.own_set hs1 (kN * 9 + 4) (by omega) (.int .i64 0)
       rw [chunk_set recC 9 recC_len (R.set kN ⟨{ z.r with v := { z.r.v with m := 0 } }, z.a, z.cap⟩) (by rw [List.length_set]; exact hkR) (by decide) (x := ⟨{ z.r with v := { z.r.v with m := 0, c := 0 } }, z.a, z.cap⟩) (u := .int .i64 0) (by rw [List.getElem_set_self]; rfl), List.set_set, ← Nat.add_assoc, ← Nat.add_assoc] at hs2
       refine ordR_mk (w3 := w3) (R.set kN ⟨{ z.r with v := { z.r.v with m := 0, c := 0 } }, z.a, z.cap⟩) (by rw [List.length_set]; exact HR.out.1) (by omega) (by omega) hs2 (fun q hq => ?_) HR.out.2.2.2 ?_ HKW.out HK3.out.size HP.out HPWR.out (((Kp.refl (Mer.One g) wr).setCell (p := ⟨g, off + kN * 9 + 3, none⟩) (.inl (show Mer.One g g from rfl)) _).setCell (p := ⟨g, off + kN * 9 + 4, none⟩) (.inl (show Mer.One g g from rfl)) _) fun k e => ?_
       ·rcases List.mem_or_eq_of_mem_set hq with hq | hq
        ·exact HR.out.2.2.1 q hq
        ·rw [hq]
         obtain ⟨_, hzz⟩ := HALL.out.2.2.2.2.1
         have hr0 := HR.out.2.2.1 z (by rw [hzz]; exact List.getElem_mem _)
         exact hr0
       ·have hlR := HALL.out.2.2.2.1
        obtain ⟨hkl2, hzl⟩ := HALL.out.2.2.2.2.2
        rw [List.map_set, ← hlR]
        have := order_stamp HALL.out.2.2.1 HALL.out.1 hkl2; rw [hzl] at this; exact this
       ·have e : k = g := e
        rw [e]
        exact HR.out.2.2.2 g rfl
     ·have hb3 : bits .and .i64 way 3 = 2 := HV3.out.2
      have cz : wr.cell? ⟨g, off + kN * 9 + 1, none⟩ = some (.int .i64 z.r.seq) := HGR.out 1 _ rfl
      obtain ⟨cur, hcur⟩ := HOW.out.type g rfl
      have fz := free_at hcur (off + kN * 9 + 1)
      clear hcur
      go_wp2_with fail
      go_meet
      case rel =>
       refine ⟨_, j, rc, rfl, Lib.hid ?_⟩
       have hs1 := Go.Mer.own_set HOW.out (kN * 9 + 1) (by omega) (.int .i64 1099511627776)
       rw [← Nat.add_assoc] at hs1
       obtain ⟨hkR, hzz⟩ := HALL.out.2.2.2.2.1
       rw [chunk_set recC 9 recC_len R hkR (by decide) (x := ⟨{ z.r with seq := 1099511627776 }, z.a, z.cap⟩) (u := .int .i64 1099511627776) (by rw [← hzz]; rfl)] at hs1
       refine ordR_mk (w3 := w3) (R.set kN ⟨{ z.r with seq := 1099511627776 }, z.a, z.cap⟩) (by rw [List.length_set]; exact HR.out.1) (by omega) (by omega) hs1 (fun q hq => ?_) HR.out.2.2.2 ?_ HKW.out HK3.out.size HP.out HPWR.out ((Kp.refl (Mer.One g) wr).setCell (p := ⟨g, off + kN * 9 + 1, none⟩) (.inl (show Mer.One g g from rfl)) _) fun k e => ?_
       ·rcases List.mem_or_eq_of_mem_set hq with hq | hq
        ·exact HR.out.2.2.1 q hq
        ·rw [hq]
         obtain ⟨_, hzz⟩ := HALL.out.2.2.2.2.1
         have hr0 := HR.out.2.2.1 z (by rw [hzz]; exact List.getElem_mem _)
         exact hr0
       ·have hlR := HALL.out.2.2.2.1
        obtain ⟨hkl2, hzl⟩ := HALL.out.2.2.2.2.2
        rw [List.map_set, ← hlR]
        have := order_seq HALL.out.2.2.1 HALL.out.1 HALL.out.2.1 hkl2 1099511627776 (by omega) (by omega) (by rw [hzl]; omega); rw [hzl] at this; exact this
       ·have e : k = g := e
        rw [e]
        exact HR.out.2.2.2 g rfl
     ·have hb3 : bits .and .i64 way 3 = 3 := HV3.out.2
      have R1 := Lib.hid (show wr.rangeAt g (off + kN * 9) [.int .i64 z.r.o, .int .i64 z.r.seq, .string z.r.key, .int .i64 z.r.v.m, .int .i64 z.r.v.c, .int .i64 z.r.v.o, .slice z.a z.r.v.val.length z.cap, .bool z.r.v.gone, .int .i64 z.r.v.ttl] from HGR.out)
      obtain ⟨a9, c9, W9, hrun, hm9, hk9, hb9⟩ := own_one (T := 26) (E := 46) (sz := 9) (bytes := 96) Tryz.underlying26 infoRec (W := wr) HOW.out (news := recC z) (recC_one _) rfl (cs := #[.int .i64 z.r.o, .int .i64 z.r.seq, .string z.r.key, .int .i64 z.r.v.m, .int .i64 z.r.v.c, .int .i64 z.r.v.o, .slice z.a z.r.v.val.length z.cap, .bool z.r.v.gone, .int .i64 z.r.v.ttl]) rfl (by omega) (by omega)
      have HRUN := Lib.hid hrun
      have HM9 := Lib.hid (And.intro hm9 (And.intro hk9 hb9))
      clear hrun hm9 hk9 hb9
      by_cases h65 : 64 < j + 1
      ·have q1 : decide ((64 : Int) < (j : Int) + 1) = true := decide_eq_true (by omega)
       have q2 : decide ((64 : Int) < ((j + 1 : Nat) : Int)) = true := decide_eq_true (by omega)
       have q3 : decide (64 < j + 1) = true := decide_eq_true h65
       have HKZ9 := Lib.hid (show Kp No w W9 from HKW.out.trans HM9.out.2.1 fun i hi hs => by
        have := HR.out.2.2.2 i hs
        have := HK3.out.size
        omega)
       clear h65
       go_wp2_with (first
        | (refine wpList_load_w rfl 46 _ rfl g (off + kN * 9) rfl _ _ R1 Tryz.underlying46 rfl (by kernel_rfl) ?_)
        | (at_builtin; refine wpList_append_run rfl rfl rfl rfl HRUN.out ?_))
       have HKN := Lib.hid (s16known_any W9 (HPW.out.keep HKZ9.out))
       go_wp2_with fail
       refine HKN.out.mono ?_
       rintro e wz ⟨rfl, kz⟩
       have HKZ := Lib.hid (HKZ9.out.trans_same kz)
       clear kz HKN
       go_wp2_with fail
       go_ret
       exact ⟨rfl, HKZ.out⟩
      ·have q1 : decide ((64 : Int) < (j : Int) + 1) = false := decide_eq_false (by omega)
       have q2 : decide ((64 : Int) < ((j + 1 : Nat) : Int)) = false := decide_eq_false (by omega)
       have q3 : decide (64 < j + 1) = false := decide_eq_false h65
       go_wp2_with (first
        | (refine wpList_load_w rfl 46 _ rfl g (off + kN * 9) rfl _ _ R1 Tryz.underlying46 rfl (by kernel_rfl) ?_)
        | (at_builtin; refine wpList_append_run rfl rfl rfl rfl HRUN.out ?_))
       go_meet
       case rel =>
        refine ⟨a9, j + 1, c9, rfl, Lib.hid ?_⟩
        obtain ⟨hkR, hzz⟩ := HALL.out.2.2.2.2.1
        obtain ⟨hkl2, hzl⟩ := HALL.out.2.2.2.2.2
        have hlR := HALL.out.2.2.2.1
        refine ordR_mk (w3 := w3) (R ++ [z]) (by rw [List.length_append, HR.out.1]; rfl) (by omega) (by omega) (by rw [List.flatMap_append, List.flatMap_cons, List.flatMap_nil, List.append_nil]; exact HM9.out.1) (fun q hq => ?_) (fun gg hgg => ?_) ?_ HKW.out HK3.out.size HP.out HPWR.out HM9.out.2.1 fun k e => HR.out.2.2.2 k e
        ·rcases List.mem_append.1 hq with hq | hq
         ·exact HR.out.2.2.1 q hq
         ·rw [List.mem_singleton] at hq
          rw [hq, hzz]
          exact HR.out.2.2.1 _ (List.getElem_mem _)
        ·rcases HM9.out.2.2 with h9 | ⟨g9, h9, h99⟩
         ·exact HR.out.2.2.2 gg (by rw [← h9]; exact hgg)
         ·rw [h9] at hgg
          injection hgg with hgg
          have h1 := HKW.out.size
          have h2 := HPWR.out.kp.size
          have h3 := HWR3.out
          omega
        ·rw [List.map_append, ← hlR, List.map_cons, List.map_nil, ← hzl]
         exact order_again HALL.out.1 HALL.out.2.1 hkl2 (by rw [hlR, List.length_map, HR.out.1]; omega)
    case rest =>
    obtain ⟨a', n', c', rfl, HOR⟩ := hcut
    rename World => w7
    obtain ⟨R', hR1, hR2, hR3, hR4, hR5, hR6, hR7, hR8, hP7⟩ := HOR.out
    have hHw : ∀ k, H1 k → w2.heap.size ≤ k := hP7.new.2.1
    have hra : ∀ W, Kp H1 w7 W → RecsAt W a' R' := fun W hW => by
     refine ⟨Own.rd' (hR4.keep hW hR6), fun q hq => VerR.rd_kp (hR5 q hq) (hR8.trans hW fun i hi hh => ?_)⟩
     have h1 := hHw i hh
     have h2 := HK2.out.size
     omega
    have hne : R'.map RecR.r ≠ [] := fun e => by
     have := congrArg List.length e
     rw [List.length_map, List.length_nil] at this
     omega
    have hps := put_no_st (P := skP) (o := 0) (s := ⟨1048576, none, []⟩) (lg := st0) (st := empS) (l := R'.map RecR.r) rfl hne (by rw [hR7]; decide)
    rw [hR7] at hps
    have hcc : R'.length ≤ c' := by
     obtain ⟨_, a9, c9, e9, h9, _⟩ := hR4
     injection e9 with _ _ e9
     omega
    have hput := hP7.put (k := 0) (inv_emp (by decide)) (fit_emp _ _ (by decide)) (by decide) (HPW.out.keep hR8) (Nat.lt_of_lt_of_le HPW.out.lt HK2.out.size) (by show (logN skP 0).size ≤ 50; rw [logN_size]; decide) (by decide) a' c' R' hra hcc (by omega) (by decide) (by rw [hps])
    rw [hps, hR1] at hput
    have HPUT := Lib.hid hput
    have HK7 := Lib.hid hR8
    have c71 : w7.cell? ⟨p, 1, none⟩ = some (.pointer (some ⟨s, 0, none⟩)) := hP7.at_ (Kp.refl _ _) 1
    have l7 := get_lt hP7.cell
    clear hR1 hR2 hR3 hR4 hR5 hR6 hR7 hR8 hP7 hHw hra hne hps hcc hput
    go_wp2_with fail
    refine HPUT.out.mono ?_
    rintro e w8 ⟨rfl, H1', hP8, _, hk8⟩
    have HK8 := Lib.hid hP8.kp
    have c81 : w8.cell? ⟨p, 1, none⟩ = some (.pointer (some ⟨s, 0, none⟩)) := hP8.at_ (Kp.refl _ _) 1
    have l8 := get_lt hP8.cell
    have hkeys := hP8.keys (inv_emp (by decide)) (by decide) (by decide) (by decide)
    have HKE := Lib.hid (show Calls Tryz.prog 19 #[.pointer (some ⟨s, 0, none⟩)] w8 fun e w' => ∃ a c, e = .returned (.tuple #[.slice a 0 c, .int .i64 0]) ∧ Kp No w8 w' from hkeys.mono fun e w' ⟨a, c, h1, _, h2⟩ => ⟨a, c, h1, h2⟩)
    have HP8 := Lib.hid hP8
    clear hP8 hkeys c71 l7 hk8 HPUT
    go_wp2_with fail
    refine HKE.out.mono ?_
    rintro e w9 ⟨a9, c9, rfl, k9⟩
    have hP9 := HP8.out.no k9
    have c91 : w9.cell? ⟨p, 1, none⟩ = some (.pointer (some ⟨s, 0, none⟩)) := hP9.at_ (Kp.refl _ _) 1
    have l9 := get_lt hP9.cell
    have HAG := Lib.hid (show Calls Tryz.prog 20 #[.pointer (some ⟨s, 0, none⟩)] w9 fun e w' => e = .returned (.tuple #[.int .i64 0, .int .i64 0]) ∧ Kp No w9 w' from hP9.age)
    have HP9 := Lib.hid hP9
    clear hP9 k9 c81 l8 HKE
    go_wp2_with fail
    refine HAG.out.mono ?_
    rintro e w10 ⟨rfl, k10⟩
    have HK10 := Lib.hid ((HK2.out.trans_same HP9.out.kp).trans_same k10)
    clear k10 c91 l9 HAG
    have HKN := Lib.hid (s16known_any w10 (HPW.out.keep HK10.out))
    go_wp2_with fail
    refine HKN.out.mono ?_
    rintro e wz ⟨rfl, kz⟩
    have HKZ := Lib.hid (HK10.out.trans_same kz)
    clear kz HKN
    go_wp2_with fail
    go_ret
    exact ⟨rfl, HKZ.out⟩
end Go.Proofs.YtgnkmjeoaoongaaGreatDoor
