/-
  The law WalKeeps, walked.
-/
import Derived.Test.YtdibkdgafidjgaaGreatDoorWc4
import Derived.Test.YtdibkdgafidjgaaGreatDoorWd0
import Derived.Test.YtdibkdgafidjgaaGreatDoorWRowsM
import Derived.Test.YtdibkdgafidjgaaGreatDoorWd5
import Derived.Test.YtdibkdgafidjgaaGreatDoorRD4M
namespace Go.Proofs.YtdibkdgafidjgaaGreatDoor
open Go.RowKit Go.Mer
def datas (R : List Row) : List (List UInt8) := R.map Row.data
def KeepI (w W : World) (p f i su : Nat) (R : List Row) (lv : Value) (d r l x : Nat) (s : DSt) (st : LSt) (Z : Nat → Prop) : Prop :=
 PL w W p d r l x kA s st s st Z ∧ Fit f kA s st ∧ (∃ A, Laid kA s st A) ∧ st.ents = datas (R.take i) ∧ su ≤ st.synced ∧ Own W 23 1 lv i ((R.take i).map Row.val) ∧ ∀ g, lv.ownBlock = some g → ¬ Z g ∧ w.heap.size ≤ g
theorem keep_at {R : List Row} {E ex : List (List UInt8)} {j j0 k : Nat} (hE : E = (datas (R.take j)).take j0 ++ ex) (hj : j ≤ R.length) (hk : k < j0) (hj0 : j0 ≤ j) (hkE : k < E.length) (hkR : k < R.length) : E[k] = (R[k]).data := by
 subst hE
 have h1 : k < ((datas (R.take j)).take j0).length := by unfold datas; rw [List.length_take, List.length_map, List.length_take]; omega
 rw [List.getElem_append_left h1]
 simp only [datas, List.getElem_take, List.getElem_map]
theorem fit_sameK {k : Nat} {P : ByteArray} {s s' : DSt} {st : LSt} (h : Fit k P s st) (hf : s'.files = s.files) (hr : s'.room = s.room) : Fit k P s' st :=
 ⟨by rw [hr]; exact h.room, by rw [hf]; exact h.ok, h.hne, h.hsl, h.no, h.ents, h.segs, h.big⟩
theorem bit_31 (x : Int) : ∃ v : Nat, v ≤ 31 ∧ bits .and .i64 x 31 = (v : Int) := by
 have h : ((BitVec.ofInt 64 x) &&& (BitVec.ofInt 64 31)).toNat ≤ 31 := by
  rw [BitVec.toNat_and]
  exact Nat.and_le_right
 refine ⟨_, h, ?_⟩
 simp only [bits]
 unfold IntKind.wrap
 have e : (2 ^ IntKind.i64.bits : Int) = 18446744073709551616 := by decide
 have e2 : IntKind.i64.bits = 64 := rfl
 rw [e2] at e ⊢
 rw [e]
 have h2 : ((((BitVec.ofInt 64 x) &&& (BitVec.ofInt 64 31)).toNat : Nat) : Int) ≤ 31 := Int.ofNat_le.2 h
 have h3 : (0 : Int) ≤ ((((BitVec.ofInt 64 x) &&& (BitVec.ofInt 64 31)).toNat : Nat) : Int) := Int.natCast_nonneg _
 rw [Int.emod_eq_of_lt h3 (by omega)]
 rw [if_neg]
 simp only [Bool.and_eq_true, decide_eq_true_eq, not_and]
 intro _
 have e3 : (2 ^ (64 - 1) : Int) = 9223372036854775808 := by decide
 rw [e3]
 omega
set_option maxRecDepth 100000 in
set_option maxHeartbeats 8000000 in
theorem wkeeps_any (w : World) (hpow : Pow w) (a : Option Addr) (cap : Nat) (R : List Row) (hR : RowsAt w a R) (hl : R.length ≤ 140737488351232) (syncs fuse keep : Int) (hk0 : -9223372036854775808 ≤ keep) (hk1 : keep ≤ 9223372036854775807) (t : UInt8) :
  Calls Tryz.prog 3 #[.slice a R.length cap, .int .i64 syncs, .int .i64 fuse, .int .i64 keep, .int .u8 (t.toNat : Int)] w fun e w' => e = .returned (.bool true) ∧ Kp No w w' := by
 have HR := Lib.hid hR
 have HPW := Lib.hid hpow
 have HKN := Lib.hid (wknown_any w hpow)
 have HB := Lib.hid (And.intro hk0 hk1)
 obtain ⟨tv, htv⟩ : ∃ tv : Int, tv = (t.toNat : Int) := ⟨_, rfl⟩
 rw [← htv]
 have HTV := Lib.hid htv
 clear hR hpow hk0 hk1 htv
 go_enter Tryz.func3, Tryz.ntmps3
 go_wp2_with fail
 go_loopg [11, 12] R.length (fun g n i wr => ∃ j : Nat, j ≤ R.length ∧ g = R.length - j ∧ i = .int .i64 (j : Int) ∧ n = .int .i64 (w5 (R.take j) : Int) ∧ w = wr)
 case atStart => exact ⟨0, Nat.zero_le _, rfl, rfl, rfl, rfl⟩
 case round =>
  obtain ⟨j, hj, rfl, rfl, rfl, rfl⟩ := hrel
  by_cases hlt : j < R.length
  ·obtain ⟨g0, off0, rfl, hg0, hc0, hr0, hm0⟩ := HR.out.at_ (Kp.refl _ _) hlt
   have hst := Lib.hid (w5_step R hlt)
   obtain ⟨Lj, hLj⟩ : ∃ Lj, Lj = R[j].data.length := ⟨_, rfl⟩
   rw [← hLj] at hst hc0 hm0
   clear hLj hr0
   by_cases hn : w5 (R.take j) ≤ 12000
   ·go_wp2_with fail
    go_roundg (R.length - (j + 1))
    case measure => omega
    case rel => exact ⟨j + 1, by omega, rfl, by go_num, by rw [hst.out]; first | (push_cast; rfl) | (go_num; omega) | (push_cast; simp [Int.add_assoc]), rfl⟩
   ·go_wp2_with fail
    refine HKN.out.mono ?_
    rintro e w' ⟨rfl, hk⟩
    have HKK := Lib.hid hk
    clear hk
    go_wp2_with fail
    go_ret
    exact ⟨rfl, HKK.out⟩
  ·by_cases hn : w5 (R.take j) ≤ 12000
   ·obtain rfl : j = R.length := by omega
    rw [List.take_length] at hn ⊢
    have hlw := w5_len R
    clear hlt hj
    obtain ⟨T, hT⟩ : ∃ T, T = w5 R := ⟨_, rfl⟩
    have HT := Lib.hid hT
    rw [← hT] at hn hlw ⊢
    clear hT
    rcases (show (decide ((100 : Int) < (R.length : Int)) = true) ∨ (decide ((100 : Int) < (R.length : Int)) = false ∧ decide (fuse < 0) = true) ∨ (decide ((100 : Int) < (R.length : Int)) = false ∧ decide (fuse < 0) = false ∧ decide (1000 < fuse) = true) ∨ (R.length ≤ 100 ∧ 0 ≤ fuse ∧ fuse ≤ 1000) by simp only [decide_eq_true_eq, decide_eq_false_iff_not]; omega) with hb | ⟨hb1, hb2⟩ | ⟨hb1, hb2, hb3⟩ | ⟨hb1, hb2, hb3⟩
    ·go_wp2_with fail
     refine HKN.out.mono ?_
     rintro e w' ⟨rfl, hk⟩
     have HKK := Lib.hid hk
     clear hk
     go_wp2_with fail
     go_ret
     exact ⟨rfl, HKK.out⟩
    ·go_wp2_with fail
     refine HKN.out.mono ?_
     rintro e w' ⟨rfl, hk⟩
     have HKK := Lib.hid hk
     clear hk
     go_wp2_with fail
     go_ret
     exact ⟨rfl, HKK.out⟩
    ·go_wp2_with fail
     refine HKN.out.mono ?_
     rintro e w' ⟨rfl, hk⟩
     have HKK := Lib.hid hk
     clear hk
     go_wp2_with fail
     go_ret
     exact ⟨rfl, HKK.out⟩
    ·have HST := Lib.hid (start_any w 1048576 HPW.out (Nat.le_refl _))
     clear HKN
     go_wp2_with fail
     refine HST.out.mono ?_
     rintro e w2 ⟨p, d, r, l, x, Z0, rfl, hPL, hFit0, _⟩
     have HPL0 := Lib.hid (show PL w w2 p d r l x kA _ st0 _ st0 Z0 from hPL)
     have HF0 := Lib.hid (show Fit 0 kA _ st0 from hFit0)
     clear hPL hFit0 HST
     obtain ⟨F, hDA, hFZ, hnp, hgo⟩ := HPL0.out.diskX
     obtain ⟨hpl, pc⟩ := HPL0.out.cells No (fun x => x)
     have p0 := (pc w2 (Kp.refl _ _)).1
     have HFU := Lib.hid (Fuse_any w2 d _ F hDA fuse (by omega))
     have HGO := Lib.hid hgo
     have HOW := Lib.hid hDA.own
     unfold ptrV at p0
     clear hDA hFZ hnp hgo pc
     go_wp2_with fail
     refine HFU.out.mono ?_
     rintro e w3 ⟨rfl, hd3, hk3⟩
     obtain ⟨Z3, hz3, _, _, _⟩ := HGO.out w3 _ _ hd3 (Foot.refl _ _) (hk3.mono fun i _ (e : i = d) => e ▸ HOW.out)
     have HPL3 := Lib.hid hz3
     clear hd3 hk3 hz3 HGO HFU HOW p0 hpl
     obtain ⟨H, hRA, hHZ, hnp, hgo⟩ := HPL3.out.rdiskX
     obtain ⟨hpl, pc⟩ := HPL3.out.cells No (fun x => x)
     have p1 := (pc w3 (Kp.refl _ _)).2.1
     have HFU := Lib.hid (rFuse_any w3 r _ H hRA fuse (by omega))
     have HGO := Lib.hid hgo
     unfold ptrV at p1
     clear hRA hHZ hnp hgo pc
     go_wp2_with fail
     refine HFU.out.mono ?_
     rintro e w4 ⟨rfl, hd4, hk4⟩
     obtain ⟨Z4, hz4, _, _, _⟩ := HGO.out w4 _ _ hd4 (Foot.refl _ _) hk4
     obtain ⟨s0, hs0⟩ : ∃ s0, s0 = fuS (⟨1048576, none, []⟩ : DSt) fuse := ⟨_, rfl⟩
     rw [← hs0] at hz4
     have HI0 := Lib.hid (show KeepI w w4 p 0 0 0 R (.slice none 0 0) d r l x s0 st0 Z4 from ⟨hz4, by rw [hs0]; exact fit_sameK HF0.out rfl rfl, ⟨[], by rw [hs0]; exact (laid0 kA 1048576).disk rfl⟩, rfl, Nat.le_refl _, Own.nil _ _ _, fun g h => (by cases h)⟩)
     have HW0 := Lib.hid (show Whole kA s0 st0 from ⟨fun S1 z h => (by cases S1 <;> cases h), fun p hp _ => (by rw [hs0] at hp; cases hp), List.Pairwise.nil, fun z hz => (by cases hz)⟩)
     clear hd4 hk4 hz4 hs0 HGO HFU p1 hpl HPL0 HF0 HPL3
     go_wp2_with fail
     go_loopw [15, 16, 17] (fun s15 s16 s17 wr => ∃ (i su : Nat) (la : Option Addr) (lc : Nat) (s1 : DSt) (st1 : LSt) (Z : Nat → Prop), i ≤ R.length ∧ su ≤ i ∧ s15 = .slice la i lc ∧ s16 = .int .i64 (su : Int) ∧ s17 = .int .i64 (i : Int) ∧ Hid (KeepI w wr p i i su R (.slice la i lc) d r l x s1 st1 Z) ∧ Hid (Whole kA s1 st1)) (fun _ _ s17 _ => R.length - (intOf s17).toNat)
     case atStart => exact ⟨0, 0, none, 0, s0, st0, Z4, Nat.zero_le _, Nat.le_refl _, rfl, rfl, rfl, HI0, HW0⟩
     case round =>
      obtain ⟨i, su, la, lc, s1, st1, Z, hi, hsu, rfl, rfl, rfl, HI, HW⟩ := hrel
      have HKr := Lib.hid HI.out.1.kp
      by_cases hlt : i < R.length
      ·obtain ⟨F, G, hWA, hFG, hnp, hgo⟩ := HI.out.1.wal
       obtain ⟨hpl, pc⟩ := HI.out.1.cells (Both F G) hnp
       have p2 := fun V hV => (pc V hV).2.2.1
       obtain ⟨g0, off0, rfl, hg0, hc0, hr0, hm0⟩ := HR.out.at_ HKr.out hlt
       obtain ⟨row, hrow⟩ : ∃ row, row = R[i] := ⟨_, rfl⟩
       have hrl : row.data.length ≤ 12000 := by rw [hrow]; have := w5_mem (List.getElem_mem hlt); have := HT.out; omega
       rw [← hrow] at hc0 hr0 hm0
       have hng : ¬ Both F G g0 := fun hh => by have := (hFG g0 hh).1; omega
       have hg0r : g0 < wr.heap.size := HKr.out.lt hg0
       have c0 := fun V (hV : Kp (Both F G) wr V) => (hV.cell (p := ⟨g0, off0 + i, none⟩) hg0r hng).trans hc0
       have HF := Lib.hid HI.out.2.1
       have hb9 := HF.out.ents
       have hb8 := HF.out.segs
       have hrk : ∀ V, Kp Z wr V → Kp No w V := fun V hV => HKr.out.trans hV fun k hk hz => by have := (HI.out.1.zn k hz).1; omega
       have HRK := Lib.hid (show ∀ V, Kp Z wr V → Rd V V.heap.size row.a (u8s row.data) from fun V hV => by
        have hkw := hrk V hV
        obtain ⟨g9, off9, e9, _, hc5, hr5, _⟩ := HR.out.at_ hkw hlt
        rw [← hrow] at hr5
        exact hr5.mono hkw.size (Nat.le_refl _))
       have hap := fun n1 => wAppend_any (wr.drewN n1) d l kA s1 st1 F G (hWA.no ((Kp.refl No wr).drewN n1)) HF.out.hne (HPW.out.keepS (HKr.out.drewN n1) (fun x => x))
        (fun hf => by have := (hFG _ (.inl hf)).1; have := HPW.out.lt; omega) (fun hf => by have := (hFG _ (.inr hf)).1; have := HPW.out.lt; omega) (by decide) (by omega) (by omega) (fun z hz => by have := HF.out.big z hz; omega)
        row.a row.cap row.data (fun V hV => HRK.out V (hV.of_drewN.mono fun k _ hh => (hFG k hh).2)) (by omega)
       unfold AppP at hap
       obtain ⟨RL, hRL⟩ : ∃ RL, RL = row.data.length := ⟨_, rfl⟩
       obtain ⟨q1, hq1⟩ : ∃ q1, q1 = appS kA s1 st1 row.data := ⟨_, rfl⟩
       obtain ⟨e1, he1⟩ : ∃ e1, e1 = q1.1.2 := ⟨_, rfl⟩
       rw [← hRL, ← hq1, ← he1] at hap
       rw [← hRL] at c0
       have HAP := Lib.hid hap
       have HGO := Lib.hid hgo
       have HQ1 := Lib.hid (And.intro hq1 (And.intro he1 hRL))
       have HFG := Lib.hid hFG
       have HROW := Lib.hid (And.intro hrow hrl)
       unfold ptrV at p2
       clear hWA hFG hgo hnp pc hc0 hr0 hrow hng hap hRL hq1 he1 hrl hm0 hb9 hb8 hrk
       go_upto_region 18 with fail
       refine wp_region_held' (Kp (Both F G) wr) [0,0,0,0,0,0,0,0,2,0,0,0,0,0] [0,1,2,3,4,5,6,7,8,9,10,11,12,13] (by kernel_rfl) (by kernel_rfl) (fun _ n h => h.drewN n) (Kp.refl _ _) ?_
       repeat (first
        | (apply wpOrd_skip rfl (by decide) rfl; (focus (go_simp; rfl)))
        | (apply wpOrd_pure rfl rfl rfl; (focus (intro _ _; go_simp; (try go_ints); rfl)); (focus (go_simp; rfl)))
        | (apply wpOrd_read rfl rfl rfl; (focus (intro _; go_simp; (try go_ints); rfl)); (focus (go_simp; rfl))))
       refine wpOrd_eff rfl rfl (fun n1 => ?_)
       have hc := HAP.out n1
       clear HAP
       go_wp2_with fail
       with_reducible refine hc.mono ?_
       rintro e w3 ⟨rfl, hs3⟩
       clear hc
       have hs3' : SaidW wr d l kA F G q1.2.1 q1.2.2 w3 := SaidW.from hs3 ((Kp.refl No wr).drewN n1)
       have HK3 := Lib.hid hs3'.kp
       obtain ⟨Z3, hz3, hf3, hkz3⟩ := HGO.out w3 _ _ hs3'
       have HPL3 := Lib.hid hz3
       have HZ3 := Lib.hid (And.intro hf3 hkz3)
       have HL3 := Lib.hid (own_apart HI.out.2.2.2.2.2.1 (fun g hg => (HI.out.2.2.2.2.2.2 g hg).1) hkz3 hf3)
       clear hs3 hs3' hz3 hf3 hkz3 HGO
       go_wp2_with fail
       refine ⟨HK3.out, ?_⟩
       repeat (first
        | (apply wpOrd_skip rfl (by decide) rfl; (focus (go_simp; rfl)))
        | (apply wpOrd_pure rfl rfl rfl; (focus (intro _ _; go_simp; (try go_ints); rfl)); (focus (go_simp; rfl)))
        | (apply wpOrd_read rfl rfl rfl; (focus (intro _; go_simp; (try go_ints); rfl)); (focus (go_simp; rfl))))
       refine wpOrd_nil (fun nq => ?_)
       obtain ⟨w4, hw4⟩ : ∃ V, V = w3.drewN nq := ⟨_, rfl⟩
       have hk34 : Kp No w3 w4 := by rw [hw4]; exact (Kp.refl No w3).drewN nq
       rw [← hw4]
       have HPL4 := Lib.hid (HPL3.out.no hk34)
       have HL4 := Lib.hid (show Own w4 23 1 (.slice la i lc) i ((R.take i).map Row.val) from HL3.out.1.keep hk34 fun _ _ x => x)
       have HK34 := Lib.hid hk34
       clear hw4 hk34 c0 p2 hpl hg0r
       obtain ⟨H, K, hXA, hHK, hnp, hgo⟩ := HPL4.out.ref
       obtain ⟨hpl, pc⟩ := HPL4.out.cells (Both H K) hnp
       have p3 := fun V hV => (pc V hV).2.2.2
       have hkw4 : Kp No w w4 := HPL4.out.kp
       obtain ⟨g9, off9, e9, _, hc4, _, _⟩ := HR.out.at_ hkw4 hlt
       injection e9 with e9
       injection e9 with e9 e10
       subst e9
       subst e10
       rw [← HROW.out.1, ← HQ1.out.2.2] at hc4
       have hng : ¬ Both H K g0 := fun hh => by have := (hHK g0 hh).1; omega
       have hg04 : g0 < w4.heap.size := hkw4.lt hg0
       have c4 := fun V (hV : Kp (Both H K) w4 V) => (hV.cell (p := ⟨g0, off0 + i, none⟩) hg04 hng).trans hc4
       have hb9 := HF.out.ents
       have hb8 := HF.out.segs
       have hap := fun n1 => xAppend_any (w4.drewN n1) r x kA s1 st1 H K (hXA.no ((Kp.refl No w4).drewN n1)) HF.out.hne HF.out.hsl (by omega) (fun z hz => by have := HF.out.no z hz; omega) (by omega) (by decide) HW.out.tr
        row.a row.cap row.data (fun V hV => by
         have hkV : Kp No w V := hkw4.trans hV.of_drewN fun k hk hh => by have := (hHK k hh).1; omega
         obtain ⟨_, _, _, _, _, hr5, _⟩ := HR.out.at_ hkV hlt
         rw [← HROW.out.1] at hr5
         exact hr5.mono hkV.size (Nat.le_refl _)) (by have := HROW.out.2; omega)
       rw [← HQ1.out.1] at hap
       have hap' : ∀ n1, Calls Tryz.prog _ _ (w4.drewN n1) (AxpP (w4.drewN n1) r x kA H K q1) := hap
       unfold AxpP at hap'
       rw [← HQ1.out.2.2, ← HQ1.out.2.1] at hap'
       have HAP := Lib.hid hap'
       have HGO := Lib.hid hgo
       unfold ptrV at p3
       clear hXA hHK hnp hgo pc hap hap' hc4 hng hkw4 hb9 hb8
       go_upto_region 19 with fail
       refine wp_region_held' (Kp (Both H K) w4) [0,0,0,0,0,0,0,0,2] [0,1,2,3,4,5,6,7,8] (by kernel_rfl) (by kernel_rfl) (fun _ n h => h.drewN n) (Kp.refl _ _) ?_
       repeat (first
        | (apply wpOrd_skip rfl (by decide) rfl; (focus (go_simp; rfl)))
        | (apply wpOrd_pure rfl rfl rfl; (focus (intro _ _; go_simp; (try go_ints); rfl)); (focus (go_simp; rfl)))
        | (apply wpOrd_read rfl rfl rfl; (focus (intro _; go_simp; (try go_ints); rfl)); (focus (go_simp; rfl))))
       refine wpOrd_eff rfl rfl (fun n1 => ?_)
       have hc := HAP.out n1
       clear HAP
       go_wp2_with fail
       with_reducible refine hc.mono ?_
       rintro e w5 ⟨rfl, hs5⟩
       clear hc
       have hs5' : SaidX w4 r x kA H K q1.2.1 q1.2.2 w5 := by
        obtain ⟨F', G', k1, k2, k3, k4⟩ := hs5
        exact ⟨F', G', k1, k2, k3, k4.of_drewN⟩
       have HK5 := Lib.hid hs5'.kp
       obtain ⟨Z5, hz5, hf5, hkz5⟩ := HGO.out w5 _ _ hs5'
       have HPL5 := Lib.hid hz5
       have HL5 := Lib.hid (own_apart HL4.out HL3.out.2 hkz5 hf5)
       clear hs5 hs5' hz5 hf5 hkz5 HGO
       go_wp2_with fail
       refine ⟨HK5.out, ?_⟩
       refine wpOrd_nil (fun nq => ?_)
       obtain ⟨w6, hw6⟩ : ∃ V, V = w5.drewN nq := ⟨_, rfl⟩
       have hk56 : Kp No w5 w6 := by rw [hw6]; exact (Kp.refl No w5).drewN nq
       rw [← hw6]
       obtain ⟨s6, hs6⟩ : ∃ s6, s6 = q1.2.1 := ⟨_, rfl⟩
       obtain ⟨st6, hst6⟩ : ∃ st6, st6 = q1.2.2 := ⟨_, rfl⟩
       have HPL6 := Lib.hid (show PL w w6 p d r l x kA s6 st6 s6 st6 Z5 by rw [hs6, hst6]; exact HPL5.out.no hk56)
       have HL6 := Lib.hid (show Own w6 23 1 (.slice la i lc) i ((R.take i).map Row.val) ∧ ∀ g, (Value.slice la i lc).ownBlock = some g → ¬ Z5 g ∧ w.heap.size ≤ g from ⟨HL5.out.1.keep hk56 fun _ _ x => x, fun g hg => ⟨HL5.out.2 g hg, (HI.out.2.2.2.2.2.2 g hg).2⟩⟩)
       have HF6 := Lib.hid (show Fit (i + 1) kA s6 st6 by rw [hs6, hst6, HQ1.out.1]; exact fit_app HF.out (by omega) _)
       have hlaid : ∃ A', Laid kA s6 st6 A' ∧ (e1 = 0 → st6.ents = datas (R.take (i + 1))) ∧ (e1 ≠ 0 → st6.ents = datas (R.take i)) ∧ su ≤ st6.synced := by
        obtain ⟨A, hA⟩ := HI.out.2.2.1
        have hents := HI.out.2.2.2.1
        obtain ⟨A', k1, k2, k3, k4⟩ := laid_app hA (by have := HF.out.ents; omega) row.data
        rw [← HQ1.out.1] at k1 k2 k3 k4
        rw [← HQ1.out.2.1] at k2 k3
        rw [← hst6] at k1 k2 k3 k4
        rw [← hs6] at k1
        refine ⟨A', k1, fun h => ?_, fun h => ?_, Nat.le_trans HI.out.2.2.2.2.1 k4⟩
        ·rw [k2 h, hents, List.take_succ_eq_append_getElem hlt]
         unfold datas
         rw [List.map_append, List.map_cons, List.map_nil, HROW.out.1]
        ·rw [k3 h, hents]
       have HLA := Lib.hid hlaid
       have HWH := Lib.hid (show e1 = 0 → Whole kA s6 st6 from fun h => by
        have h0 : (appS kA s1 st1 row.data).1.2 = 0 := by rw [← HQ1.out.1, ← HQ1.out.2.1]; exact h
        obtain ⟨d1, d2⟩ := app_zero h0
        rw [hs6, hst6, HQ1.out.1]
        exact whole_app HW.out HF.out (by omega) _ d1 d2)
       clear hw6 hk56 hs6 hst6 hlaid c4 p3 hpl hg04 HW HI HF HPL5 HL5 HPL4 HL4 HL3 HPL3 HRK HFG HZ3 HK34
       by_cases h0 : e1 = 0
       ·subst h0
        obtain ⟨A6, hA6, hE6, _, hS6⟩ := HLA.out
        have HI6 := Lib.hid (show (∃ A, Laid kA s6 st6 A) ∧ st6.ents = datas (R.take (i + 1)) ∧ su ≤ st6.synced ∧ Whole kA s6 st6 from ⟨⟨A6, hA6⟩, hE6 rfl, hS6, HWH.out rfl⟩)
        clear hA6 hE6 hS6 HLA HWH
        have hkw6 : Kp No w w6 := HPL6.out.kp
        obtain ⟨g9, off9, e9, _, hc6, _, _⟩ := HR.out.at_ hkw6 hlt
        injection e9 with e9
        injection e9 with e9 e10
        subst e9
        subst e10
        rw [← HROW.out.1, ← HQ1.out.2.2] at hc6
        have hg06 : g0 < w6.heap.size := hkw6.lt hg0
        obtain ⟨a7, c7, w7, hrun, ho7, hk7, hb7⟩ := own_one (T := 22) (E := 23) (sz := 1) (bytes := 24) Tryz.underlying22 infoRowB HL6.out.1 (news := [.slice row.a RL row.cap]) (by intro u hu; rw [List.mem_singleton] at hu; subst hu; rfl) rfl (cs := #[.slice row.a RL row.cap]) rfl (by omega) (by omega)
        have HX := Lib.hid hrun
        have HPL7 := Lib.hid (HPL6.out.other hk7 fun g hg => ⟨(HL6.out.2 g hg).1, (HL6.out.2 g hg).2⟩)
        have hlz : ∀ g, (Value.slice a7 (i + 1) c7).ownBlock = some g → ¬ Z5 g ∧ w.heap.size ≤ g := fun g hg => by
         rcases hb7 with e | ⟨g', e, hge⟩
         ·exact HL6.out.2 g (e ▸ hg)
         ·rw [e] at hg
          injection hg with hg
          subst hg
          refine ⟨fun hz => ?_, Nat.le_trans hkw6.size hge⟩
          have := (HPL6.out.zn _ hz).2
          omega
        have htk : ((R.take i).map Row.val) ++ [Value.slice row.a RL row.cap] = (R.take (i + 1)).map Row.val := by
         rw [List.take_succ_eq_append_getElem hlt, List.map_append, List.map_cons, List.map_nil, ← HROW.out.1, HQ1.out.2.2]
         rfl
        rw [htk] at ho7
        have HL7 := Lib.hid (And.intro ho7 hlz)
        obtain ⟨v31, hv31, hbits⟩ := bit_31 (i : Int)
        clear hkw6 hrun ho7 hk7 hb7 hlz htk HPL6 HL6
        go_upto_region 22 with (at_builtin; refine wpList_append_run rfl rfl rfl rfl HX.out ?_)
        clear hc6 hg06 HX
        obtain ⟨bb, hbb⟩ : ∃ bb, (bits BinOp.and IntKind.i64 (syncs / 2 ^ v31) 1 == 1) = bb := ⟨_, rfl⟩
        cases bb with
        | false =>
         have HIN := Lib.hid (show KeepI w w7 p (i + 1) (i + 1) su R (.slice a7 (i + 1) c7) d r l x s6 st6 Z5 from ⟨HPL7.out, HF6.out, HI6.out.1, HI6.out.2.1, HI6.out.2.2.1, HL7.out⟩)
         have HWN := Lib.hid HI6.out.2.2.2
         go_wp2_with fail
         go_roundw
         case rel => exact ⟨i + 1, su, a7, c7, s6, st6, Z5, by omega, by omega, rfl, rfl, by go_num, HIN, HWN⟩
         case measure => simp [intOf]; omega
        | true =>
         have hb9 := HF6.out.ents
         obtain ⟨F, G, hWA, hFG, hnp, hgo⟩ := HPL7.out.wal
         obtain ⟨hpl, pc⟩ := HPL7.out.cells No (fun x => x)
         have p2 := (pc w7 (Kp.refl _ _)).2.2.1
         have hap := wSync_any w7 d l kA s6 st6 F G hWA HF6.out.hne
         unfold SncP at hap
         obtain ⟨q2, hq2⟩ : ∃ q2, q2 = sncS kA s6 st6 := ⟨_, rfl⟩
         obtain ⟨m1, hm1⟩ : ∃ m1, m1 = q2.1 := ⟨_, rfl⟩
         rw [← hq2, ← hm1] at hap
         have HAP := Lib.hid hap
         have HGO := Lib.hid hgo
         have HQ2 := Lib.hid (And.intro hq2 hm1)
         unfold ptrV at p2
         clear hWA hFG hnp hgo pc hap hq2 hm1
         go_wp2_with fail
         refine HAP.out.mono ?_
         rintro e w8 ⟨rfl, hs8⟩
         obtain ⟨Z8, hz8, hf8, hkz8⟩ := HGO.out w8 _ _ hs8
         have HPL8 := Lib.hid hz8
         have HL8 := Lib.hid (own_apart HL7.out.1 (fun g hg => (HL7.out.2 g hg).1) hkz8 hf8)
         clear hs8 hz8 hf8 hkz8 HGO HAP p2 hpl
         obtain ⟨H, K, hXA, hHK, hnp, hgo⟩ := HPL8.out.ref
         obtain ⟨hpl, pc⟩ := HPL8.out.cells No (fun x => x)
         have p3 := (pc w8 (Kp.refl _ _)).2.2.2
         have hap := xSync_any w8 r x kA s6 st6 H K hXA HF6.out.hne HF6.out.hsl (by omega) (fun z hz => by have := HF6.out.no z hz; omega) (by decide)
         rw [← HQ2.out.1] at hap
         have hap' : Calls Tryz.prog _ _ w8 (SnxP w8 r x kA H K q2) := hap
         unfold SnxP at hap'
         rw [← HQ2.out.2] at hap'
         have HAP := Lib.hid hap'
         have HGO := Lib.hid hgo
         unfold ptrV at p3
         clear hXA hHK hnp hgo pc hap hap' hb9
         go_wp2_with fail
         refine HAP.out.mono ?_
         rintro e w9 ⟨rfl, hs9⟩
         obtain ⟨Z9, hz9, hf9, hkz9⟩ := HGO.out w9 _ _ hs9
         have HPL9 := Lib.hid hz9
         have HL9 := Lib.hid (own_apart HL8.out.1 HL8.out.2 hkz9 hf9)
         have HL9' := Lib.hid (show Own w9 23 1 (.slice a7 (i + 1) c7) (i + 1) ((R.take (i + 1)).map Row.val) ∧ ∀ g, (Value.slice a7 (i + 1) c7).ownBlock = some g → ¬ Z9 g ∧ w.heap.size ≤ g from ⟨HL9.out.1, fun g hg => ⟨HL9.out.2 g hg, (HL7.out.2 g hg).2⟩⟩)
         have hls : (∃ A, Laid kA q2.2.1 q2.2.2 A) ∧ (m1 = 0 → i + 1 ≤ q2.2.2.synced) ∧ q2.2.2.ents = datas (R.take (i + 1)) ∧ su ≤ q2.2.2.synced := by
          obtain ⟨A, hA⟩ := HI6.out.1
          obtain ⟨k1, k2, k3, k4⟩ := laid_snc hA (by have := HF6.out.ents; omega)
          rw [← HQ2.out.1] at k1 k2 k3 k4
          rw [← HQ2.out.2] at k2
          refine ⟨⟨A, k1⟩, fun h => ?_, k3.trans HI6.out.2.1, Nat.le_trans HI6.out.2.2.1 k4⟩
          rw [k2 h, HI6.out.2.1]
          unfold datas
          rw [List.length_map, List.length_take]
          omega
         have HLS := Lib.hid hls
         have HF9 := Lib.hid (show Fit (i + 1) kA q2.2.1 q2.2.2 by rw [HQ2.out.1]; exact fit_snc HF6.out)
         have HWN := Lib.hid (show Whole kA q2.2.1 q2.2.2 by rw [HQ2.out.1]; exact whole_snc HI6.out.2.2.2)
         clear hs9 hz9 hf9 hkz9 HGO HAP p3 hpl hls HL7 HL8 HL9 HPL7 HPL8 HI6 HF6
         by_cases h0 : m1 = 0
         ·subst h0
          have HIN := Lib.hid (show KeepI w w9 p (i + 1) (i + 1) (i + 1) R (.slice a7 (i + 1) c7) d r l x q2.2.1 q2.2.2 Z9 from ⟨HPL9.out, HF9.out, HLS.out.1, HLS.out.2.2.1, HLS.out.2.1 rfl, HL9'.out⟩)
          go_wp2_with fail
          go_roundw
          case rel => exact ⟨i + 1, i + 1, a7, c7, _, _, Z9, by omega, by omega, rfl, by go_num, by go_num, HIN, HWN⟩
          case measure => simp [intOf]; omega
         ·have HIN := Lib.hid (show KeepI w w9 p (i + 1) (i + 1) su R (.slice a7 (i + 1) c7) d r l x q2.2.1 q2.2.2 Z9 from ⟨HPL9.out, HF9.out, HLS.out.1, HLS.out.2.2.1, HLS.out.2.2.2, HL9'.out⟩)
          have hb : (m1 == 0) = false := by simpa using h0
          go_wp2_with fail
          go_roundw
          case rel => exact ⟨i + 1, su, a7, c7, _, _, Z9, by omega, by omega, rfl, rfl, by go_num, HIN, HWN⟩
          case measure => simp [intOf]; omega
       ·obtain ⟨A6, hA6, _, hE6, hS6⟩ := HLA.out
        have HIE := Lib.hid (show KeepI w w6 p (i + 1) i su R (.slice la i lc) d r l x s6 st6 Z5 from ⟨HPL6.out, HF6.out, ⟨A6, hA6⟩, hE6 h0, hS6, HL6.out⟩)
        have hf : i + 1 ≤ 101 := by omega
        have hb : (e1 == 0) = false := by simpa using h0
        obtain ⟨f, hfi⟩ : ∃ f, f = i + 1 := ⟨_, rfl⟩
        rw [← hfi] at HIE hf
        clear hfi hA6 hE6 hS6 HLA HWH HPL6 HL6 HF6 HQ1 HROW
        obtain ⟨F, hDA, hFZ, hnp, hgo⟩ := HIE.out.1.diskX
        obtain ⟨hpl, pc⟩ := HIE.out.1.cells No (fun x => x)
        have p0 := (pc w6 (Kp.refl _ _)).1
        have HND := Lib.hid (And.intro hDA.few.2.1 hDA.le)
        have hcr := Crash_any w6 d _ F hDA keep HB.out.1 HB.out.2 t
        rw [← HTV.out] at hcr
        have HCR := Lib.hid hcr
        have HGO := Lib.hid hgo
        unfold ptrV at p0
        clear hDA hFZ hnp hgo pc hcr
        go_wp2_with fail
        refine HCR.out.mono ?_
        rintro e x1 ⟨rfl, hd, hk⟩
        obtain ⟨ZA, hzA, hfA, hkA, _⟩ := HGO.out x1 _ _ hd (Foot.refl _ _) hk
        have HPA := Lib.hid hzA
        have HOA := Lib.hid (own_apart HIE.out.2.2.2.2.2.1 (fun g hg => (HIE.out.2.2.2.2.2.2 g hg).1) hkA hfA)
        clear hd hk hzA hfA hkA HCR HGO p0 hpl
        obtain ⟨H, hRA, hHZ, hnp, hgo⟩ := HPA.out.rdiskX
        obtain ⟨hpl, pc⟩ := HPA.out.cells No (fun x => x)
        have p1 := (pc x1 (Kp.refl _ _)).2.1
        have hcr := rCrash_any x1 r _ H hRA keep HB.out.1 HB.out.2 t
        rw [← HTV.out] at hcr
        have HCR := Lib.hid hcr
        have HGO := Lib.hid hgo
        unfold ptrV at p1
        clear hRA hHZ hnp hgo pc hcr
        go_wp2_with fail
        refine HCR.out.mono ?_
        rintro e x2 ⟨rfl, H2, hd, hf2, hk⟩
        obtain ⟨ZB, hzB, hfB, hkB, _⟩ := HGO.out x2 _ _ hd hf2 hk
        have HPB := Lib.hid hzB
        have HOB := Lib.hid (own_apart HOA.out.1 HOA.out.2 hkB hfB)
        clear hd hf2 hk hzB hfB hkB HCR HGO p1 hpl HPA HOA
        obtain ⟨A, hA⟩ := HIE.out.2.2.1
        have hF0 := HIE.out.2.1
        have hEj := HIE.out.2.2.2.1
        obtain ⟨s', st', o1, o2, j0, ex, k1, k2, k3, k4⟩ := keeps_open hA (by have := hF0.ents; omega) hF0.ok HND.out.1 HND.out.2 keep t
        have hsy := HIE.out.2.2.2.2.1
        rw [hEj] at k1 k2
        have hjl : (datas (R.take i)).length = i := by unfold datas; rw [List.length_map, List.length_take]; omega
        rw [hjl] at k2
        have hfr := crS_freeF hF0.ok HND.out.1 keep t
        have hrm : (crS _ keep t).room ≤ 1048576 := hF0.room
        obtain ⟨F, hDA, hFZ, hnp, hgo⟩ := HPB.out.diskX
        obtain ⟨hpl, pc⟩ := HPB.out.cells No (fun x => x)
        have p0 := (pc x2 (Kp.refl _ _)).1
        have hof := open_any x2 d kA _ F hDA hfr.ok (HPW.out.keepS HPB.out.kp fun x => x) (fun hf => by have := (hFZ _ hf).1; have := HPW.out.lt; omega) (by decide) (by decide) hrm
        rw [o1] at hof
        have HXO := Lib.hid (fun V (H : Nat → Prop) (hR : RAt V r _ H) => xopen_any V r kA _ H hR hDA.few.1 hDA.few.2.1 hDA.few.2.2 hfr.ok (by decide) (by decide) hrm)
        rw [o1] at HXO
        unfold kA at hof HXO
        have HOF := Lib.hid hof
        have HGO := Lib.hid hgo
        have HST := Lib.hid (And.intro k1 (And.intro k2 (And.intro k3 (And.intro k4 (And.intro hsy o2.sync)))))
        have hfit := o2.fit hrm hDA.few.1 hDA.few.2.1 hDA.few.2.2
        have HFIT := Lib.hid hfit
        unfold ptrV at p0
        clear hDA hFZ hnp hgo pc hof hA hF0 hEj o1 o2 k1 k2 k3 k4 hsy hjl hfr hrm hfit
        go_wp2_with fail
        refine HOF.out.mono ?_
        intro e x3 hq
        unfold OpnP at hq
        rcases hq with ⟨_, lw, F3, G3, rfl, q1, q2, q3, q4⟩ | ⟨hq, _⟩
        rotate_left
        ·exact absurd rfl hq
        simp only at q1
        obtain ⟨ZC, hzC, hfC, hkC, hCC⟩ := HGO.out x3 _ _ q1.disk q2 q4
        have HPC := Lib.hid hzC
        have HOC := Lib.hid (own_apart HOB.out.1 HOB.out.2 hkC hfC)
        have HLW := Lib.hid (show LogAt x3 lw d ⟨#[97]⟩ st' G3 ∧ ∀ k, G3 k → ¬ ZC k from ⟨q1.log, fun k hg hz => by
         rcases hCC k hz with h1 | h1
         ·have := q3 k hg; have := (HPB.out.zn k h1).2; omega
         ·exact q1.sep k h1 hg⟩)
        clear q1 q2 q3 q4 hzC hfC hkC hCC HOF HGO p0 hpl HPB HOB
        obtain ⟨H, hRA, hHZ, hnp, hgo⟩ := HPC.out.rdiskX
        obtain ⟨hpl, pc⟩ := HPC.out.cells No (fun x => x)
        have p1 := (pc x3 (Kp.refl _ _)).2.1
        have HC := Lib.hid (HXO.out x3 H hRA)
        have HGO := Lib.hid hgo
        unfold ptrV at p1
        clear hRA hHZ hnp hgo pc HXO
        go_wp2_with fail
        refine HC.out.mono ?_
        intro e x4 hq
        unfold OpxP at hq
        rcases hq with ⟨_, xw, H4, K4, rfl, q1, q2, q3, q4⟩ | ⟨hq, _⟩
        rotate_left
        ·exact absurd rfl hq
        simp only at q1
        obtain ⟨ZD, hzD, hfD, hkD, _⟩ := HGO.out x4 _ _ q1.disk q2 q4
        have HK4 := Lib.hid hzD.kp
        have HO4 := Lib.hid (own_apart HOC.out.1 HOC.out.2 hkD hfD).1
        have HLW4 := Lib.hid (HLW.out.1.apart HLW.out.2 hkD hfD).1
        have HXW := Lib.hid q1.log
        clear q1 q2 q3 q4 hzD hfD hkD HC HGO p1 hpl HPC HOC HLW
        obtain ⟨n', hn'⟩ : ∃ n', n' = st'.ents.length := ⟨_, rfl⟩
        obtain ⟨k1, k2, k3, k4, k5, k6⟩ := HST.out
        have hn2 : n' = min j0 i + ex.length := by
         rw [hn', k1, List.length_append, List.length_take]
         unfold datas
         rw [List.length_map, List.length_take]
         omega
        have hni : n' ≤ i := by omega
        have hsn : su ≤ n' := by omega
        have hnx := next_any x4 lw d _ st' G3 HLW4.out (by have := HFIT.out.ents; omega) (by have := HFIT.out.hsl; have := HFIT.out.ents; omega)
        rw [k6, ← hn'] at hnx
        obtain ⟨nx, hnxe⟩ : ∃ nx, nx = n' + 1 := ⟨_, rfl⟩
        rw [← hnxe] at hnx
        have hn1 : (nx : Int) - 1 = (n' : Int) := by omega
        have hdc : decide ((i : Int) + 1 < (n' : Int)) = false := decide_eq_false (by omega)
        have hnb : (nx : Int) ≤ 1000 := by omega
        have hdi : decide ((n' : Int) < (su : Int)) = false := decide_eq_false (by omega)
        have hdn : decide (n' < su) = false := decide_eq_false (by omega)
        have HNX := Lib.hid hnx
        have HN := Lib.hid (And.intro hn' (And.intro hn2 hni))
        clear k1 k2 k3 k4 k5 k6 hn' hn2 hnx hnxe hsn
        go_wp2_with fail
        refine HNX.out.mono ?_
        rintro e x5 ⟨rfl, hk5⟩
        have HK5 := Lib.hid (HK4.out.trans_same hk5)
        have HO5 := Lib.hid (HO4.out.keep hk5 fun _ _ x => x)
        have HLW5 := Lib.hid (HLW4.out.keep_no hk5)
        have HXW5 := Lib.hid (HXW.out.keep_no hk5)
        clear hk5 HNX HO4 HLW4 HXW HK4
        go_wp2_with fail
        go_loopw [27] (fun s27 wr => ∃ k : Nat, k ≤ n' ∧ s27 = .int .i64 (k : Int) ∧ Hid (Kp No x5 wr)) (fun s27 _ => n' - (intOf s27).toNat)
        case atStart => exact ⟨0, Nat.zero_le _, rfl, Lib.hid (Kp.refl _ _)⟩
        case round =>
         obtain ⟨k, hk, rfl, HQ⟩ := hrel
         have HKw := Lib.hid (HK5.out.trans_same HQ.out)
         by_cases hlk : k < n'
         ·have hjs : k < st'.ents.length := by rw [← HN.out.1]; exact hlk
          have hkR : k < R.length := by omega
          have hki : k < i := by omega
          have hen := Entry_any wr lw d _ st' G3 (HLW5.out.keep_no HQ.out) ((k : Int) + 1)
          rw [ent_yes hjs rfl] at hen
          unfold EntP at hen
          obtain ⟨y, hy⟩ : ∃ y, y = st'.ents[k] := ⟨_, rfl⟩
          simp only [← hy] at hen
          have hyl : y.length ≤ 1073741824 := by
           have h9 := entS_len HLW5.out ((k : Int) + 1)
           rw [ent_yes hjs rfl, ← hy] at h9
           exact h9
          obtain ⟨rk, hrk⟩ : ∃ rk, rk = R[k] := ⟨_, rfl⟩
          have hrl : rk.data.length ≤ 12000 := by rw [hrk]; have := w5_mem (List.getElem_mem hkR); have := HT.out; omega
          obtain ⟨gl, gof, rfl, hgl, _, hgc⟩ := HO5.out.rd'.at_ (i := k) (u := rk.val) (by rw [List.getElem?_map, List.getElem?_take_of_lt hki, List.getElem?_eq_getElem hkR, hrk]; rfl)
          have HRK := Lib.hid (show ∀ V, Kp No x5 V → Rd V V.heap.size rk.a (u8s rk.data) from fun V hV => by
           have hkV := HK5.out.trans_same hV
           obtain ⟨_, _, _, _, _, hr5, _⟩ := HR.out.at_ hkV hkR
           rw [← hrk] at hr5
           exact hr5.mono hkV.size (Nat.le_refl _))
          have HSU := Lib.hid (show y ≠ rk.data → su ≤ k from fun hne => by
           apply Decidable.byContradiction
           intro hlt
           obtain ⟨k1, k2, k3, k4, k5, _⟩ := HST.out
           apply hne
           rw [hy, hrk]
           exact keep_at k1 hi (by omega) (by omega) hjs hkR)
          obtain ⟨xa, xc, hxl, hxc, x2c, _, xe⟩ := xrows HXW5.out
          obtain ⟨g8, off8, a8, c8, rfl, hg8, hgc8, hgr8⟩ := xe k hjs
          simp only [← hy] at hgc8 hgr8
          rw [← HN.out.1] at hxc x2c
          have HXC := Lib.hid (And.intro x2c (And.intro hgc8 hgr8))
          have HXL := Lib.hid (And.intro hxl hg8)
          have hgc' : ∀ V, Kp No x5 V → V.cell? ⟨gl, gof + k, none⟩ = some (.slice rk.a rk.data.length rk.cap) := fun V hV => (hV.cell (p := ⟨gl, gof + k, none⟩) hgl fun x => x).trans hgc
          have HEN := Lib.hid hen
          have HGC := Lib.hid hgc'
          have HGL := Lib.hid hgl
          clear hy hrk hgc hgc' hjs hen xe x2c hgc8 hgr8 hgl hxl hg8
          go_wp2_with fail
          refine HEN.out.mono ?_
          rintro e x6 ⟨v, rfl, ho, hk6, _⟩
          obtain ⟨a6, c6, rfl, _, _⟩ := ho.rd
          have HK6 := Lib.hid (HQ.out.trans_same hk6)
          have HO6 := Lib.hid ho
          have c0 := HGC.out x6 HK6.out
          have hgl6 := HK6.out.lt HGL.out
          have hsm := same_any a6 rk.a c6 rk.cap x6.heap.size x6.heap.size y rk.data x6 ho.rd' (HRK.out x6 HK6.out) (by omega)
          have HSM := Lib.hid hsm
          clear ho hk6 hsm HEN
          go_wp2_with fail
          refine HSM.out.mono ?_
          rintro e x7 ⟨rfl, n8, rfl⟩
          obtain ⟨V8, hV8⟩ : ∃ V, V = x6.drewN n8 := ⟨_, rfl⟩
          have hk67 : Kp No x6 V8 := by rw [hV8]; exact (Kp.refl _ _).drewN n8
          have HK7 := Lib.hid (HK6.out.trans_same hk67)
          have HO7 := Lib.hid (HO6.out.keep hk67 fun _ _ x => x)
          rw [← hV8]
          clear hV8 hk67 HSM c0 hgl6
          by_cases hyr : y = rk.data
          ·rw [decide_eq_true hyr]
           clear hyr
           go_wp2_with fail
           go_roundw
           case rel => exact ⟨k + 1, by omega, by go_num, HK7⟩
           case measure => simp [intOf]; omega
          ·rw [decide_eq_false hyr]
           have hsk : su ≤ k := HSU.out hyr
           have x2c := HXC.out.1 V8 HK7.out
           have hxl := HK7.out.lt HXL.out.1
           have hg8 := HK7.out.lt HXL.out.2
           have hgc8 := HXC.out.2.1 V8 HK7.out
           have hsm := same_any a6 a8 c6 c8 V8.heap.size V8.heap.size y y V8 HO7.out.rd' (HXC.out.2.2 V8 HK7.out) (by omega)
           have HSM := Lib.hid hsm
           clear hsm hyr HSU
           go_wp2_with fail
           refine HSM.out.mono ?_
           rintro e x9 ⟨rfl, n9, rfl⟩
           obtain ⟨V9, hV9⟩ : ∃ V, V = V8.drewN n9 := ⟨_, rfl⟩
           have HK9 := Lib.hid (show Kp No w V9 by rw [hV9]; exact (HK5.out.trans_same HK7.out).drewN n9)
           have HKN := Lib.hid (wknown_any V9 (HPW.out.keepS HK9.out fun x => x))
           rw [← hV9]
           (try simp only [decide_true])
           clear hV9 HSM x2c hxl hg8 hgc8
           go_wp2_with fail
           refine HKN.out.mono ?_
           rintro e x10 ⟨rfl, hk10⟩
           have HKF := Lib.hid (HK9.out.trans_same hk10)
           clear hk10
           go_wp2_with fail
           go_ret
           exact ⟨rfl, HKF.out⟩
         ·have hkn : n' = k := by omega
          subst hkn
          have HKN := Lib.hid (wknown_any wr (HPW.out.keepS HKw.out fun x => x))
          clear hlk
          go_wp2_with fail
          refine HKN.out.mono ?_
          rintro e x10 ⟨rfl, hk10⟩
          have HKF := Lib.hid (HKw.out.trans_same hk10)
          clear hk10
          go_wp2_with fail
          go_ret
          exact ⟨rfl, HKF.out⟩
      ·have hin : R.length = i := by omega
       have HIE := HI
       obtain ⟨f, hfi⟩ : ∃ f, f = i := ⟨_, rfl⟩
       have hf : f ≤ 101 := by omega
       have HIE := Lib.hid (show KeepI w wr p f i su R (.slice la i lc) d r l x s1 st1 Z by rw [hfi]; exact HI.out)
       clear hfi HI HW hlt
       obtain ⟨F, hDA, hFZ, hnp, hgo⟩ := HIE.out.1.diskX
       obtain ⟨hpl, pc⟩ := HIE.out.1.cells No (fun x => x)
       have p0 := (pc wr (Kp.refl _ _)).1
       have HND := Lib.hid (And.intro hDA.few.2.1 hDA.le)
       have hcr := Crash_any wr d _ F hDA keep HB.out.1 HB.out.2 t
       rw [← HTV.out] at hcr
       have HCR := Lib.hid hcr
       have HGO := Lib.hid hgo
       unfold ptrV at p0
       clear hDA hFZ hnp hgo pc hcr
       go_wp2_with fail
       refine HCR.out.mono ?_
       rintro e x1 ⟨rfl, hd, hk⟩
       obtain ⟨ZA, hzA, hfA, hkA, _⟩ := HGO.out x1 _ _ hd (Foot.refl _ _) hk
       have HPA := Lib.hid hzA
       have HOA := Lib.hid (own_apart HIE.out.2.2.2.2.2.1 (fun g hg => (HIE.out.2.2.2.2.2.2 g hg).1) hkA hfA)
       clear hd hk hzA hfA hkA HCR HGO p0 hpl
       obtain ⟨H, hRA, hHZ, hnp, hgo⟩ := HPA.out.rdiskX
       obtain ⟨hpl, pc⟩ := HPA.out.cells No (fun x => x)
       have p1 := (pc x1 (Kp.refl _ _)).2.1
       have hcr := rCrash_any x1 r _ H hRA keep HB.out.1 HB.out.2 t
       rw [← HTV.out] at hcr
       have HCR := Lib.hid hcr
       have HGO := Lib.hid hgo
       unfold ptrV at p1
       clear hRA hHZ hnp hgo pc hcr
       go_wp2_with fail
       refine HCR.out.mono ?_
       rintro e x2 ⟨rfl, H2, hd, hf2, hk⟩
       obtain ⟨ZB, hzB, hfB, hkB, _⟩ := HGO.out x2 _ _ hd hf2 hk
       have HPB := Lib.hid hzB
       have HOB := Lib.hid (own_apart HOA.out.1 HOA.out.2 hkB hfB)
       clear hd hf2 hk hzB hfB hkB HCR HGO p1 hpl HPA HOA
       obtain ⟨A, hA⟩ := HIE.out.2.2.1
       have hF0 := HIE.out.2.1
       have hEj := HIE.out.2.2.2.1
       obtain ⟨s', st', o1, o2, j0, ex, k1, k2, k3, k4⟩ := keeps_open hA (by have := hF0.ents; omega) hF0.ok HND.out.1 HND.out.2 keep t
       have hsy := HIE.out.2.2.2.2.1
       rw [hEj] at k1 k2
       have hjl : (datas (R.take i)).length = i := by unfold datas; rw [List.length_map, List.length_take]; omega
       rw [hjl] at k2
       have hfr := crS_freeF hF0.ok HND.out.1 keep t
       have hrm : (crS _ keep t).room ≤ 1048576 := hF0.room
       obtain ⟨F, hDA, hFZ, hnp, hgo⟩ := HPB.out.diskX
       obtain ⟨hpl, pc⟩ := HPB.out.cells No (fun x => x)
       have p0 := (pc x2 (Kp.refl _ _)).1
       have hof := open_any x2 d kA _ F hDA hfr.ok (HPW.out.keepS HPB.out.kp fun x => x) (fun hf => by have := (hFZ _ hf).1; have := HPW.out.lt; omega) (by decide) (by decide) hrm
       rw [o1] at hof
       have HXO := Lib.hid (fun V (H : Nat → Prop) (hR : RAt V r _ H) => xopen_any V r kA _ H hR hDA.few.1 hDA.few.2.1 hDA.few.2.2 hfr.ok (by decide) (by decide) hrm)
       rw [o1] at HXO
       unfold kA at hof HXO
       have HOF := Lib.hid hof
       have HGO := Lib.hid hgo
       have HST := Lib.hid (And.intro k1 (And.intro k2 (And.intro k3 (And.intro k4 (And.intro hsy o2.sync)))))
       have hfit := o2.fit hrm hDA.few.1 hDA.few.2.1 hDA.few.2.2
       have HFIT := Lib.hid hfit
       unfold ptrV at p0
       clear hDA hFZ hnp hgo pc hof hA hF0 hEj o1 o2 k1 k2 k3 k4 hsy hjl hfr hrm hfit
       go_wp2_with fail
       refine HOF.out.mono ?_
       intro e x3 hq
       unfold OpnP at hq
       rcases hq with ⟨_, lw, F3, G3, rfl, q1, q2, q3, q4⟩ | ⟨hq, _⟩
       rotate_left
       ·exact absurd rfl hq
       simp only at q1
       obtain ⟨ZC, hzC, hfC, hkC, hCC⟩ := HGO.out x3 _ _ q1.disk q2 q4
       have HPC := Lib.hid hzC
       have HOC := Lib.hid (own_apart HOB.out.1 HOB.out.2 hkC hfC)
       have HLW := Lib.hid (show LogAt x3 lw d ⟨#[97]⟩ st' G3 ∧ ∀ k, G3 k → ¬ ZC k from ⟨q1.log, fun k hg hz => by
        rcases hCC k hz with h1 | h1
        ·have := q3 k hg; have := (HPB.out.zn k h1).2; omega
        ·exact q1.sep k h1 hg⟩)
       clear q1 q2 q3 q4 hzC hfC hkC hCC HOF HGO p0 hpl HPB HOB
       obtain ⟨H, hRA, hHZ, hnp, hgo⟩ := HPC.out.rdiskX
       obtain ⟨hpl, pc⟩ := HPC.out.cells No (fun x => x)
       have p1 := (pc x3 (Kp.refl _ _)).2.1
       have HC := Lib.hid (HXO.out x3 H hRA)
       have HGO := Lib.hid hgo
       unfold ptrV at p1
       clear hRA hHZ hnp hgo pc HXO
       go_wp2_with fail
       refine HC.out.mono ?_
       intro e x4 hq
       unfold OpxP at hq
       rcases hq with ⟨_, xw, H4, K4, rfl, q1, q2, q3, q4⟩ | ⟨hq, _⟩
       rotate_left
       ·exact absurd rfl hq
       simp only at q1
       obtain ⟨ZD, hzD, hfD, hkD, _⟩ := HGO.out x4 _ _ q1.disk q2 q4
       have HK4 := Lib.hid hzD.kp
       have HO4 := Lib.hid (own_apart HOC.out.1 HOC.out.2 hkD hfD).1
       have HLW4 := Lib.hid (HLW.out.1.apart HLW.out.2 hkD hfD).1
       have HXW := Lib.hid q1.log
       clear q1 q2 q3 q4 hzD hfD hkD HC HGO p1 hpl HPC HOC HLW
       obtain ⟨n', hn'⟩ : ∃ n', n' = st'.ents.length := ⟨_, rfl⟩
       obtain ⟨k1, k2, k3, k4, k5, k6⟩ := HST.out
       have hn2 : n' = min j0 i + ex.length := by
        rw [hn', k1, List.length_append, List.length_take]
        unfold datas
        rw [List.length_map, List.length_take]
        omega
       have hni : n' ≤ i := by omega
       have hsn : su ≤ n' := by omega
       have hnx := next_any x4 lw d _ st' G3 HLW4.out (by have := HFIT.out.ents; omega) (by have := HFIT.out.hsl; have := HFIT.out.ents; omega)
       rw [k6, ← hn'] at hnx
       obtain ⟨nx, hnxe⟩ : ∃ nx, nx = n' + 1 := ⟨_, rfl⟩
       rw [← hnxe] at hnx
       have hn1 : (nx : Int) - 1 = (n' : Int) := by omega
       have hdc : decide ((i : Int) + 1 < (n' : Int)) = false := decide_eq_false (by omega)
       have hnb : (nx : Int) ≤ 1000 := by omega
       have hdi : decide ((n' : Int) < (su : Int)) = false := decide_eq_false (by omega)
       have hdn : decide (n' < su) = false := decide_eq_false (by omega)
       have HNX := Lib.hid hnx
       have HN := Lib.hid (And.intro hn' (And.intro hn2 hni))
       clear k1 k2 k3 k4 k5 k6 hn' hn2 hnx hnxe hsn
       go_wp2_with fail
       refine HNX.out.mono ?_
       rintro e x5 ⟨rfl, hk5⟩
       have HK5 := Lib.hid (HK4.out.trans_same hk5)
       have HO5 := Lib.hid (HO4.out.keep hk5 fun _ _ x => x)
       have HLW5 := Lib.hid (HLW4.out.keep_no hk5)
       have HXW5 := Lib.hid (HXW.out.keep_no hk5)
       clear hk5 HNX HO4 HLW4 HXW HK4
       go_wp2_with fail
       go_loopw [27] (fun s27 wr => ∃ k : Nat, k ≤ n' ∧ s27 = .int .i64 (k : Int) ∧ Hid (Kp No x5 wr)) (fun s27 _ => n' - (intOf s27).toNat)
       case atStart => exact ⟨0, Nat.zero_le _, rfl, Lib.hid (Kp.refl _ _)⟩
       case round =>
        obtain ⟨k, hk, rfl, HQ⟩ := hrel
        have HKw := Lib.hid (HK5.out.trans_same HQ.out)
        by_cases hlk : k < n'
        ·have hjs : k < st'.ents.length := by rw [← HN.out.1]; exact hlk
         have hkR : k < R.length := by omega
         have hki : k < i := by omega
         have hen := Entry_any wr lw d _ st' G3 (HLW5.out.keep_no HQ.out) ((k : Int) + 1)
         rw [ent_yes hjs rfl] at hen
         unfold EntP at hen
         obtain ⟨y, hy⟩ : ∃ y, y = st'.ents[k] := ⟨_, rfl⟩
         simp only [← hy] at hen
         have hyl : y.length ≤ 1073741824 := by
          have h9 := entS_len HLW5.out ((k : Int) + 1)
          rw [ent_yes hjs rfl, ← hy] at h9
          exact h9
         obtain ⟨rk, hrk⟩ : ∃ rk, rk = R[k] := ⟨_, rfl⟩
         have hrl : rk.data.length ≤ 12000 := by rw [hrk]; have := w5_mem (List.getElem_mem hkR); have := HT.out; omega
         obtain ⟨gl, gof, rfl, hgl, _, hgc⟩ := HO5.out.rd'.at_ (i := k) (u := rk.val) (by rw [List.getElem?_map, List.getElem?_take_of_lt hki, List.getElem?_eq_getElem hkR, hrk]; rfl)
         have HRK := Lib.hid (show ∀ V, Kp No x5 V → Rd V V.heap.size rk.a (u8s rk.data) from fun V hV => by
          have hkV := HK5.out.trans_same hV
          obtain ⟨_, _, _, _, _, hr5, _⟩ := HR.out.at_ hkV hkR
          rw [← hrk] at hr5
          exact hr5.mono hkV.size (Nat.le_refl _))
         have HSU := Lib.hid (show y ≠ rk.data → su ≤ k from fun hne => by
          apply Decidable.byContradiction
          intro hlt
          obtain ⟨k1, k2, k3, k4, k5, _⟩ := HST.out
          apply hne
          rw [hy, hrk]
          exact keep_at k1 hi (by omega) (by omega) hjs hkR)
         obtain ⟨xa, xc, hxl, hxc, x2c, _, xe⟩ := xrows HXW5.out
         obtain ⟨g8, off8, a8, c8, rfl, hg8, hgc8, hgr8⟩ := xe k hjs
         simp only [← hy] at hgc8 hgr8
         rw [← HN.out.1] at hxc x2c
         have HXC := Lib.hid (And.intro x2c (And.intro hgc8 hgr8))
         have HXL := Lib.hid (And.intro hxl hg8)
         have hgc' : ∀ V, Kp No x5 V → V.cell? ⟨gl, gof + k, none⟩ = some (.slice rk.a rk.data.length rk.cap) := fun V hV => (hV.cell (p := ⟨gl, gof + k, none⟩) hgl fun x => x).trans hgc
         have HEN := Lib.hid hen
         have HGC := Lib.hid hgc'
         have HGL := Lib.hid hgl
         clear hy hrk hgc hgc' hjs hen xe x2c hgc8 hgr8 hgl hxl hg8
         go_wp2_with fail
         refine HEN.out.mono ?_
         rintro e x6 ⟨v, rfl, ho, hk6, _⟩
         obtain ⟨a6, c6, rfl, _, _⟩ := ho.rd
         have HK6 := Lib.hid (HQ.out.trans_same hk6)
         have HO6 := Lib.hid ho
         have c0 := HGC.out x6 HK6.out
         have hgl6 := HK6.out.lt HGL.out
         have hsm := same_any a6 rk.a c6 rk.cap x6.heap.size x6.heap.size y rk.data x6 ho.rd' (HRK.out x6 HK6.out) (by omega)
         have HSM := Lib.hid hsm
         clear ho hk6 hsm HEN
         go_wp2_with fail
         refine HSM.out.mono ?_
         rintro e x7 ⟨rfl, n8, rfl⟩
         obtain ⟨V8, hV8⟩ : ∃ V, V = x6.drewN n8 := ⟨_, rfl⟩
         have hk67 : Kp No x6 V8 := by rw [hV8]; exact (Kp.refl _ _).drewN n8
         have HK7 := Lib.hid (HK6.out.trans_same hk67)
         have HO7 := Lib.hid (HO6.out.keep hk67 fun _ _ x => x)
         rw [← hV8]
         clear hV8 hk67 HSM c0 hgl6
         by_cases hyr : y = rk.data
         ·rw [decide_eq_true hyr]
          clear hyr
          go_wp2_with fail
          go_roundw
          case rel => exact ⟨k + 1, by omega, by go_num, HK7⟩
          case measure => simp [intOf]; omega
         ·rw [decide_eq_false hyr]
          have hsk : su ≤ k := HSU.out hyr
          have x2c := HXC.out.1 V8 HK7.out
          have hxl := HK7.out.lt HXL.out.1
          have hg8 := HK7.out.lt HXL.out.2
          have hgc8 := HXC.out.2.1 V8 HK7.out
          have hsm := same_any a6 a8 c6 c8 V8.heap.size V8.heap.size y y V8 HO7.out.rd' (HXC.out.2.2 V8 HK7.out) (by omega)
          have HSM := Lib.hid hsm
          clear hsm hyr HSU
          go_wp2_with fail
          refine HSM.out.mono ?_
          rintro e x9 ⟨rfl, n9, rfl⟩
          obtain ⟨V9, hV9⟩ : ∃ V, V = V8.drewN n9 := ⟨_, rfl⟩
          have HK9 := Lib.hid (show Kp No w V9 by rw [hV9]; exact (HK5.out.trans_same HK7.out).drewN n9)
          have HKN := Lib.hid (wknown_any V9 (HPW.out.keepS HK9.out fun x => x))
          rw [← hV9]
          (try simp only [decide_true])
          clear hV9 HSM x2c hxl hg8 hgc8
          go_wp2_with fail
          refine HKN.out.mono ?_
          rintro e x10 ⟨rfl, hk10⟩
          have HKF := Lib.hid (HK9.out.trans_same hk10)
          clear hk10
          go_wp2_with fail
          go_ret
          exact ⟨rfl, HKF.out⟩
        ·have hkn : n' = k := by omega
         subst hkn
         have HKN := Lib.hid (wknown_any wr (HPW.out.keepS HKw.out fun x => x))
         clear hlk
         go_wp2_with fail
         refine HKN.out.mono ?_
         rintro e x10 ⟨rfl, hk10⟩
         have HKF := Lib.hid (HKw.out.trans_same hk10)
         clear hk10
         go_wp2_with fail
         go_ret
         exact ⟨rfl, HKF.out⟩
   ·go_wp2_with fail
    refine HKN.out.mono ?_
    rintro e w' ⟨rfl, hk⟩
    have HKK := Lib.hid hk
    clear hk
    go_wp2_with fail
    go_ret
    exact ⟨rfl, HKK.out⟩
end Go.Proofs.YtdibkdgafidjgaaGreatDoor

