/-
  The law WalAnyBytes, walked.
-/
import Derived.Test.YtdibkdgafidjgaaGreatDoorWd3
import Derived.Test.YtdibkdgafidjgaaGreatDoorWRowsM
namespace Go.Proofs.YtdibkdgafidjgaaGreatDoor
open Go.RowKit Go.Mer
def DiskOk (w W : World) (p : Nat) : Prop := ∃ d r l x s st Z, PL w W p d r l x kA s st s st Z ∧ Free s ∧ s.room ≤ 1048576
theorem wr_free {s : DSt} (h : Free s) (x : ByteArray) (b : List UInt8) : Free (wrS s x b).2 := by
 obtain ⟨h1, h2⟩ := wr_ok h.ok x b
 refine ⟨?_, ?_, h1⟩
 ·unfold wrS five
  split
  ·exact h.fuse
  ·split
   ·split
    ·simp [h.fuse]
    ·exact h.fuse
   ·exact h.fuse
 ·rcases five_keep s [x] (wrCode s x b) (wrFiles s.files x b) with e | ⟨_, e⟩
  ·unfold wrS; rw [e]; exact h.nodup
  ·unfold wrS; rw [e]
   unfold wrFiles
   split
   ·exact gset_nodup h.nodup
   ·exact gset_nodup h.nodup
theorem PairOk.stood {w W : World} {p i : Nat} (h : PairOk w W p i) (hi : i ≤ 3000) : Calls Tryz.prog 27 #[.pointer (some ⟨p, 0, none⟩)] W fun e w' => e = .returned (.bool true) ∧ PairOk w w' p i := by
 obtain ⟨d, r, l, x, s, st, Z, h1, h2, h3⟩ := h
 refine (stood_any w W p d r l x i kA s st Z h1 h2 hi (by decide)).mono ?_
 rintro e w' ⟨rfl, hk⟩
 exact ⟨rfl, d, r, l, x, s, st, Z, h1.no hk, h2, h3⟩
def OpenOk (w W : World) (p : Nat) : Prop := ∃ d r l x s st Z, PL w W p d r l x kA s st s st Z ∧ Fit 0 kA s st ∧ Whole kA s st ∧ Free s
theorem OpenOk.pair {w W : World} {p : Nat} (h : OpenOk w W p) : PairOk w W p 0 := by
 obtain ⟨d, r, l, x, s, st, Z, h1, h2, h3, _⟩ := h
 exact ⟨d, r, l, x, s, st, Z, h1, h2, fun _ => h3⟩
theorem OpenOk.disk {w W : World} {p : Nat} (h : OpenOk w W p) : DiskOk w W p := by
 obtain ⟨d, r, l, x, s, st, Z, h1, h2, h3, h4⟩ := h
 exact ⟨d, r, l, x, s, st, Z, h1, h4, h2.room⟩
theorem OpenOk.stood {w W : World} {p : Nat} (h : OpenOk w W p) : Calls Tryz.prog 27 #[.pointer (some ⟨p, 0, none⟩)] W fun e w' => e = .returned (.bool true) ∧ OpenOk w w' p := by
 obtain ⟨d, r, l, x, s, st, Z, h1, h2, h3, h4⟩ := h
 refine (stood_any w W p d r l x 0 kA s st Z h1 h2 (by decide) (by decide)).mono ?_
 rintro e w' ⟨rfl, hk⟩
 exact ⟨rfl, d, r, l, x, s, st, Z, h1.no hk, h2, h3, h4⟩
theorem DiskOk.opens {w W : World} {p : Nat} (h : DiskOk w W p) (hpow : Pow w) : Calls Tryz.prog 32 #[.pointer (some ⟨p, 0, none⟩)] W fun e w' => e = .returned (.bool true) ∧ OpenOk w w' p := by
 obtain ⟨d, r, l, x, s, st, Z, h1, h2, h3⟩ := h
 obtain ⟨Z9, hpd, _⟩ := h1.forget
 refine (open_pair w W p d r (ptrV l) (ptrV x) s Z9 hpd hpow h2 h3).mono ?_
 rintro e w' ⟨rfl, l', x', s', st', Z', _, o2, o3, o4, _, _⟩
 exact ⟨rfl, d, r, l', x', s', st', Z', o4, o3, o2.whole, o2.free⟩
theorem DiskOk.kp {w W : World} {p : Nat} (h : DiskOk w W p) : Kp No w W := by
 obtain ⟨d, r, l, x, s, st, Z, h1, _⟩ := h
 exact h1.kp
theorem OpenOk.kp {w W : World} {p : Nat} (h : OpenOk w W p) : Kp No w W := h.disk.kp
theorem DiskOk.no {w W W' : World} {p : Nat} (h : DiskOk w W p) (hk : Kp No W W') : DiskOk w W' p := by
 obtain ⟨d, r, l, x, s, st, Z, h1, h2, h3⟩ := h
 exact ⟨d, r, l, x, s, st, Z, h1.no hk, h2, h3⟩
theorem and_255 (x : Int) : ∃ v : Nat, v ≤ 255 ∧ bits .and .i64 x 255 = (v : Int) := by
 have h : ((BitVec.ofInt 64 x) &&& (BitVec.ofInt 64 255)).toNat ≤ 255 := by
  rw [BitVec.toNat_and]
  exact Nat.and_le_right
 refine ⟨_, h, ?_⟩
 simp only [bits]
 unfold IntKind.wrap
 have e : (2 ^ IntKind.i64.bits : Int) = 18446744073709551616 := by decide
 have e2 : IntKind.i64.bits = 64 := rfl
 rw [e2] at e ⊢
 rw [e]
 have h2 : ((((BitVec.ofInt 64 x) &&& (BitVec.ofInt 64 255)).toNat : Nat) : Int) ≤ 255 := Int.ofNat_le.2 h
 have h3 : (0 : Int) ≤ ((((BitVec.ofInt 64 x) &&& (BitVec.ofInt 64 255)).toNat : Nat) : Int) := Int.natCast_nonneg _
 rw [Int.emod_eq_of_lt h3 (by omega)]
 rw [if_neg]
 simp only [Bool.and_eq_true, decide_eq_true_eq, not_and]
 intro _
 have e3 : (2 ^ (64 - 1) : Int) = 9223372036854775808 := by decide
 rw [e3]
 omega
set_option maxRecDepth 100000 in
set_option maxHeartbeats 4000000 in
theorem wany_any (w : World) (hpow : Pow w) (na : Option Addr) (nc : Nat) (N : List Int) (hN : IntsAt w na N) (_ : N.length ≤ 140737488351232) (a : Option Addr) (cap : Nat) (R : List Row) (hR : RowsAt w a R) (hl : R.length ≤ 140737488351232) :
  Calls Tryz.prog 7 #[.slice na N.length nc, .slice a R.length cap] w fun e w' => e = .returned (.bool true) ∧ Kp No w w' := by
 have HR := Lib.hid hR
 have HN := Lib.hid hN
 have HPW := Lib.hid hpow
 have HKN := Lib.hid (wknown_any w hpow)
 clear hR hN hpow
 go_enter Tryz.func7, Tryz.ntmps7
 go_wp2_with fail
 go_loopg [5, 6] R.length (fun g n i wr => ∃ j : Nat, j ≤ R.length ∧ g = R.length - j ∧ i = .int .i64 (j : Int) ∧ n = .int .i64 (w5 (R.take j) : Int) ∧ w = wr)
 case atStart => exact ⟨0, Nat.zero_le _, rfl, rfl, rfl, rfl⟩
 case round =>
  obtain ⟨j, hj, rfl, rfl, rfl, rfl⟩ := hrel
  by_cases hlt : j < R.length
  ·obtain ⟨g0, off0, rfl, hg0, hc0, hr0, hm0⟩ := HR.out.at_ (Kp.refl _ _) hlt
   have hst := Lib.hid (w5_step R hlt)
   obtain ⟨Lj, hLj⟩ : ∃ Lj, Lj = R[j].data.length := ⟨_, rfl⟩
   rw [← hLj] at hst hc0 hm0
   clear hLj hr0
   by_cases hn : w5 (R.take j) ≤ 12000
   ·go_wp2_with fail
    go_roundg (R.length - (j + 1))
    case measure => omega
    case rel => exact ⟨j + 1, by omega, rfl, by go_num, by rw [hst.out]; first | (push_cast; rfl) | (go_num; omega) | (push_cast; simp [Int.add_assoc]), rfl⟩
   ·go_wp2_with fail
    refine HKN.out.mono ?_
    rintro e w' ⟨rfl, hk⟩
    have HKK := Lib.hid hk
    clear hk
    go_wp2_with fail
    go_ret
    exact ⟨rfl, HKK.out⟩
  ·by_cases hn : w5 (R.take j) ≤ 12000
   ·obtain rfl : j = R.length := by omega
    rw [List.take_length] at hn ⊢
    have hlw := w5_len R
    clear hlt hj
    obtain ⟨T, hT⟩ : ∃ T, T = w5 R := ⟨_, rfl⟩
    have HT := Lib.hid hT
    rw [← hT] at hn hlw ⊢
    clear hT
    rcases (show 30 < R.length ∨ (R.length ≤ 30 ∧ N.length < R.length) ∨ (R.length ≤ 30 ∧ R.length ≤ N.length) by omega) with hb | ⟨hb1, hb2⟩ | ⟨hb1, hb2⟩
    ·go_wp2_with fail
     refine HKN.out.mono ?_
     rintro e w' ⟨rfl, hk⟩
     have HKK := Lib.hid hk
     clear hk
     go_wp2_with fail
     go_ret
     exact ⟨rfl, HKK.out⟩
    ·go_wp2_with fail
     refine HKN.out.mono ?_
     rintro e w' ⟨rfl, hk⟩
     have HKK := Lib.hid hk
     clear hk
     go_wp2_with fail
     go_ret
     exact ⟨rfl, HKK.out⟩
    ·have HST := Lib.hid (start_any w 1048576 HPW.out (Nat.le_refl _))
     clear HKN
     go_wp2_with fail
     refine HST.out.mono ?_
     rintro e w2 ⟨p, d0, r0, l0, x0, Z0, rfl, hPL, _, _⟩
     have HP0 := Lib.hid (show DiskOk w w2 p from ⟨d0, r0, l0, x0, _, st0, Z0, hPL, free_empty _, Nat.le_refl _⟩)
     clear hPL HST
     go_wp2_with fail
     go_loopw [9] (fun s9 wr => ∃ i : Nat, i ≤ R.length ∧ s9 = .int .i64 (i : Int) ∧ Hid (DiskOk w wr p)) (fun s9 _ => R.length - (intOf s9).toNat)
     case atStart => exact ⟨0, Nat.zero_le _, rfl, HP0⟩
     case round =>
      obtain ⟨i, hi, rfl, HP⟩ := hrel
      have HKr := Lib.hid HP.out.kp
      by_cases hlt : i < R.length
      ·obtain ⟨g1, off1, rfl, l1⟩ := rd_chunk (f := intC) (c := 1) intC_len (by decide) HN.out.top (show i < N.length by omega)
       have t1 := l1 _ HKr.out 0 _ rfl
       rw [Nat.add_zero, Nat.mul_one] at t1
       have hg1l : g1 < wr.heap.size := World.block_lt_of_cell? wr _ t1
       have hii := HN.out.each _ (List.getElem_mem (show i < N.length by omega))
       obtain ⟨v, hv⟩ : ∃ v, v = N[i]'(by omega) := ⟨_, rfl⟩
       rw [← hv] at t1 hii
       obtain ⟨k, hkb, hk⟩ := and_255 v
       have HNM := Lib.hid (rName_bnm kA (by decide) k (by omega) wr)
       unfold kA at HNM
       clear l1 hv hii
       go_wp2_with fail
       refine HNM.out.mono ?_
       rintro e w3 ⟨rfl, hk3⟩
       obtain ⟨nm, hnm⟩ : ∃ nm, nm = bnm ⟨#[97]⟩ k := ⟨_, rfl⟩
       rw [← hnm]
       obtain ⟨d, r, l, x, s, st, Z, hPL, hfree, hroom⟩ := HP.out.no hk3
       have HPL3 := Lib.hid hPL
       have HFR := Lib.hid (And.intro hfree hroom)
       have HK3 := Lib.hid (HKr.out.trans_same hk3)
       obtain ⟨F, hDA, hFZ, hnp, hgo⟩ := hPL.diskZ
       obtain ⟨hpl3, pc⟩ := hPL.cells F hnp
       have p0 := fun V hV => (pc V hV).1
       obtain ⟨g0, off0, rfl, hg0, hc0, hr0, hm0⟩ := HR.out.at_ HK3.out hlt
       obtain ⟨row, hrow⟩ : ∃ row, row = R[i] := ⟨_, rfl⟩
       rw [← hrow] at hc0 hr0 hm0
       have hng : ¬ F g0 := fun hh => by have := (hFZ g0 hh).1; omega
       have hg03 : g0 < w3.heap.size := HK3.out.lt hg0
       have c0 := fun V (hV : Kp F w3 V) => (hV.cell (p := ⟨g0, off0 + i, none⟩) hg03 hng).trans hc0
       obtain ⟨RL, hRL⟩ : ∃ RL, RL = row.data.length := ⟨_, rfl⟩
       have hap := fun n1 => Write_any (w3.drewN n1) d s F (hDA.keep_no ((Kp.refl No w3).drewN n1)) nm row.a row.cap row.data ((hr0.mono HK3.out.size (Nat.le_refl _)).drewN n1) (by omega)
       unfold Said5 at hap
       obtain ⟨qc, hqc⟩ : ∃ qc, qc = wrS s nm row.data := ⟨_, rfl⟩
       obtain ⟨ec, hec⟩ : ∃ ec, ec = qc.1 := ⟨_, rfl⟩
       rw [← hqc, ← hec, ← hRL] at hap
       rw [← hRL] at c0
       have HAP := Lib.hid hap
       have HGO := Lib.hid hgo
       have HQC := Lib.hid (And.intro hqc hec)
       have HF3 := Lib.hid (And.intro hFZ (And.intro hng hrow))
       have HR0 := Lib.hid (And.intro hr0 (And.intro hRL hm0))
       have HC0 := Lib.hid hc0
       unfold ptrV at p0
       clear hk3 hnm hPL hfree hroom hDA hFZ hnp hgo pc hap hqc hec hng hrow hRL hm0 hr0 hc0 HNM t1 hk hg1l
       go_upto_region 15 with fail
       refine wp_region_held' (Kp F w3) [0,0,0,0,0,0,0,0,0,2] [0,1,2,3,4,5,6,7,8,9] (by kernel_rfl) (by kernel_rfl) (fun _ n h => h.drewN n) (Kp.refl _ _) ?_
       repeat (first
        | (apply wpOrd_skip rfl (by decide) rfl; (focus (go_simp; rfl)))
        | (apply wpOrd_pure rfl rfl rfl; (focus (intro _ _; go_simp; (try go_ints); rfl)); (focus (go_simp; rfl)))
        | (apply wpOrd_read rfl rfl rfl; (focus (intro _; go_simp; (try go_ints); rfl)); (focus (go_simp; rfl))))
       refine wpOrd_eff rfl rfl (fun n1 => ?_)
       have hc := HAP.out n1
       clear HAP
       go_wp2_with fail
       with_reducible refine hc.mono ?_
       rintro e w4 ⟨rfl, F4, hd4, hf4, hk4⟩
       clear hc
       have hk4' : Kp F w3 w4 := hk4.of_drewN
       have hf4' : Foot F F4 w3 := hf4
       obtain ⟨Z4, hz4, hfz4, hkz4⟩ := HGO.out w4 _ _ hd4 hf4' hk4'
       have HK4 := Lib.hid hk4'
       have HPL4 := Lib.hid hz4
       clear hd4 hf4 hk4 hk4' hf4' hz4 hfz4 hkz4 HGO
       go_wp2_with fail
       refine ⟨HK4.out, ?_⟩
       refine wpOrd_nil (fun nq => ?_)
       obtain ⟨w5, hw5⟩ : ∃ V, V = w4.drewN nq := ⟨_, rfl⟩
       have hk45 : Kp No w4 w5 := by rw [hw5]; exact (Kp.refl _ _).drewN nq
       rw [← hw5]
       have HPL5 := Lib.hid (HPL4.out.no hk45)
       have HKW5 := Lib.hid (HPL4.out.kp.trans_same hk45)
       clear hw5 c0 p0 hpl3 hg03
       obtain ⟨H, hRA, hHZ, hnp, hgo⟩ := HPL5.out.rdiskZ
       obtain ⟨hpl5, pc⟩ := HPL5.out.cells H hnp
       have p1 := fun V hV => (pc V hV).2.1
       have hng : ¬ H g0 := fun hh => by have := (hHZ g0 hh).1; omega
       have hg05 : g0 < w5.heap.size := HKW5.out.lt hg0
       obtain ⟨g9, off9, e9, _, hc5, hr5, _⟩ := HR.out.at_ HKW5.out hlt
       injection e9 with e9
       injection e9 with e9 e10
       subst e9
       subst e10
       rw [← HF3.out.2.2] at hc5 hr5
       rw [← HR0.out.2.1] at hc5
       have c5 := fun V (hV : Kp H w5 V) => (hV.cell (p := ⟨g0, off0 + i, none⟩) hg05 hng).trans hc5
       have hrb : ∀ k o, row.a = some ⟨k, o, none⟩ → 0 < (u8s row.data).length → k < w.heap.size := fun k o hk h0 => by
        obtain ⟨g', off', h1, h2, _⟩ := hr5 h0
        rw [hk] at h1
        injection h1 with h1
        injection h1 with h1 _
        rw [h1]
        exact h2
       have hap := fun n1 => rWrite_any (w5.drewN n1) r s H (hRA.keep_no ((Kp.refl No w5).drewN n1)) nm row.a row.cap row.data ((hr5.mono HKW5.out.size (Nat.le_refl _)).drewN n1) (by have := HR0.out.2.1; have h9 : row.data.length ≤ 12000 := (by rw [HF3.out.2.2]; have := w5_mem (List.getElem_mem hlt); have := HT.out; omega); omega) (fun h0 k o hk hh => by have h1 := hrb k o hk h0; have h2 := (hHZ k hh).1; omega)
       unfold SaidR at hap
       rw [← HQC.out.1, ← HQC.out.2, ← HR0.out.2.1] at hap
       have HAP := Lib.hid hap
       have HGO := Lib.hid hgo
       unfold ptrV at p1
       clear hk45 hRA hHZ hnp hgo pc hap hng hc5 hr5 hrb
       go_upto_region 16 with fail
       refine wp_region_held' (Kp H w5) [0,0,0,0,0,0,0,0,0,2] [0,1,2,3,4,5,6,7,8,9] (by kernel_rfl) (by kernel_rfl) (fun _ n h => h.drewN n) (Kp.refl _ _) ?_
       repeat (first
        | (apply wpOrd_skip rfl (by decide) rfl; (focus (go_simp; rfl)))
        | (apply wpOrd_pure rfl rfl rfl; (focus (intro _ _; go_simp; (try go_ints); rfl)); (focus (go_simp; rfl)))
        | (apply wpOrd_read rfl rfl rfl; (focus (intro _; go_simp; (try go_ints); rfl)); (focus (go_simp; rfl))))
       refine wpOrd_eff rfl rfl (fun n1 => ?_)
       have hc := HAP.out n1
       clear HAP
       go_wp2_with fail
       with_reducible refine hc.mono ?_
       rintro e w6 ⟨rfl, H6, hd6, hf6, hk6⟩
       clear hc
       have hk6' : Kp H w5 w6 := hk6.of_drewN
       have hf6' : Foot H H6 w5 := hf6
       obtain ⟨Z6, hz6, hfz6, hkz6⟩ := HGO.out w6 _ _ hd6 hf6' hk6'
       have HK6 := Lib.hid hk6'
       have HPL6 := Lib.hid hz6
       clear hd6 hf6 hk6 hk6' hf6' hz6 hfz6 hkz6 HGO
       go_wp2_with fail
       refine ⟨HK6.out, ?_⟩
       refine wpOrd_nil (fun nq => ?_)
       have HNEW := Lib.hid (show DiskOk w (w6.drewN nq) p from ⟨d, r, l, x, qc.2, st, Z6, HPL6.out.no ((Kp.refl No w6).drewN nq), by rw [HQC.out.1]; exact wr_free HFR.out.1 _ _, by rw [HQC.out.1, (wr_ok HFR.out.1.ok _ _).2]; exact HFR.out.2⟩)
       clear c5 p1 hpl5 hg05
       go_wp2_with fail
       go_roundw
       case rel => exact ⟨i + 1, by omega, by go_num, HNEW⟩
       case measure => simp [intOf]; omega
      ·obtain rfl : i = R.length := by omega
       clear hlt
       have HOP := Lib.hid (HP.out.opens HPW.out)
       go_wp2_with fail
       refine HOP.out.mono ?_
       rintro e w3 ⟨rfl, h3⟩
       have HC := Lib.hid h3.stood
       clear h3 HOP
       go_wp2_with fail
       refine HC.out.mono ?_
       rintro e w4 ⟨rfl, h4⟩
       have HOP := Lib.hid (h4.disk.opens HPW.out)
       clear h4 HC
       go_wp2_with fail
       refine HOP.out.mono ?_
       rintro e w5 ⟨rfl, h5⟩
       have HC := Lib.hid h5.stood
       clear h5 HOP
       go_wp2_with fail
       refine HC.out.mono ?_
       rintro e w6 ⟨rfl, h6⟩
       have HK6 := Lib.hid h6.kp
       have HKN := Lib.hid (wknown_any w6 (HPW.out.keepS h6.kp fun x => x))
       clear h6 HC
       go_wp2_with fail
       refine HKN.out.mono ?_
       rintro e w7 ⟨rfl, hk7⟩
       have HK7 := Lib.hid (HK6.out.trans_same hk7)
       clear hk7
       go_wp2_with fail
       go_ret
       exact ⟨rfl, HK7.out⟩
   ·go_wp2_with fail
    refine HKN.out.mono ?_
    rintro e w' ⟨rfl, hk⟩
    have HKK := Lib.hid hk
    clear hk
    go_wp2_with fail
    go_ret
    exact ⟨rfl, HKK.out⟩
end Go.Proofs.YtdibkdgafidjgaaGreatDoor

