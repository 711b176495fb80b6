/-
  The law WalApart, walked.
-/
import Derived.Test.YtdibkdgafidjgaaGreatDoorWApartPM
import Derived.Deep.CutRange
namespace Go.Proofs.YtdibkdgafidjgaaGreatDoor
open Go.RowKit Go.Mer
theorem kB_ne : kB.size ≠ kA.size := by decide
def ApR (w W : World) (p d r l m : Nat) (lv xv : Value) (RA RB : List Row) (i : Nat) (s : DSt) (sa sb : LSt) : Prop :=
 Ap w W p d r l m lv xv kA kB s sa sb ∧ ApI kA kB s sa sb (w16 (RA.take i) + w16 (RB.take i)) (2 * i) (2 * i) ∧ sa.ents = datasA (RA.take i) ∧ sb.ents = datasA (RB.take i)
theorem fit_any {k : Nat} {P Q : ByteArray} {s : DSt} {st : LSt} (h : Fit k P s st) : Fit k Q s st := ⟨h.room, h.ok, h.hne, h.hsl, h.no, h.ents, h.segs, h.big⟩
theorem datasA_end (R : List Row) {i : Nat} (h : R.length ≤ i) : datasA (R.take (i + 1)) = datasA (R.take i) := by rw [List.take_of_length_le h, List.take_of_length_le (by omega)]
theorem w16_end (R : List Row) {i : Nat} (h : R.length ≤ i) : w16 (R.take (i + 1)) = w16 (R.take i) := by rw [List.take_of_length_le h, List.take_of_length_le (by omega)]
theorem datasA_at {R : List Row} {E : List (List UInt8)} (hE : E = datasA R) {k : Nat} (hk : k < R.length) : ∃ h : k < E.length, E[k]'h = (R[k]).data := by
 subst hE
 exact ⟨by unfold datasA; rw [List.length_map]; exact hk, by simp only [datasA, List.getElem_map]⟩
theorem datasA_step (R : List Row) {i : Nat} (h : i < R.length) : datasA (R.take (i + 1)) = datasA (R.take i) ++ [(R[i]).data] := by
 rw [List.take_succ_eq_append_getElem h]
 unfold datasA
 rw [List.map_append, List.map_cons, List.map_nil]
theorem ApI.room {P Q : ByteArray} {s : DSt} {sa sb : LSt} {T N k T' N' k' : Nat} (h : ApI P Q s sa sb T N k) (hT : T ≤ T') (hN : N ≤ N') (hk : k ≤ k') : ApI P Q s sa sb T' N' k' := by
 have h' := h.mono hk
 exact ⟨h'.la, h'.lb, ⟨h'.roomy.free, h'.roomy.room, Nat.le_trans h'.roomy.tot hT, Nat.le_trans h'.roomy.len hN⟩, h'.da, h'.db, h'.fa, h'.fb, h'.only⟩
set_option maxRecDepth 100000 in
set_option maxHeartbeats 8000000 in
theorem wapart_any (w : World) (hpow : Pow w) (aa : Option Addr) (ca : Nat) (RA : List Row) (hRA : RowsAt w aa RA) (hla : RA.length ≤ 140737488351232) (ab : Option Addr) (cb : Nat) (RB : List Row) (hRB : RowsAt w ab RB) (hlb : RB.length ≤ 140737488351232) :
  Calls Tryz.prog 4 #[.slice aa RA.length ca, .slice ab RB.length cb] w fun e w' => e = .returned (.bool true) ∧ Kp No w w' := by
 have HRA := Lib.hid hRA
 have HRB := Lib.hid hRB
 have HPW := Lib.hid hpow
 have HKN := Lib.hid (wknown_any w hpow)
 obtain ⟨la, hlae⟩ : ∃ la, la = RA.length := ⟨_, rfl⟩
 obtain ⟨lb, hlbe⟩ : ∃ lb, lb = RB.length := ⟨_, rfl⟩
 obtain ⟨M, hM⟩ : ∃ M, M = la + lb := ⟨_, rfl⟩
 rw [← hlae] at hla ⊢
 rw [← hlbe] at hlb ⊢
 have hsum : (la : Int) + (lb : Int) = (M : Int) := by omega
 have hMb : M ≤ 281474976710656 := by omega
 have HLE := Lib.hid (And.intro hlae (And.intro hlbe hM))
 clear hRA hRB hpow hlae hlbe hM
 go_enter Tryz.func4, Tryz.ntmps4
 go_wp2_with fail
 go_loopw [5, 6] (fun s5 s6 wr => ∃ (j n : Nat), j ≤ M ∧ s5 = .int .i64 (n : Int) ∧ s6 = .int .i64 (j : Int) ∧ n ≤ 1000000000000000 ∧ Hid (n = 5 * j + slR (RA.take j) + slR (RB.take j)) ∧ w = wr) (fun _ s6 _ => M - (intOf s6).toNat)
 case atStart => exact ⟨0, 0, Nat.zero_le _, rfl, rfl, by omega, rfl, rfl⟩
 case round =>
  obtain ⟨j, n, hj, rfl, rfl, hnb, HN, rfl⟩ := hrel
  by_cases hlt : j < M
  ·by_cases hn : n ≤ 12000
   ·by_cases ha : j < la
    ·obtain ⟨g0, off0, rfl, hg0, hc0, _, hm0⟩ := HRA.out.at_ (Kp.refl _ _) (show j < RA.length by rw [← HLE.out.1]; exact ha)
     obtain ⟨L0, hL0⟩ : ∃ L0, L0 = (RA[j]'(by rw [← HLE.out.1]; exact ha)).data.length := ⟨_, rfl⟩
     rw [← hL0] at hc0 hm0
     have HL0 := Lib.hid hL0
     clear hL0
     by_cases hb : j < lb
     ·obtain ⟨g1, off1, rfl, hg1, hc1, _, hm1⟩ := HRB.out.at_ (Kp.refl _ _) (show j < RB.length by rw [← HLE.out.2.1]; exact hb)
      obtain ⟨L1, hL1⟩ : ∃ L1, L1 = (RB[j]'(by rw [← HLE.out.2.1]; exact hb)).data.length := ⟨_, rfl⟩
      rw [← hL1] at hc1 hm1
      have HL1 := Lib.hid hL1
      have HN2 := Lib.hid (show n + 5 + L0 + L1 = 5 * (j + 1) + slR (RA.take (j + 1)) + slR (RB.take (j + 1)) by
       rw [slR_step RA (by rw [← HLE.out.1]; exact ha), slR_step RB (by rw [← HLE.out.2.1]; exact hb), ← HL0.out, ← HL1.out]
       have := HN.out
       omega)
      clear hL1
      go_wp2_with fail
      go_roundw
      case rel => exact ⟨j + 1, n + 5 + L0 + L1, by omega, by first | rfl | (push_cast; rfl) | (go_num; done), by go_num, by omega, HN2, (by first | trivial | rfl)⟩
      case measure => simp [intOf]; omega
     ·have HN2 := Lib.hid (show n + 5 + L0 = 5 * (j + 1) + slR (RA.take (j + 1)) + slR (RB.take (j + 1)) by
       rw [slR_step RA (by rw [← HLE.out.1]; exact ha), slR_end RB (by rw [← HLE.out.2.1]; omega), ← HL0.out]
       have := HN.out
       omega)
      go_wp2_with fail
      go_roundw
      case rel => exact ⟨j + 1, n + 5 + L0, by omega, by first | rfl | (push_cast; rfl) | (go_num; done), by go_num, by omega, HN2, (by first | trivial | rfl)⟩
      case measure => simp [intOf]; omega
    ·by_cases hb : j < lb
     ·obtain ⟨g1, off1, rfl, hg1, hc1, _, hm1⟩ := HRB.out.at_ (Kp.refl _ _) (show j < RB.length by rw [← HLE.out.2.1]; exact hb)
      obtain ⟨L1, hL1⟩ : ∃ L1, L1 = (RB[j]'(by rw [← HLE.out.2.1]; exact hb)).data.length := ⟨_, rfl⟩
      rw [← hL1] at hc1 hm1
      have HL1 := Lib.hid hL1
      have HN2 := Lib.hid (show n + 5 + L1 = 5 * (j + 1) + slR (RA.take (j + 1)) + slR (RB.take (j + 1)) by
       rw [slR_end RA (by rw [← HLE.out.1]; omega), slR_step RB (by rw [← HLE.out.2.1]; exact hb), ← HL1.out]
       have := HN.out
       omega)
      clear hL1
      go_wp2_with fail
      go_roundw
      case rel => exact ⟨j + 1, n + 5 + L1, by omega, by first | rfl | (push_cast; rfl) | (go_num; done), by go_num, by omega, HN2, (by first | trivial | rfl)⟩
      case measure => simp [intOf]; omega
     ·have HN2 := Lib.hid (show n + 5 = 5 * (j + 1) + slR (RA.take (j + 1)) + slR (RB.take (j + 1)) by
       rw [slR_end RA (by rw [← HLE.out.1]; omega), slR_end RB (by rw [← HLE.out.2.1]; omega)]
       have := HN.out
       omega)
      go_wp2_with fail
      go_roundw
      case rel => exact ⟨j + 1, n + 5, by omega, by first | rfl | (push_cast; rfl) | (go_num; done), by go_num, by omega, HN2, (by first | trivial | rfl)⟩
      case measure => simp [intOf]; omega
   ·go_wp2_with fail
    refine HKN.out.mono ?_
    rintro e w' ⟨rfl, hk⟩
    have HKK := Lib.hid hk
    clear hk
    go_wp2_with fail
    go_ret
    exact ⟨rfl, HKK.out⟩
  ·by_cases hn : n ≤ 12000
   ·have hjM : M = j := by omega
    have HSL := Lib.hid (show slR RA + slR RB ≤ 12000 by
     have h1 := HN.out
     rw [List.take_of_length_le (by have := HLE.out; omega), List.take_of_length_le (by have := HLE.out; omega)] at h1
     omega)
    clear hlt HN
    rcases (show 100 < M ∨ M ≤ 100 by omega) with hbig | hbig
    ·go_wp2_with fail
     refine HKN.out.mono ?_
     rintro e w' ⟨rfl, hk⟩
     have HKK := Lib.hid hk
     clear hk
     go_wp2_with fail
     go_ret
     exact ⟨rfl, HKK.out⟩
    ·subst hjM
     have HST := Lib.hid (start_any w 1048576 HPW.out (Nat.le_refl _))
     clear HKN
     go_wp2_with fail
     refine HST.out.mono ?_
     rintro e w2 ⟨p, d, r, l, x, Z0, rfl, hPL, hFit0, _⟩
     obtain ⟨F, hDA, hFw, hmk⟩ := Ap.make (Q := kB) (s' := ⟨1048576, none, []⟩) (sb := st0) (show PL w w2 p d r l x kA ⟨1048576, none, []⟩ st0 ⟨1048576, none, []⟩ st0 Z0 from hPL)
     obtain ⟨hpl, pc⟩ := hPL.cells No (fun x => x)
     have p0 := (pc w2 (Kp.refl _ _)).1
     have hof := open_any w2 d kB _ F hDA (free_empty 1048576).ok (HPW.out.keepS hPL.kp fun x => x) (fun hf => by have := hFw _ hf; have := HPW.out.lt; omega) (by decide) (by decide) (Nat.le_refl _)
     rw [open_empty] at hof
     unfold kB at hof
     have HOF := Lib.hid hof
     have HMK := Lib.hid hmk
     have HF0 := Lib.hid (show Fit 0 kA ⟨1048576, none, []⟩ st0 from hFit0)
     unfold ptrV at p0
     clear hPL hFit0 hDA hFw hmk pc hof HST
     go_wp2_with fail
     refine HOF.out.mono ?_
     intro e w3 hq
     unfold OpnP at hq
     rcases hq with ⟨_, m, F3, G3, rfl, q1, q2, q3, q4⟩ | ⟨hq, _⟩
     rotate_left
     ·exact absurd rfl hq
     simp only at q1
     have hap0 := HMK.out w3 m F3 G3 q1 q2 q3 q4
     obtain ⟨s0, hs0⟩ : ∃ s0 : DSt, s0 = ⟨1048576, none, []⟩ := ⟨_, rfl⟩
     obtain ⟨lv, hlv⟩ : ∃ lv, lv = ptrV l := ⟨_, rfl⟩
     obtain ⟨xv, hxv⟩ : ∃ xv, xv = ptrV x := ⟨_, rfl⟩
     rw [← hs0, ← hlv, ← hxv] at hap0
     have HLV := Lib.hid hlv
     have HI0 := Lib.hid (show ApR w w3 p d r l m lv xv RA RB 0 s0 st0 st0 from ⟨hap0, by
      rw [hs0]
      exact ⟨⟨[], laid0 kA _⟩, ⟨[], laid0 kB _⟩, ⟨free_empty _, rfl, by simp [totF_nil], Nat.zero_le _⟩, rfl, rfl, HF0.out, fit_any HF0.out, fun _ h => (by cases h)⟩, rfl, rfl⟩)
     clear q1 q2 q3 q4 hap0 hs0 hlv hxv HOF HMK HF0 p0 hpl
     go_wp2_with fail
     go_loopw [11] (fun s11 wr => ∃ (i : Nat) (s : DSt) (sa sb : LSt), i ≤ M ∧ s11 = .int .i64 (i : Int) ∧ Hid (ApR w wr p d r l m lv xv RA RB i s sa sb)) (fun s11 _ => M - (intOf s11).toNat)
     case atStart => exact ⟨0, s0, st0, st0, Nat.zero_le _, rfl, HI0⟩
     case round =>
      obtain ⟨i, s, sa, sb, hi, rfl, HI⟩ := hrel
      have hwa := w16_sl RA
      have hwb := w16_sl RB
      have hTT := Lib.hid (show w16 RA + w16 RB ≤ 13600 by have := HSL.out; have := HLE.out; omega)
      have hta := w16_le RA i
      have htb := w16_le RB i
      have HTA := Lib.hid (And.intro hta htb)
      clear hwa hwb hta htb
      by_cases ha : i < la
      ·by_cases hb : i < lb
       ·skip
        have HFX := Lib.hid HI.out.2.1.fa
        obtain ⟨F, G, hWA, hFG, hnp, hpl, hcell, hgo⟩ := HI.out.1.call
        obtain ⟨g0, off0, rfl, hg0, hc0, hr0, hm0⟩ := HRA.out.at_ HI.out.1.kp (show i < RA.length by have := HLE.out; omega)
        obtain ⟨row, hrow⟩ : ∃ row, row = RA[i]'(by have := HLE.out; omega) := ⟨_, rfl⟩
        have hrl : row.data.length ≤ 12000 := by rw [hrow]; have := slR_mem (List.getElem_mem (show i < RA.length by have := HLE.out; omega)); have := HSL.out; omega
        rw [← hrow] at hc0 hr0 hm0
        have hng : ¬ Both F G g0 := fun hh => by have := hFG g0 hh; omega
        have hkw := HI.out.1.kp
        have hg0r : g0 < wr.heap.size := hkw.lt hg0
        have c0 := fun V (hV : Kp (Both F G) wr V) => (hV.cell (p := ⟨g0, off0 + i, none⟩) hg0r hng).trans hc0
        have hb9 := HFX.out.ents
        have hb8 := HFX.out.segs
        have hap := fun n1 => wAppend_any (wr.drewN n1) d l kA s sa F G (hWA.no ((Kp.refl No wr).drewN n1)) HFX.out.hne (HPW.out.keepS (hkw.drewN n1) (fun x => x))
         (fun hf => by have := hFG _ (.inl hf); have := HPW.out.lt; omega) (fun hf => by have := hFG _ (.inr hf); have := HPW.out.lt; omega) (by decide) (by omega) (by omega) (fun z hz => by have := HFX.out.big z hz; omega)
         row.a row.cap row.data (fun V hV => by
          have hkV : Kp No w V := hkw.trans hV.of_drewN fun k hk hh => by have := hFG k hh; omega
          obtain ⟨_, _, _, _, _, hr5, _⟩ := HRA.out.at_ hkV (show i < RA.length by have := HLE.out; omega)
          rw [← hrow] at hr5
          exact hr5.mono hkV.size (Nat.le_refl _)) (by omega)
        unfold AppP at hap
        obtain ⟨RL, hRL⟩ : ∃ RL, RL = row.data.length := ⟨_, rfl⟩
        obtain ⟨q1, hq1⟩ : ∃ q1, q1 = appS kA s sa row.data := ⟨_, rfl⟩
        rw [← hRL, ← hq1] at hap
        rw [← hRL] at c0
        have HAP := Lib.hid hap
        have HGO := Lib.hid hgo
        have HQ1 := Lib.hid hq1
        have HROW := Lib.hid (And.intro hrow hrl)
        have p2 : ∀ V, Kp (Both F G) wr V → V.cell? ⟨p, 2, none⟩ = some (.pointer (some ⟨l, 0, none⟩)) := fun V hV => by
         rw [cell_at (hV.get hcell hnp), HLV.out]
         rfl
        clear hWA hFG hgo hnp hcell hc0 hr0 hrow hng hap hRL hq1 hrl hm0 hb9 hb8 hkw
        go_upto_region 22 with fail
        refine wp_region_held' (Kp (Both F G) wr) [0,0,0,0,0,0,0,0,2] [0,1,2,3,4,5,6,7,8] (by kernel_rfl) (by kernel_rfl) (fun _ n h => h.drewN n) (Kp.refl _ _) ?_
        repeat (first
         | (apply wpOrd_skip rfl (by decide) rfl; (focus (go_simp; rfl)))
         | (apply wpOrd_pure rfl rfl rfl; (focus (intro _ _; go_simp; (try go_ints); rfl)); (focus (go_simp; rfl)))
         | (apply wpOrd_read rfl rfl rfl; (focus (intro _; go_simp; (try go_ints); rfl)); (focus (go_simp; rfl))))
        refine wpOrd_eff rfl rfl (fun n1 => ?_)
        have hc := HAP.out n1
        clear HAP
        go_wp2_with fail
        with_reducible refine hc.mono ?_
        rintro e w4 ⟨rfl, hs4⟩
        clear hc
        have hs4' : SaidW wr d l kA F G q1.2.1 q1.2.2 w4 := SaidW.from hs4 ((Kp.refl No wr).drewN n1)
        have HK4 := Lib.hid hs4'.kp
        have HA4 := Lib.hid (HGO.out w4 _ _ hs4')
        clear hs4 hs4' HGO
        go_wp2_with fail
        refine ⟨HK4.out, ?_⟩
        refine wpOrd_nil (fun nq => ?_)
        obtain ⟨w5, hw5⟩ : ∃ V, V = w4.drewN nq := ⟨_, rfl⟩
        have HA5 := Lib.hid (show Ap w w5 p d r l m lv xv kA kB q1.2.1 q1.2.2 sb by rw [hw5]; exact HA4.out.no ((Kp.refl No w4).drewN nq))
        rw [← hw5]
        obtain ⟨s5, hs5⟩ : ∃ s5, s5 = q1.2.1 := ⟨_, rfl⟩
        obtain ⟨sa5, hsa5⟩ : ∃ sa5, sa5 = q1.2.2 := ⟨_, rfl⟩
        have hstep := ap_app HI.out.2.1 kB_ne (by decide) (by omega) (p := row.data) (by have := HROW.out.2; omega) (by have := hTT.out; have := HTA.out; have := HROW.out.2; omega) (by omega)
        rw [← HQ1.out, ← hs5, ← hsa5] at hstep
        have hRi : i < RA.length := by have := HLE.out; omega
        have HB5 := Lib.hid (show ApI kA kB s5 sa5 sb (w16 (RA.take (i + 1)) + w16 (RB.take i)) (2 * i + 1) (2 * i + 1) ∧ sa5.ents = datasA (RA.take (i + 1)) ∧ sb.ents = datasA (RB.take i) from ⟨hstep.1.room (by rw [w16_step RA hRi, ← HROW.out.1]; omega) (Nat.le_refl _) (Nat.le_refl _), by rw [hstep.2, HI.out.2.2.1, datasA_step RA hRi, ← HROW.out.1], HI.out.2.2.2⟩)
        rw [← hs5, ← hsa5] at HA5
        clear hw5 hs5 hsa5 hstep c0 p2 hpl hg0r HFX HQ1 HROW HA4 HI hRi
        have HFX := Lib.hid HB5.out.1.fb
        obtain ⟨F, G, hWA, hFG, hnp, hpl, hcell, hgo⟩ := HA5.out.swap.call
        obtain ⟨g0, off0, rfl, hg0, hc0, hr0, hm0⟩ := HRB.out.at_ HA5.out.swap.kp (show i < RB.length by have := HLE.out; omega)
        obtain ⟨row, hrow⟩ : ∃ row, row = RB[i]'(by have := HLE.out; omega) := ⟨_, rfl⟩
        have hrl : row.data.length ≤ 12000 := by rw [hrow]; have := slR_mem (List.getElem_mem (show i < RB.length by have := HLE.out; omega)); have := HSL.out; omega
        rw [← hrow] at hc0 hr0 hm0
        have hng : ¬ Both F G g0 := fun hh => by have := hFG g0 hh; omega
        have hkw := HA5.out.swap.kp
        have hg0r : g0 < w5.heap.size := hkw.lt hg0
        have c0 := fun V (hV : Kp (Both F G) w5 V) => (hV.cell (p := ⟨g0, off0 + i, none⟩) hg0r hng).trans hc0
        have hb9 := HFX.out.ents
        have hb8 := HFX.out.segs
        have hap := fun n1 => wAppend_any (w5.drewN n1) d m kB s5 sb F G (hWA.no ((Kp.refl No w5).drewN n1)) HFX.out.hne (HPW.out.keepS (hkw.drewN n1) (fun x => x))
         (fun hf => by have := hFG _ (.inl hf); have := HPW.out.lt; omega) (fun hf => by have := hFG _ (.inr hf); have := HPW.out.lt; omega) (by decide) (by omega) (by omega) (fun z hz => by have := HFX.out.big z hz; omega)
         row.a row.cap row.data (fun V hV => by
          have hkV : Kp No w V := hkw.trans hV.of_drewN fun k hk hh => by have := hFG k hh; omega
          obtain ⟨_, _, _, _, _, hr5, _⟩ := HRB.out.at_ hkV (show i < RB.length by have := HLE.out; omega)
          rw [← hrow] at hr5
          exact hr5.mono hkV.size (Nat.le_refl _)) (by omega)
        unfold AppP at hap
        obtain ⟨RL, hRL⟩ : ∃ RL, RL = row.data.length := ⟨_, rfl⟩
        obtain ⟨q1, hq1⟩ : ∃ q1, q1 = appS kB s5 sb row.data := ⟨_, rfl⟩
        rw [← hRL, ← hq1] at hap
        rw [← hRL] at c0
        have HAP := Lib.hid hap
        have HGO := Lib.hid hgo
        have HQ1 := Lib.hid hq1
        have HROW := Lib.hid (And.intro hrow hrl)
        have cB := c0 w5 (Kp.refl _ _)
        have hapB := hap 0
        have HAPB := Lib.hid (show Calls Tryz.prog _ _ w5 (AppP w5 d m kB F G q1) from by
         have h9 := wAppend_any w5 d m kB s5 sb F G hWA HFX.out.hne (HPW.out.keepS hkw (fun x => x))
          (fun hf => by have := hFG _ (.inl hf); have := HPW.out.lt; omega) (fun hf => by have := hFG _ (.inr hf); have := HPW.out.lt; omega) (by decide) (by omega) (by omega) (fun z hz => by have := HFX.out.big z hz; omega)
          row.a row.cap row.data (fun V hV => by
           have hkV : Kp No w V := hkw.trans hV fun k hk hh => by have := hFG k hh; omega
           obtain ⟨_, _, _, _, _, hr5, _⟩ := HRB.out.at_ hkV (show i < RB.length by have := HLE.out; omega)
           rw [← hrow] at hr5
           exact hr5.mono hkV.size (Nat.le_refl _)) (by omega)
         rw [← hq1] at h9
         exact h9)
        rw [← hRL] at HAPB
        unfold AppP at HAPB
        unfold kB at HAPB
        clear hWA hFG hgo hnp hcell hc0 hr0 hrow hng hap hapB hRL hq1 hrl hm0 hb9 hb8 hkw c0 HAP
        go_wp2_with fail
        refine HAPB.out.mono ?_
        rintro e w7 ⟨rfl, hs7⟩
        have HA7 := Lib.hid (HGO.out w7 _ _ hs7).swap
        have hstep := ap_app HB5.out.1.swap (show kA.size ≠ kB.size by decide) (by decide) (by omega) (p := row.data) (by have := HROW.out.2; omega) (by have := hTT.out; have := HTA.out; have := w16_le RA (i + 1); have := HROW.out.2; omega) (by omega)
        rw [← HQ1.out] at hstep
        have HN := Lib.hid (show ApR w w7 p d r l m lv xv RA RB (i + 1) q1.2.1 sa5 q1.2.2 from by
         have hRi : i < RB.length := by have := HLE.out; omega
         refine ⟨HA7.out, ?_, HB5.out.2.1, by rw [hstep.2, HB5.out.2.2, datasA_step RB hRi, ← HROW.out.1]⟩
         exact hstep.1.swap.room (by rw [w16_step RB hRi, ← HROW.out.1]; omega) (by omega) (by omega))
        clear hs7 hstep HGO HAPB cB hpl hg0r HFX HQ1 HROW HA7 HA5 HB5
        go_wp2_with fail
        go_roundw
        case rel => exact ⟨i + 1, _, _, _, by omega, by go_num, HN⟩
        case measure => simp [intOf]; omega
       ·skip
        have HFX := Lib.hid HI.out.2.1.fa
        obtain ⟨F, G, hWA, hFG, hnp, hpl, hcell, hgo⟩ := HI.out.1.call
        obtain ⟨g0, off0, rfl, hg0, hc0, hr0, hm0⟩ := HRA.out.at_ HI.out.1.kp (show i < RA.length by have := HLE.out; omega)
        obtain ⟨row, hrow⟩ : ∃ row, row = RA[i]'(by have := HLE.out; omega) := ⟨_, rfl⟩
        have hrl : row.data.length ≤ 12000 := by rw [hrow]; have := slR_mem (List.getElem_mem (show i < RA.length by have := HLE.out; omega)); have := HSL.out; omega
        rw [← hrow] at hc0 hr0 hm0
        have hng : ¬ Both F G g0 := fun hh => by have := hFG g0 hh; omega
        have hkw := HI.out.1.kp
        have hg0r : g0 < wr.heap.size := hkw.lt hg0
        have c0 := fun V (hV : Kp (Both F G) wr V) => (hV.cell (p := ⟨g0, off0 + i, none⟩) hg0r hng).trans hc0
        have hb9 := HFX.out.ents
        have hb8 := HFX.out.segs
        have hap := fun n1 => wAppend_any (wr.drewN n1) d l kA s sa F G (hWA.no ((Kp.refl No wr).drewN n1)) HFX.out.hne (HPW.out.keepS (hkw.drewN n1) (fun x => x))
         (fun hf => by have := hFG _ (.inl hf); have := HPW.out.lt; omega) (fun hf => by have := hFG _ (.inr hf); have := HPW.out.lt; omega) (by decide) (by omega) (by omega) (fun z hz => by have := HFX.out.big z hz; omega)
         row.a row.cap row.data (fun V hV => by
          have hkV : Kp No w V := hkw.trans hV.of_drewN fun k hk hh => by have := hFG k hh; omega
          obtain ⟨_, _, _, _, _, hr5, _⟩ := HRA.out.at_ hkV (show i < RA.length by have := HLE.out; omega)
          rw [← hrow] at hr5
          exact hr5.mono hkV.size (Nat.le_refl _)) (by omega)
        unfold AppP at hap
        obtain ⟨RL, hRL⟩ : ∃ RL, RL = row.data.length := ⟨_, rfl⟩
        obtain ⟨q1, hq1⟩ : ∃ q1, q1 = appS kA s sa row.data := ⟨_, rfl⟩
        rw [← hRL, ← hq1] at hap
        rw [← hRL] at c0
        have HAP := Lib.hid hap
        have HGO := Lib.hid hgo
        have HQ1 := Lib.hid hq1
        have HROW := Lib.hid (And.intro hrow hrl)
        have p2 : ∀ V, Kp (Both F G) wr V → V.cell? ⟨p, 2, none⟩ = some (.pointer (some ⟨l, 0, none⟩)) := fun V hV => by
         rw [cell_at (hV.get hcell hnp), HLV.out]
         rfl
        clear hWA hFG hgo hnp hcell hc0 hr0 hrow hng hap hRL hq1 hrl hm0 hb9 hb8 hkw
        go_upto_region 22 with fail
        refine wp_region_held' (Kp (Both F G) wr) [0,0,0,0,0,0,0,0,2] [0,1,2,3,4,5,6,7,8] (by kernel_rfl) (by kernel_rfl) (fun _ n h => h.drewN n) (Kp.refl _ _) ?_
        repeat (first
         | (apply wpOrd_skip rfl (by decide) rfl; (focus (go_simp; rfl)))
         | (apply wpOrd_pure rfl rfl rfl; (focus (intro _ _; go_simp; (try go_ints); rfl)); (focus (go_simp; rfl)))
         | (apply wpOrd_read rfl rfl rfl; (focus (intro _; go_simp; (try go_ints); rfl)); (focus (go_simp; rfl))))
        refine wpOrd_eff rfl rfl (fun n1 => ?_)
        have hc := HAP.out n1
        clear HAP
        go_wp2_with fail
        with_reducible refine hc.mono ?_
        rintro e w4 ⟨rfl, hs4⟩
        clear hc
        have hs4' : SaidW wr d l kA F G q1.2.1 q1.2.2 w4 := SaidW.from hs4 ((Kp.refl No wr).drewN n1)
        have HK4 := Lib.hid hs4'.kp
        have HA4 := Lib.hid (HGO.out w4 _ _ hs4')
        clear hs4 hs4' HGO
        go_wp2_with fail
        refine ⟨HK4.out, ?_⟩
        refine wpOrd_nil (fun nq => ?_)
        obtain ⟨w5, hw5⟩ : ∃ V, V = w4.drewN nq := ⟨_, rfl⟩
        have HA5 := Lib.hid (show Ap w w5 p d r l m lv xv kA kB q1.2.1 q1.2.2 sb by rw [hw5]; exact HA4.out.no ((Kp.refl No w4).drewN nq))
        rw [← hw5]
        obtain ⟨s5, hs5⟩ : ∃ s5, s5 = q1.2.1 := ⟨_, rfl⟩
        obtain ⟨sa5, hsa5⟩ : ∃ sa5, sa5 = q1.2.2 := ⟨_, rfl⟩
        have hstep := ap_app HI.out.2.1 kB_ne (by decide) (by omega) (p := row.data) (by have := HROW.out.2; omega) (by have := hTT.out; have := HTA.out; have := HROW.out.2; omega) (by omega)
        rw [← HQ1.out, ← hs5, ← hsa5] at hstep
        have hRi : i < RA.length := by have := HLE.out; omega
        have HB5 := Lib.hid (show ApI kA kB s5 sa5 sb (w16 (RA.take (i + 1)) + w16 (RB.take i)) (2 * i + 1) (2 * i + 1) ∧ sa5.ents = datasA (RA.take (i + 1)) ∧ sb.ents = datasA (RB.take i) from ⟨hstep.1.room (by rw [w16_step RA hRi, ← HROW.out.1]; omega) (Nat.le_refl _) (Nat.le_refl _), by rw [hstep.2, HI.out.2.2.1, datasA_step RA hRi, ← HROW.out.1], HI.out.2.2.2⟩)
        rw [← hs5, ← hsa5] at HA5
        clear hw5 hs5 hsa5 hstep c0 p2 hpl hg0r HFX HQ1 HROW HA4 HI hRi
        have HN := Lib.hid (show ApR w w5 p d r l m lv xv RA RB (i + 1) s5 sa5 sb from by
         have hRi : RB.length ≤ i := by have := HLE.out; omega
         refine ⟨HA5.out, ?_, HB5.out.2.1, by rw [HB5.out.2.2, datasA_end RB hRi]⟩
         rw [w16_end RB hRi]
         exact HB5.out.1.room (Nat.le_refl _) (by omega) (by omega))
        clear HA5 HB5
        go_wp2_with fail
        go_roundw
        case rel => exact ⟨i + 1, _, _, _, by omega, by go_num, HN⟩
        case measure => simp [intOf]; omega
      ·have HA5 := Lib.hid HI.out.1
       have HB5 := Lib.hid (show ApI kA kB s sa sb (w16 (RA.take (i + 1)) + w16 (RB.take i)) (2 * i + 1) (2 * i + 1) ∧ sa.ents = datasA (RA.take (i + 1)) ∧ sb.ents = datasA (RB.take i) from by
        have hRi : RA.length ≤ i := by have := HLE.out; omega
        exact ⟨HI.out.2.1.room (by rw [w16_end RA hRi]; exact Nat.le_refl _) (by omega) (by omega), by rw [HI.out.2.2.1, datasA_end RA hRi], HI.out.2.2.2⟩)
       by_cases hb : i < lb
       ·clear HI
        have HFX := Lib.hid HB5.out.1.fb
        obtain ⟨F, G, hWA, hFG, hnp, hpl, hcell, hgo⟩ := HA5.out.swap.call
        obtain ⟨g0, off0, rfl, hg0, hc0, hr0, hm0⟩ := HRB.out.at_ HA5.out.swap.kp (show i < RB.length by have := HLE.out; omega)
        obtain ⟨row, hrow⟩ : ∃ row, row = RB[i]'(by have := HLE.out; omega) := ⟨_, rfl⟩
        have hrl : row.data.length ≤ 12000 := by rw [hrow]; have := slR_mem (List.getElem_mem (show i < RB.length by have := HLE.out; omega)); have := HSL.out; omega
        rw [← hrow] at hc0 hr0 hm0
        have hng : ¬ Both F G g0 := fun hh => by have := hFG g0 hh; omega
        have hkw := HA5.out.swap.kp
        have hg0r : g0 < wr.heap.size := hkw.lt hg0
        have c0 := fun V (hV : Kp (Both F G) wr V) => (hV.cell (p := ⟨g0, off0 + i, none⟩) hg0r hng).trans hc0
        have hb9 := HFX.out.ents
        have hb8 := HFX.out.segs
        have hap := fun n1 => wAppend_any (wr.drewN n1) d m kB s sb F G (hWA.no ((Kp.refl No wr).drewN n1)) HFX.out.hne (HPW.out.keepS (hkw.drewN n1) (fun x => x))
         (fun hf => by have := hFG _ (.inl hf); have := HPW.out.lt; omega) (fun hf => by have := hFG _ (.inr hf); have := HPW.out.lt; omega) (by decide) (by omega) (by omega) (fun z hz => by have := HFX.out.big z hz; omega)
         row.a row.cap row.data (fun V hV => by
          have hkV : Kp No w V := hkw.trans hV.of_drewN fun k hk hh => by have := hFG k hh; omega
          obtain ⟨_, _, _, _, _, hr5, _⟩ := HRB.out.at_ hkV (show i < RB.length by have := HLE.out; omega)
          rw [← hrow] at hr5
          exact hr5.mono hkV.size (Nat.le_refl _)) (by omega)
        unfold AppP at hap
        obtain ⟨RL, hRL⟩ : ∃ RL, RL = row.data.length := ⟨_, rfl⟩
        obtain ⟨q1, hq1⟩ : ∃ q1, q1 = appS kB s sb row.data := ⟨_, rfl⟩
        rw [← hRL, ← hq1] at hap
        rw [← hRL] at c0
        have HAP := Lib.hid hap
        have HGO := Lib.hid hgo
        have HQ1 := Lib.hid hq1
        have HROW := Lib.hid (And.intro hrow hrl)
        have cB := c0 wr (Kp.refl _ _)
        have hapB := hap 0
        have HAPB := Lib.hid (show Calls Tryz.prog _ _ wr (AppP wr d m kB F G q1) from by
         have h9 := wAppend_any wr d m kB s sb F G hWA HFX.out.hne (HPW.out.keepS hkw (fun x => x))
          (fun hf => by have := hFG _ (.inl hf); have := HPW.out.lt; omega) (fun hf => by have := hFG _ (.inr hf); have := HPW.out.lt; omega) (by decide) (by omega) (by omega) (fun z hz => by have := HFX.out.big z hz; omega)
          row.a row.cap row.data (fun V hV => by
           have hkV : Kp No w V := hkw.trans hV fun k hk hh => by have := hFG k hh; omega
           obtain ⟨_, _, _, _, _, hr5, _⟩ := HRB.out.at_ hkV (show i < RB.length by have := HLE.out; omega)
           rw [← hrow] at hr5
           exact hr5.mono hkV.size (Nat.le_refl _)) (by omega)
         rw [← hq1] at h9
         exact h9)
        rw [← hRL] at HAPB
        unfold AppP at HAPB
        unfold kB at HAPB
        clear hWA hFG hgo hnp hcell hc0 hr0 hrow hng hap hapB hRL hq1 hrl hm0 hb9 hb8 hkw c0 HAP
        go_wp2_with fail
        refine HAPB.out.mono ?_
        rintro e w7 ⟨rfl, hs7⟩
        have HA7 := Lib.hid (HGO.out w7 _ _ hs7).swap
        have hstep := ap_app HB5.out.1.swap (show kA.size ≠ kB.size by decide) (by decide) (by omega) (p := row.data) (by have := HROW.out.2; omega) (by have := hTT.out; have := HTA.out; have := w16_le RA (i + 1); have := HROW.out.2; omega) (by omega)
        rw [← HQ1.out] at hstep
        have HN := Lib.hid (show ApR w w7 p d r l m lv xv RA RB (i + 1) q1.2.1 sa q1.2.2 from by
         have hRi : i < RB.length := by have := HLE.out; omega
         refine ⟨HA7.out, ?_, HB5.out.2.1, by rw [hstep.2, HB5.out.2.2, datasA_step RB hRi, ← HROW.out.1]⟩
         exact hstep.1.swap.room (by rw [w16_step RB hRi, ← HROW.out.1]; omega) (by omega) (by omega))
        clear hs7 hstep HGO HAPB cB hpl hg0r HFX HQ1 HROW HA7 HA5 HB5
        go_wp2_with fail
        go_roundw
        case rel => exact ⟨i + 1, _, _, _, by omega, by go_num, HN⟩
        case measure => simp [intOf]; omega
       ·have HI9 := Lib.hid (show Ap w wr p d r l m lv xv kA kB s sa sb ∧ ApI kA kB s sa sb (w16 RA + w16 RB) (2 * i) (2 * i) ∧ sa.ents = datasA RA ∧ sb.ents = datasA RB from by
         have h1 : RA.take i = RA := List.take_of_length_le (by have := HLE.out; omega)
         have h2 : RB.take i = RB := List.take_of_length_le (by have := HLE.out; omega)
         have h3 := HI.out
         unfold ApR at h3
         rw [h1, h2] at h3
         exact h3)
        clear HI HA5 HB5
        obtain ⟨F, G, hWA, hFG, hnp, hpl, hcell, hgo⟩ := HI9.out.1.call
        have p2 : wr.cell? ⟨p, 2, none⟩ = some (.pointer (some ⟨l, 0, none⟩)) := by rw [cell_at hcell, HLV.out]; rfl
        have hap := wSync_any wr d l kA s sa F G hWA HI9.out.2.1.fa.hne
        have hsA := ap_snc HI9.out.2.1 kB_ne (by omega)
        obtain ⟨qa, hqa⟩ : ∃ qa, qa = sncS kA s sa := ⟨_, rfl⟩
        rw [← hqa] at hap hsA
        unfold SncP at hap
        have HAP := Lib.hid hap
        have HGO := Lib.hid hgo
        have HSA := Lib.hid hsA
        clear hWA hFG hnp hcell hgo hap hsA hqa
        go_wp2_with fail
        refine HAP.out.mono ?_
        rintro e w4 ⟨rfl, hs4⟩
        have HA4 := Lib.hid (HGO.out w4 _ _ hs4)
        clear hs4 HAP HGO p2 hpl
        obtain ⟨F, G, hWA, hFG, hnp, hpl, hcell, hgo⟩ := HA4.out.swap.call
        have hap := wSync_any w4 d m kB qa.2.1 sb F G hWA HSA.out.1.fb.hne
        have hsB := ap_snc HSA.out.1.swap (show kA.size ≠ kB.size by decide) (by omega)
        obtain ⟨qb, hqb⟩ : ∃ qb, qb = sncS kB qa.2.1 sb := ⟨_, rfl⟩
        rw [← hqb] at hap hsB
        unfold SncP at hap
        have HAP := Lib.hid hap
        have HGO := Lib.hid hgo
        have HSB := Lib.hid hsB
        clear hWA hFG hnp hcell hgo hap hsB hqb hpl
        go_wp2_with fail
        refine HAP.out.mono ?_
        rintro e w5 ⟨rfl, hs5⟩
        have HA5 := Lib.hid (HGO.out w5 _ _ hs5).swap
        clear hs5 HAP HGO HA4
        obtain ⟨F, hDA, hFw, hnp, hpl, hcell, hgo1, _⟩ := HA5.out.disk
        have p0 : w5.cell? ⟨p, 0, none⟩ = some (.pointer (some ⟨d, 0, none⟩)) := by rw [cell_at hcell]; rfl
        have hend := ap_end HSB.out.1.swap kB_ne (by omega) HSA.out.2.2 HSB.out.2.2 hDA.le 0 0
        have HEND := Lib.hid hend
        have HCR := Lib.hid (Crash_any w5 d qb.2.1 F hDA 0 (by decide) (by decide) 0)
        have HGO := Lib.hid hgo1
        clear hDA hFw hnp hcell hgo1 hend
        go_wp2_with fail
        refine HCR.out.mono ?_
        rintro e w6 ⟨rfl, hd6, hk6⟩
        have HA6 := Lib.hid (HGO.out w6 _ hd6 hk6)
        clear hd6 hk6 HCR HGO HA5 p0 hpl
        obtain ⟨s6, hs6⟩ : ∃ s6, s6 = crS qb.2.1 0 0 := ⟨_, rfl⟩
        rw [← hs6] at HA6 HEND
        clear hs6
        obtain ⟨hfr6, hr6, s1, sa1, o1, o2, hea, hfr1, hr1, s2, sb2, u1, u2, heb⟩ := HEND.out
        rw [HSA.out.2.1, HI9.out.2.2.1] at hea
        rw [HSB.out.2.1, HI9.out.2.2.2] at heb
        obtain ⟨F, hDA, hFw, hnp, hpl, hcell, _, hgo2⟩ := HA6.out.disk
        have p0 : w6.cell? ⟨p, 0, none⟩ = some (.pointer (some ⟨d, 0, none⟩)) := by rw [cell_at hcell]; rfl
        have hof := open_any w6 d kA s6 F hDA hfr6.ok (HPW.out.keepS HA6.out.kp fun x => x) (fun hf => by have := hFw _ hf; have := HPW.out.lt; omega) (by decide) (by decide) (by rw [hr6]; decide)
        rw [o1] at hof
        unfold kA at hof
        have HOF := Lib.hid hof
        have HGO := Lib.hid hgo2
        have hfa := o2.fit (by rw [hr6]; decide) hDA.few.1 hDA.few.2.1 hDA.few.2.2
        have HFA := Lib.hid hfa
        have HFR := Lib.hid (And.intro hfr1 hr1)
        have HU := Lib.hid (And.intro u1 u2)
        have HEE := Lib.hid (And.intro hea heb)
        clear hDA hFw hnp hcell hgo2 hof hfr6 hr6 o1 o2 hea hfr1 hr1 u1 u2 heb hfa HEND HSB HSA HI9
        go_wp2_with fail
        refine HOF.out.mono ?_
        intro e w7 hq
        unfold OpnP at hq
        rcases hq with ⟨_, l1, F7, G7, rfl, q1, q2, q3, q4⟩ | ⟨hq, _⟩
        rotate_left
        ·exact absurd rfl hq
        simp only at q1
        have HA7 := Lib.hid (HGO.out w7 s1 sa1 l1 F7 G7 q1 q2 q3 q4)
        clear q1 q2 q3 q4 HOF HGO HA6 p0 hpl
        obtain ⟨F, hDA, hFw, hnp, hpl, hcell, _, hgo2⟩ := HA7.out.swap.disk
        have p0 : w7.cell? ⟨p, 0, none⟩ = some (.pointer (some ⟨d, 0, none⟩)) := by rw [cell_at hcell]; rfl
        have hof := open_any w7 d kB s1 F hDA HFR.out.1.ok (HPW.out.keepS HA7.out.kp fun x => x) (fun hf => by have := hFw _ hf; have := HPW.out.lt; omega) (by decide) (by decide) (by rw [HFR.out.2]; decide)
        rw [HU.out.1] at hof
        unfold kB at hof
        have HOF := Lib.hid hof
        have HGO := Lib.hid hgo2
        have hfb := HU.out.2.fit (by rw [HFR.out.2]; decide) hDA.few.1 hDA.few.2.1 hDA.few.2.2
        have HFB := Lib.hid hfb
        clear hDA hFw hnp hcell hgo2 hof hfb
        go_wp2_with fail
        refine HOF.out.mono ?_
        intro e w8 hq
        unfold OpnP at hq
        rcases hq with ⟨_, l2, F8, G8, rfl, q1, q2, q3, q4⟩ | ⟨hq, _⟩
        rotate_left
        ·exact absurd rfl hq
        simp only at q1
        have HA8 := Lib.hid (HGO.out w8 s2 sb2 l2 F8 G8 q1 q2 q3 q4)
        obtain ⟨⟨G2, hl2⟩, G1, hl1⟩ := HA8.out.logs
        have HK8 := Lib.hid HA8.out.kp
        have HL1 := Lib.hid hl1
        have HL2 := Lib.hid hl2
        clear q1 q2 q3 q4 HOF HGO HA7 HA8 hl1 hl2 p0 hpl HU HFR
        have hea : sa1.ents.length = la := by rw [HEE.out.1, HLE.out.1]; unfold datasA; rw [List.length_map]
        have heb : sb2.ents.length = lb := by rw [HEE.out.2, HLE.out.2.1]; unfold datasA; rw [List.length_map]
        have hlab : la ≤ 100 ∧ lb ≤ 100 := by have := HLE.out; omega
        have hnx1 := next_any w8 l1 d _ sa1 G1 HL1.out (by omega) (by have := HFA.out.hsl; omega)
        have hnx2 := fun V (hV : Kp No w8 V) => next_any V l2 d _ sb2 G2 (HL2.out.keep_no hV) (by omega) (by have := HFB.out.hsl; omega)
        obtain ⟨y1, hy1⟩ : ∃ y1, y1 = sa1.synced := ⟨_, rfl⟩
        obtain ⟨y2, hy2⟩ : ∃ y2, y2 = sb2.synced := ⟨_, rfl⟩
        rw [hea, ← hy1] at hnx1
        rw [heb, ← hy2] at hnx2
        have e1 : ((la + 1 : Nat) : Int) = (la : Int) + 1 := by omega
        have e2 : ((lb + 1 : Nat) : Int) = (lb : Int) + 1 := by omega
        rw [e1] at hnx1
        rw [e2] at hnx2
        have HNX1 := Lib.hid hnx1
        have HNX2 := Lib.hid hnx2
        have HLEN := Lib.hid (And.intro hea heb)
        obtain ⟨hlab1, hlab2⟩ := hlab
        clear hnx1 hnx2 hy1 hy2 e1 e2 hea heb
        go_wp2_with fail
        refine HNX1.out.mono ?_
        rintro e w9 ⟨rfl, hk9⟩
        have HC := Lib.hid (HNX2.out w9 hk9)
        have HK9 := Lib.hid hk9
        clear hk9 HNX1 HNX2
        go_wp2_with fail
        refine HC.out.mono ?_
        rintro e w10 ⟨rfl, hk10⟩
        have HK10 := Lib.hid (HK9.out.trans_same hk10)
        clear hk10 HC HK9
        go_wp2_with fail
        go_loopw [19] (fun s0 wr => ∃ k : Nat, k ≤ la ∧ s0 = .int .i64 (k : Int) ∧ Hid (Kp No w8 wr)) (fun s0 _ => la - (intOf s0).toNat)
        case atStart => exact ⟨0, Nat.zero_le _, rfl, HK10⟩
        case round =>
         clear HK10
         obtain ⟨k, hk, rfl, HK10⟩ := hrel
         have HKw := Lib.hid (HK8.out.trans_same HK10.out)
         by_cases hlk : k < la
         ·have hkR : k < RA.length := by rw [← HLE.out.1]; exact hlk
          obtain ⟨hjs, hat⟩ := datasA_at HEE.out.1 hkR
          have hen := Entry_any wr l1 d _ sa1 G1 (HL1.out.keep_no HK10.out) ((k : Int) + 1)
          rw [ent_yes hjs rfl, hat] at hen
          unfold EntP at hen
          obtain ⟨g0, off0, rfl, hg0, _, _, _⟩ := HRA.out.at_ HKw.out hkR
          obtain ⟨row, hrow⟩ : ∃ row, row = RA[k] := ⟨_, rfl⟩
          have hrl : row.data.length ≤ 12000 := by rw [hrow]; have := slR_mem (List.getElem_mem hkR); have := HSL.out; omega
          simp only [← hrow] at hen
          have HRW := Lib.hid (show ∀ V, Kp No w8 V → V.cell? ⟨g0, off0 + k, none⟩ = some (.slice row.a row.data.length row.cap) ∧ Rd V V.heap.size row.a (u8s row.data) ∧ g0 < V.heap.size from fun V hV => by
           have hkV := HK8.out.trans_same hV
           obtain ⟨g9, off9, e9, h9, hc9, hr9, _⟩ := HRA.out.at_ hkV hkR
           injection e9 with e9
           injection e9 with e9 e10
           subst e9
           subst e10
           rw [← hrow] at hc9 hr9
           exact ⟨hc9, hr9.mono hkV.size (Nat.le_refl _), hkV.lt h9⟩)
          have HEN := Lib.hid hen
          clear hat hen hrow
          go_wp2_with fail
          refine HEN.out.mono ?_
          rintro e w11 ⟨v, rfl, ho, hk11, _⟩
          obtain ⟨a11, c11, rfl, _, _⟩ := ho.rd
          have HK11 := Lib.hid (HK10.out.trans_same hk11)
          obtain ⟨c0, hr0, hg00⟩ := HRW.out w11 HK11.out
          have hsm := same_any a11 row.a c11 row.cap w11.heap.size w11.heap.size row.data row.data w11 ho.rd' hr0 (by omega)
          have HSM := Lib.hid hsm
          clear ho hk11 hsm HEN hr0
          go_wp2_with fail
          refine HSM.out.mono ?_
          rintro e w12 ⟨rfl, n8, rfl⟩
          obtain ⟨V8, hV8⟩ : ∃ V, V = w11.drewN n8 := ⟨_, rfl⟩
          have HK12 := Lib.hid (show Kp No w8 V8 by rw [hV8]; exact HK11.out.drewN n8)
          rw [← hV8]
          (try simp only [decide_true])
          clear hV8 HSM c0 hg00
          go_wp2_with fail
          go_roundw
          case rel => exact ⟨k + 1, by omega, by go_num, HK12⟩
          case measure => simp [intOf]; omega
         ·have hkn2 : decide ((k : Int) < (la : Int)) = false := decide_eq_false (by omega)
          go_wp2_with fail
          go_loopw [22] (fun s0 wr => ∃ k : Nat, k ≤ lb ∧ s0 = .int .i64 (k : Int) ∧ Hid (Kp No w8 wr)) (fun s0 _ => lb - (intOf s0).toNat)
          case atStart => exact ⟨0, Nat.zero_le _, rfl, HK10⟩
          case round =>
           clear HK10
           obtain ⟨k, hk, rfl, HK10⟩ := hrel
           have HKw := Lib.hid (HK8.out.trans_same HK10.out)
           by_cases hlk : k < lb
           ·have hkR : k < RB.length := by rw [← HLE.out.2.1]; exact hlk
            obtain ⟨hjs, hat⟩ := datasA_at HEE.out.2 hkR
            have hen := Entry_any wr l2 d _ sb2 G2 (HL2.out.keep_no HK10.out) ((k : Int) + 1)
            rw [ent_yes hjs rfl, hat] at hen
            unfold EntP at hen
            obtain ⟨g0, off0, rfl, hg0, _, _, _⟩ := HRB.out.at_ HKw.out hkR
            obtain ⟨row, hrow⟩ : ∃ row, row = RB[k] := ⟨_, rfl⟩
            have hrl : row.data.length ≤ 12000 := by rw [hrow]; have := slR_mem (List.getElem_mem hkR); have := HSL.out; omega
            simp only [← hrow] at hen
            have HRW := Lib.hid (show ∀ V, Kp No w8 V → V.cell? ⟨g0, off0 + k, none⟩ = some (.slice row.a row.data.length row.cap) ∧ Rd V V.heap.size row.a (u8s row.data) ∧ g0 < V.heap.size from fun V hV => by
             have hkV := HK8.out.trans_same hV
             obtain ⟨g9, off9, e9, h9, hc9, hr9, _⟩ := HRB.out.at_ hkV hkR
             injection e9 with e9
             injection e9 with e9 e10
             subst e9
             subst e10
             rw [← hrow] at hc9 hr9
             exact ⟨hc9, hr9.mono hkV.size (Nat.le_refl _), hkV.lt h9⟩)
            have HEN := Lib.hid hen
            clear hat hen hrow
            go_wp2_with fail
            refine HEN.out.mono ?_
            rintro e w11 ⟨v, rfl, ho, hk11, _⟩
            obtain ⟨a11, c11, rfl, _, _⟩ := ho.rd
            have HK11 := Lib.hid (HK10.out.trans_same hk11)
            obtain ⟨c0, hr0, hg00⟩ := HRW.out w11 HK11.out
            have hsm := same_any a11 row.a c11 row.cap w11.heap.size w11.heap.size row.data row.data w11 ho.rd' hr0 (by omega)
            have HSM := Lib.hid hsm
            clear ho hk11 hsm HEN hr0
            go_wp2_with fail
            refine HSM.out.mono ?_
            rintro e w12 ⟨rfl, n8, rfl⟩
            obtain ⟨V8, hV8⟩ : ∃ V, V = w11.drewN n8 := ⟨_, rfl⟩
            have HK12 := Lib.hid (show Kp No w8 V8 by rw [hV8]; exact HK11.out.drewN n8)
            rw [← hV8]
            (try simp only [decide_true])
            clear hV8 HSM c0 hg00
            go_wp2_with fail
            go_roundw
            case rel => exact ⟨k + 1, by omega, by go_num, HK12⟩
            case measure => simp [intOf]; omega
           ·have hkn2 : decide ((k : Int) < (lb : Int)) = false := decide_eq_false (by omega)
            have HKR := Lib.hid (HK8.out.trans_same HK10.out)
            have HKN := Lib.hid (wknown_any wr (HPW.out.keepS HKR.out fun x => x))
            go_wp2_with fail
            refine HKN.out.mono ?_
            rintro e w12 ⟨rfl, hk12⟩
            have HKF := Lib.hid (HKR.out.trans_same hk12)
            clear hk12
            go_wp2_with fail
            go_ret
            exact ⟨rfl, HKF.out⟩
   ·go_wp2_with fail
    refine HKN.out.mono ?_
    rintro e w' ⟨rfl, hk⟩
    have HKK := Lib.hid hk
    clear hk
    go_wp2_with fail
    go_ret
    exact ⟨rfl, HKK.out⟩
end Go.Proofs.YtdibkdgafidjgaaGreatDoor

