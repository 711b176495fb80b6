/-
  The law WalMany, walked.
-/
import Derived.Test.YtdibkdgafidjgaaGreatDoorWc4
import Derived.Test.YtdibkdgafidjgaaGreatDoorWd0
import Derived.Test.YtdibkdgafidjgaaGreatDoorWTextsM
import Derived.Test.YtdibkdgafidjgaaGreatDoorWd5
import Derived.Deep.OwnRows
namespace Go.Proofs.YtdibkdgafidjgaaGreatDoor
open Go.RowKit Go.Mer
theorem made_bytes (w : World) (n : Nat) (hn : n ≤ 1000) : (Instr.makeSlice 23 (.int .i64 (n : Int)) (.int .i64 (n : Int))).run Tryz.prog w = .ok (.slice (some ⟨w.heap.size, 0, none⟩) n n) (w.alloc (.cells (madeCells #[.int .u8 0] n) 5)) :=
 run_make_row' 23 5 (.int .u8 0) 1 Tryz.underlying23 (by kernel_rfl) rfl .i64 .i64 n (by omega) (by omega) w
theorem made_own (w : World) (n : Nat) (hn : n ≤ 1000) : Own (w.alloc (.cells (madeCells #[.int .u8 0] n) 5)) 5 1 (.slice (some ⟨w.heap.size, 0, none⟩) n n) n (u8s (List.replicate n 0)) := by
 refine Own.made w 5 1 (madeCells #[.int .u8 0] n) n n (Nat.le_refl _) (by simp only [maxLen]; omega) (by unfold madeCells; simp) ?_
 refine List.ext_getElem? fun i => ?_
 unfold madeCells u8s
 by_cases hi : i < n
 ·simp [hi, Nat.mod_one]
  rfl
 ·simp [hi]
theorem wrap_u8 (i : Nat) : IntKind.u8.wrap (i : Int) = ((UInt8.ofNat i).toNat : Int) := by
 rw [UInt8.toNat_ofNat']
 unfold IntKind.wrap
 have e1 : (2 ^ IntKind.u8.bits : Int) = 256 := by decide
 have e2 : IntKind.u8.signed = false := rfl
 simp only [e1, e2, Bool.false_and]
 simp
set_option maxRecDepth 100000 in
set_option maxHeartbeats 8000000 in
theorem wmany_any (w : World) (hpow : Pow w) (N SZ : Int) :
  Calls Tryz.prog 9 #[.int .i64 N, .int .i64 SZ] w fun e w' => e = .returned (.bool true) ∧ Kp No w w' := by
 have HPW := Lib.hid hpow
 have HKN := Lib.hid (wknown_any w hpow)
 clear hpow
 rcases (show (decide (N < 1) = true) ∨ (decide (N < 1) = false ∧ decide (300 < N) = true) ∨ (decide (N < 1) = false ∧ decide (300 < N) = false ∧ decide (SZ < 0) = true) ∨ (decide (N < 1) = false ∧ decide (300 < N) = false ∧ decide (SZ < 0) = false ∧ decide (200 < SZ) = true) ∨ (1 ≤ N ∧ N ≤ 300 ∧ 0 ≤ SZ ∧ SZ ≤ 200) by simp only [decide_eq_true_eq, decide_eq_false_iff_not]; omega) with g1 | ⟨g1, g2⟩ | ⟨g1, g2, g3⟩ | ⟨g1, g2, g3, g4⟩ | ⟨g1, g2, g3, g4⟩
 ·go_enter Tryz.func9, Tryz.ntmps9
  go_wp2_with fail
  refine HKN.out.mono ?_
  rintro e w' ⟨rfl, hk⟩
  have HKK := Lib.hid hk
  clear hk
  go_wp2_with fail
  go_ret
  exact ⟨rfl, HKK.out⟩
 ·go_enter Tryz.func9, Tryz.ntmps9
  go_wp2_with fail
  refine HKN.out.mono ?_
  rintro e w' ⟨rfl, hk⟩
  have HKK := Lib.hid hk
  clear hk
  go_wp2_with fail
  go_ret
  exact ⟨rfl, HKK.out⟩
 ·go_enter Tryz.func9, Tryz.ntmps9
  go_wp2_with fail
  refine HKN.out.mono ?_
  rintro e w' ⟨rfl, hk⟩
  have HKK := Lib.hid hk
  clear hk
  go_wp2_with fail
  go_ret
  exact ⟨rfl, HKK.out⟩
 ·go_enter Tryz.func9, Tryz.ntmps9
  go_wp2_with fail
  refine HKN.out.mono ?_
  rintro e w' ⟨rfl, hk⟩
  have HKK := Lib.hid hk
  clear hk
  go_wp2_with fail
  go_ret
  exact ⟨rfl, HKK.out⟩
 obtain ⟨n, rfl⟩ : ∃ n : Nat, N = (n : Int) := ⟨N.toNat, by omega⟩
 obtain ⟨size, rfl⟩ : ∃ size : Nat, SZ = (size : Int) := ⟨SZ.toNat, by omega⟩
 have hn1 : 1 ≤ n := by omega
 have hn3 : n ≤ 300 := by omega
 have hsz : size ≤ 200 := by omega
 have HN := Lib.hid (And.intro hn1 (And.intro hn3 hsz))
 have HST := Lib.hid (start_any w 1048576 HPW.out (Nat.le_refl _))
 clear HKN g3
 go_enter Tryz.func9, Tryz.ntmps9
 go_wp2_with fail
 refine HST.out.mono ?_
 rintro e w2 ⟨p, d, r, l, x, Z0, rfl, hPL, hFit0, _⟩
 have HM0 := Lib.hid (show ∃ A, ManyI size 0 kA ⟨1048576, none, []⟩ st0 A from ⟨[], many0 size kA⟩)
 obtain ⟨s0, hs0⟩ : ∃ s0 : DSt, s0 = ⟨1048576, none, []⟩ := ⟨_, rfl⟩
 rw [← hs0] at hPL hFit0 HM0
 have HPL0 := Lib.hid hPL
 have HF0 := Lib.hid (show Fit 0 kA s0 st0 from hFit0)
 clear hPL hFit0 hs0 HST
 go_wp2_with fail
 go_loopw [7] (fun s7 wr => ∃ (i : Nat) (s1 : DSt) (st1 : LSt) (Z : Nat → Prop), i ≤ n ∧ s7 = .int .i64 (i : Int) ∧ Hid (PL w wr p d r l x kA s1 st1 s0 st0 Z) ∧ Hid (Fit i kA s1 st1) ∧ Hid (∃ A, ManyI size i kA s1 st1 A)) (fun s7 _ => n - (intOf s7).toNat)
 case atStart => exact ⟨0, s0, st0, Z0, Nat.zero_le _, rfl, HPL0, HF0, HM0⟩
 case round =>
  obtain ⟨i, s1, st1, Z, hi, rfl, HPL, HF, HM⟩ := hrel
  by_cases hlt : i < n
  ·obtain ⟨W1, hW1⟩ : ∃ V, V = wr.alloc (.cells (madeCells #[.int .u8 0] size) 5) := ⟨_, rfl⟩
   have hmk := made_bytes wr size (by omega)
   have hk1 : Kp No wr W1 := by rw [hW1]; exact (Kp.refl _ _).alloc _
   have ho1 : Own W1 5 1 (.slice (some ⟨wr.heap.size, 0, none⟩) size size) size (u8s (List.replicate size 0)) := by rw [hW1]; exact made_own wr size (by omega)
   rw [← hW1] at hmk
   obtain ⟨g, hg⟩ : ∃ g, g = wr.heap.size := ⟨_, rfl⟩
   rw [← hg] at hmk ho1
   have hgl : g < W1.heap.size := by rw [hg, hW1]; simp
   have HK1 := Lib.hid hk1
   have HG := Lib.hid hg
   clear hW1 hk1 hg
   rcases Nat.eq_zero_or_pos size with hz | hz
   ·have ho2 : Own W1 5 1 (.slice (some ⟨g, 0, none⟩) size size) size (u8s (rowM size i)) := by
     have e : List.replicate size (0 : UInt8) = rowM size i := by unfold rowM; rw [hz]; rfl
     rw [← e]
     exact ho1
    have HO2 := Lib.hid ho2
    have hzd : decide ((0 : Int) < (size : Int)) = false := decide_eq_false (by omega)
    have hzd2 : ¬ 0 < size := by omega
    clear ho1 ho2 hz
    obtain ⟨W2, hW2⟩ : ∃ V, V = W1 := ⟨_, rfl⟩
    have HK2 := Lib.hid (show Kp No wr W2 by rw [hW2]; exact HK1.out)
    have HO3 := Lib.hid (show Own W2 5 1 (.slice (some ⟨g, 0, none⟩) size size) size (u8s (rowM size i)) by rw [hW2]; exact HO2.out)
    clear HO2
    go_upto_region 12 with fail
    rw [← hW2]
    clear hW2 hmk
    obtain ⟨F, G, hWA, hFG, hnp, hgo⟩ := (HPL.out.no HK2.out).wal
    obtain ⟨hpl, pc⟩ := (HPL.out.no HK2.out).cells No (fun x => x)
    have p2 := (pc W2 (Kp.refl _ _)).2.2.1
    have hng : ¬ Both F G g := fun hh => by
     have h1 := (HPL.out.zn g (hFG g hh).2).2
     have := HG.out
     omega
    have hkW2 : Kp No w W2 := HPL.out.kp.trans_same HK2.out
    have hb9 := HF.out.ents
    have hb8 := HF.out.segs
    have hap := wAppend_any W2 d l kA s1 st1 F G hWA HF.out.hne (HPW.out.keepS hkW2 (fun x => x))
     (fun hf => by have := (hFG _ (.inl hf)).1; have := HPW.out.lt; omega) (fun hf => by have := (hFG _ (.inr hf)).1; have := HPW.out.lt; omega) (by decide) (by omega) (by omega) (fun z hz => by have := HF.out.big z hz; omega)
     (some ⟨g, 0, none⟩) size (rowM size i) (fun V hV => (HO3.out.keep hV fun k hk hh => by
      have hk' : (some g : Option Nat) = some k := hk
      injection hk' with hk'
      exact hng (hk' ▸ hh)).rd') (by rw [rowM_len]; omega)
    obtain ⟨A, hMA⟩ := HM.out
    obtain ⟨hq1, A', hM'⟩ := many_app hMA (by omega) hsz (by decide)
    obtain ⟨q2, hq2⟩ : ∃ q2, q2 = (appS kA s1 st1 (rowM size i)).2 := ⟨_, rfl⟩
    have hqq : appS kA s1 st1 (rowM size i) = ((i + 1, 0), q2) := by rw [hq2, ← hq1]
    rw [hqq, rowM_len] at hap
    rw [← hq2] at hM'
    have e1 : ((i + 1 : Nat) : Int) = (i : Int) + 1 := by omega
    unfold AppP at hap
    simp only [e1] at hap
    have HAP := Lib.hid hap
    have HGO := Lib.hid hgo
    have HM2 := Lib.hid (show ∃ A, ManyI size (i + 1) kA q2.1 q2.2 A from ⟨A', hM'⟩)
    have HF2 := Lib.hid (show Fit (i + 1) kA q2.1 q2.2 by rw [hq2]; exact fit_app HF.out (by omega) _)
    unfold ptrV at p2
    clear hWA hFG hnp hgo pc hng hkW2 hb9 hb8 hap hMA hq1 hM' hq2 hqq e1
    go_wp2_with fail
    refine HAP.out.mono ?_
    rintro e w4 ⟨rfl, hs4⟩
    obtain ⟨Z4, hz4, _, _⟩ := HGO.out w4 _ _ hs4
    have HPL4 := Lib.hid hz4
    clear hs4 hz4 HGO HAP p2 hpl
    go_wp2_with fail
    go_roundw
    case rel => exact ⟨i + 1, _, _, _, by omega, by go_num, HPL4, HF2, HM2⟩
    case measure => simp [intOf]; omega
   ·obtain ⟨m, hm⟩ : ∃ m, m = i % size := ⟨_, rfl⟩
    have hms : m < size := by rw [hm]; exact Nat.mod_lt _ hz
    have htm : (i : Int).tmod (size : Int) = (m : Int) := by rw [hm]; exact (Int.ofNat_tmod i size).symm
    have hwr := wrap_u8 i
    have ho2 := own_store ho1 m hms (Mer.u8 (UInt8.ofNat i))
    rw [u8s_set] at ho2
    have e : (List.replicate size (0 : UInt8)).set m (UInt8.ofNat i) = rowM size i := by unfold rowM; rw [hm]
    rw [e, Nat.zero_add] at ho2
    obtain ⟨cur, hcur⟩ := ho1.type g rfl
    obtain ⟨uv, huv⟩ : ∃ uv : Int, uv = ((UInt8.ofNat i).toNat : Int) := ⟨_, rfl⟩
    rw [← huv] at hwr
    have hu8 : Mer.u8 (UInt8.ofNat i) = .int .u8 uv := by rw [huv]; rfl
    rw [hu8] at ho2
    clear hu8
    have hsc : ∃ z, W1.cell? ⟨g, m, none⟩ = some z := by
     obtain ⟨g', off', e', _, _, hc⟩ := ho1.rd'.at_ (i := m) (u := .int .u8 0) (by unfold u8s; simp [hms]; rfl)
     injection e' with e'
     injection e' with e1 e2
     subst e1
     subst e2
     rw [Nat.zero_add] at hc
     exact ⟨_, hc⟩
    obtain ⟨zc, hzc⟩ := hsc
    have hfz : W1.frozen? ⟨g, m, none⟩ = false := free_at hcur m
    obtain ⟨W2, hW2⟩ : ∃ V, V = W1.setCell ⟨g, m, none⟩ (.int .u8 uv) := ⟨_, rfl⟩
    rw [← hW2] at ho2
    have HK2 := Lib.hid (show Kp No wr W2 from HK1.out.trans (show Kp (One g) W1 W2 by rw [hW2]; exact (Kp.refl (One g) _).setCell (p := ⟨g, m, none⟩) (.inl rfl) _) fun k hk (e : k = g) => by have := HG.out; omega)
    have HO3 := Lib.hid ho2
    have hsb : (size : Int) ≤ 200 := by omega
    clear ho1 ho2 hm e hcur huv
    go_upto_region 12 with fail
    rw [← hW2]
    clear hW2 hmk hzc hfz htm hwr
    obtain ⟨F, G, hWA, hFG, hnp, hgo⟩ := (HPL.out.no HK2.out).wal
    obtain ⟨hpl, pc⟩ := (HPL.out.no HK2.out).cells No (fun x => x)
    have p2 := (pc W2 (Kp.refl _ _)).2.2.1
    have hng : ¬ Both F G g := fun hh => by
     have h1 := (HPL.out.zn g (hFG g hh).2).2
     have := HG.out
     omega
    have hkW2 : Kp No w W2 := HPL.out.kp.trans_same HK2.out
    have hb9 := HF.out.ents
    have hb8 := HF.out.segs
    have hap := wAppend_any W2 d l kA s1 st1 F G hWA HF.out.hne (HPW.out.keepS hkW2 (fun x => x))
     (fun hf => by have := (hFG _ (.inl hf)).1; have := HPW.out.lt; omega) (fun hf => by have := (hFG _ (.inr hf)).1; have := HPW.out.lt; omega) (by decide) (by omega) (by omega) (fun z hz => by have := HF.out.big z hz; omega)
     (some ⟨g, 0, none⟩) size (rowM size i) (fun V hV => (HO3.out.keep hV fun k hk hh => by
      have hk' : (some g : Option Nat) = some k := hk
      injection hk' with hk'
      exact hng (hk' ▸ hh)).rd') (by rw [rowM_len]; omega)
    obtain ⟨A, hMA⟩ := HM.out
    obtain ⟨hq1, A', hM'⟩ := many_app hMA (by omega) hsz (by decide)
    obtain ⟨q2, hq2⟩ : ∃ q2, q2 = (appS kA s1 st1 (rowM size i)).2 := ⟨_, rfl⟩
    have hqq : appS kA s1 st1 (rowM size i) = ((i + 1, 0), q2) := by rw [hq2, ← hq1]
    rw [hqq, rowM_len] at hap
    rw [← hq2] at hM'
    have e1 : ((i + 1 : Nat) : Int) = (i : Int) + 1 := by omega
    unfold AppP at hap
    simp only [e1] at hap
    have HAP := Lib.hid hap
    have HGO := Lib.hid hgo
    have HM2 := Lib.hid (show ∃ A, ManyI size (i + 1) kA q2.1 q2.2 A from ⟨A', hM'⟩)
    have HF2 := Lib.hid (show Fit (i + 1) kA q2.1 q2.2 by rw [hq2]; exact fit_app HF.out (by omega) _)
    unfold ptrV at p2
    clear hWA hFG hnp hgo pc hng hkW2 hb9 hb8 hap hMA hq1 hM' hq2 hqq e1
    go_wp2_with fail
    refine HAP.out.mono ?_
    rintro e w4 ⟨rfl, hs4⟩
    obtain ⟨Z4, hz4, _, _⟩ := HGO.out w4 _ _ hs4
    have HPL4 := Lib.hid hz4
    clear hs4 hz4 HGO HAP p2 hpl
    go_wp2_with fail
    go_roundw
    case rel => exact ⟨i + 1, _, _, _, by omega, by go_num, HPL4, HF2, HM2⟩
    case measure => simp [intOf]; omega
  ·have hin : n = i := by omega
   subst hin
   clear hlt
   obtain ⟨A, hMA⟩ := HM.out
   have HMA := Lib.hid hMA
   obtain ⟨F, G, hWA, hFG, hnp, hgo⟩ := HPL.out.wal
   obtain ⟨hpl, pc⟩ := HPL.out.cells No (fun x => x)
   have p2 := (pc wr (Kp.refl _ _)).2.2.1
   have hsg : st1.segs.length ≤ 10000 := by have := HF.out.segs; omega
   have hwn := wNames_own wr l d kA st1 G hWA.log (by omega)
   obtain ⟨L, hL⟩ : ∃ L, L = st1.segs.map fun z => bnm kA z.1 := ⟨_, rfl⟩
   rw [← hL] at hwn
   obtain ⟨nl, hnl⟩ : ∃ nl, nl = L.length := ⟨_, rfl⟩
   unfold NmO at hwn
   rw [← hnl] at hwn
   have hnls : nl = st1.segs.length := by rw [hnl, hL, List.length_map]
   have HWN := Lib.hid hwn
   have HL := Lib.hid (And.intro hL (And.intro hnl hnls))
   have hnlb : nl ≤ 10000 := by omega
   unfold ptrV at p2
   clear hMA hWA hFG hnp hgo pc hwn hL hnl hnls hsg
   go_wp2_with fail
   refine HWN.out.mono ?_
   rintro e w3 ⟨a3, c3, rfl, ho3, hk3, hf3⟩
   have HO3 := Lib.hid (show Own w3 9 1 (.slice a3 L.length c3) L.length (L.map Value.string) by rw [← HL.out.2.1]; exact ho3)
   have HPL3 := Lib.hid (HPL.out.no hk3)
   have HFR := Lib.hid (show ∀ g, (Value.slice a3 L.length c3).ownBlock = some g → ¬ Z g ∧ w.heap.size ≤ g from fun g hg => by
    have h1 := hf3 g (by rw [HL.out.2.1]; exact hg)
    refine ⟨fun hz => ?_, Nat.le_trans HPL.out.kp.size h1⟩
    have := (HPL.out.zn g hz).2
    omega)
   clear ho3 hk3 hf3 HWN p2 hpl
   go_wp2_with fail
   go_loopw [12] (fun s12 wq => ∃ k : Nat, k ≤ nl ∧ s12 = .int .i64 (k : Int) ∧ Hid (Kp No w3 wq)) (fun s12 _ => nl - (intOf s12).toNat)
   case atStart => exact ⟨0, Nat.zero_le _, rfl, Lib.hid (Kp.refl _ _)⟩
   case round =>
    obtain ⟨k, hk, rfl, HQ⟩ := hrel
    have HPLr := Lib.hid (HPL3.out.no HQ.out)
    have HOr := Lib.hid (HO3.out.keep HQ.out fun _ _ x => x)
    by_cases hlt : k + 1 < nl
    ·obtain ⟨g, off, rfl, hg, _, hgc⟩ := rd_name HOr.out (m := k) (by have := HL.out.2.1; omega)
     have hks : k < st1.segs.length := by rw [← HL.out.2.2]; omega
     have hkL : k < L.length := by rw [← HL.out.2.1]; omega
     obtain ⟨nm, hnm⟩ : ∃ nm, nm = L[k] := ⟨_, rfl⟩
     rw [← hnm] at hgc
     have hnb : nm = bnm kA (st1.segs[k]).1 := by
      rw [hnm]
      have e := HL.out.1
      subst e
      rw [List.getElem_map]
     have hB0 := many_seg HMA.out hks
     have hB1 := many_mid HMA.out (k := k) (by have := HL.out.2.2; omega)
     have hkn : k < nl := by omega
     rw [← hB0, ← hnb] at hB1
     obtain ⟨F, hDA, hFZ, hnp, _⟩ := HPLr.out.diskX
     obtain ⟨hpl, pc⟩ := HPLr.out.cells No (fun x => x)
     have p0 := fun V hV => (pc V hV).1
     have c0 := fun V (hV : Kp No wr V) => (hV.cell (p := ⟨g, off + k, none⟩) hg fun x => x).trans hgc
     obtain ⟨q, hq⟩ : ∃ q, q = rdS s1.files nm := ⟨_, rfl⟩
     obtain ⟨B, hB⟩ : ∃ B, B = q.1.length := ⟨_, rfl⟩
     have hd := fun n1 => Read_any (wr.drewN n1) d s1 F (hDA.keep_no ((Kp.refl No wr).drewN n1)) nm
     unfold ReadPost at hd
     rw [← hq] at hB1
     rw [← hq, ← hB] at hd
     rw [← hB] at hB1
     obtain ⟨hb1, hb2⟩ := hB1
     have hdc1 : decide ((k : Int) + 1 < (nl : Int)) = true := decide_eq_true (by omega)
     have hdc2 : decide ((1024 : Int) + (size : Int) + 30 < (B : Int)) = false := decide_eq_false (by omega)
     have hdc3 : decide ((B : Int) < 1024) = false := decide_eq_false (by omega)
     have HD := Lib.hid hd
     have HBB := Lib.hid (And.intro hb1 hb2)
     unfold ptrV at p0
     clear hnm hnb hB0 hDA hFZ hnp pc hgc hq hB hd hb1 hb2 hks hkL
     go_upto_region 19 with fail
     refine wp_region_held' (Kp No wr) [0,0,0,0,0,0,0,0,2,0,0,0,0,0] [0,1,2,3,4,5,6,7,8,9,10,11,12,13] (by kernel_rfl) (by kernel_rfl) (fun _ n h => h.drewN n) (Kp.refl _ _) ?_
     repeat (first
      | (apply wpOrd_skip rfl (by decide) rfl; (focus (go_simp; rfl)))
      | (apply wpOrd_pure rfl rfl rfl; (focus (intro _ _; go_simp; (try go_ints); rfl)); (focus (go_simp; rfl)))
      | (apply wpOrd_read rfl rfl rfl; (focus (intro _; go_simp; (try go_ints); rfl)); (focus (go_simp; rfl))))
     refine wpOrd_eff rfl rfl (fun n1 => ?_)
     have hc := HD.out n1
     clear HD
     go_wp2_with fail
     with_reducible refine hc.mono ?_
     rintro e w4 ⟨v4, rfl, ho4, hk4, _, _⟩
     clear hc
     obtain ⟨a4, c4, rfl, _, _⟩ := ho4.rd
     have HK4 := Lib.hid (show Kp No wr w4 from hk4.of_drewN)
     clear ho4 hk4
     go_wp2_with fail
     refine ⟨HK4.out, ?_⟩
     repeat (first
      | (apply wpOrd_skip rfl (by decide) rfl; (focus (go_simp; rfl)))
      | (apply wpOrd_pure rfl rfl rfl; (focus (intro _ _; go_simp; (try go_ints); rfl)); (focus (go_simp; rfl)))
      | (apply wpOrd_read rfl rfl rfl; (focus (intro _; go_simp; (try go_ints); rfl)); (focus (go_simp; rfl))))
     refine wpOrd_nil (fun nq => ?_)
     have HK5 := Lib.hid (show Kp No w3 (w4.drewN nq) from (HQ.out.trans_same HK4.out).drewN nq)
     have hb1 := HBB.out.1
     clear p0 c0 hpl hg
     go_wp2_with fail
     go_roundw
     case rel => exact ⟨k + 1, by omega, by go_num, HK5⟩
     case measure => simp [intOf]; omega
    ·have hdc1 : decide ((k : Int) + 1 < (nl : Int)) = false := decide_eq_false (by omega)
     have hkb : (k : Int) ≤ 10000 := by omega
     obtain ⟨hsc, _, _, _, _⟩ := snc_free HMA.out.laid HMA.out.roomy HMA.out.dead (by rw [HMA.out.ents, entsM_len]; omega)
     obtain ⟨F, G, hWA, hFG, hnp, hgo⟩ := HPLr.out.wal
     obtain ⟨hpl, pc⟩ := HPLr.out.cells No (fun x => x)
     have p2 := (pc wr (Kp.refl _ _)).2.2.1
     have hap := wSync_any wr d l kA s1 st1 F G hWA HF.out.hne
     obtain ⟨qs, hqs⟩ : ∃ qs, qs = sncS kA s1 st1 := ⟨_, rfl⟩
     unfold SncP at hap
     rw [← hqs] at hap hsc
     rw [hsc] at hap
     have HAP := Lib.hid hap
     have HGO := Lib.hid hgo
     have HQS := Lib.hid hqs
     unfold ptrV at p2
     clear hWA hFG hnp hgo pc hap hsc hqs hlt
     go_wp2_with fail
     refine HAP.out.mono ?_
     rintro e w5 ⟨rfl, hs5⟩
     obtain ⟨Z5, hz5, hf5, hkz5⟩ := HGO.out w5 _ _ hs5
     have HPL5 := Lib.hid hz5
     have HO5 := Lib.hid (HOr.out.keep hkz5 fun g hg => (HFR.out g hg).1)
     have HFR5 := Lib.hid (show ∀ g, (Value.slice a3 L.length c3).ownBlock = some g → ¬ Z5 g from fun g hg hz => (hf5 g hz).elim (HFR.out g hg).1 fun h1 => by have := HOr.out.lt g hg; omega)
     clear hs5 hz5 hf5 hkz5 HGO HAP p2 hpl hdc1 hkb
     obtain ⟨F, hDA, hFZ, hnp, hgo⟩ := HPL5.out.diskX
     obtain ⟨hpl, pc⟩ := HPL5.out.cells No (fun x => x)
     have p0 := (pc w5 (Kp.refl _ _)).1
     have hme := many_end HMA.out hn3 0 1 (by rw [← HQS.out]; exact hDA.le)
     rw [← HQS.out] at hme
     have HME := Lib.hid hme
     have HCR := Lib.hid (Crash_any w5 d qs.2.1 F hDA 0 (by decide) (by decide) 1)
     have HGO := Lib.hid hgo
     unfold ptrV at p0
     clear hDA hFZ hnp hgo pc hme
     go_wp2_with fail
     refine HCR.out.mono ?_
     rintro e w6 ⟨rfl, hd6, hk6⟩
     obtain ⟨s6, hs6⟩ : ∃ s6, s6 = crS qs.2.1 0 1 := ⟨_, rfl⟩
     rw [← hs6] at hd6 HME
     obtain ⟨Z6, hz6, hf6, hkz6, _⟩ := HGO.out w6 _ _ hd6 (Foot.refl _ _) hk6
     have HPL6 := Lib.hid hz6
     have HO6 := Lib.hid (HO5.out.keep hkz6 fun g hg => HFR5.out g hg)
     have HFR6 := Lib.hid (show ∀ g, (Value.slice a3 L.length c3).ownBlock = some g → ¬ Z6 g from fun g hg hz => (hf6 g hz).elim (HFR5.out g hg) fun h1 => by have := HO5.out.lt g hg; omega)
     clear hd6 hk6 hs6 hz6 hf6 hkz6 HGO HCR p0 hpl
     obtain ⟨F, hDA, hFZ, hnp, _⟩ := HPL6.out.diskX
     obtain ⟨hpl, pc⟩ := HPL6.out.cells No (fun x => x)
     have p0 := (pc w6 (Kp.refl _ _)).1
     obtain ⟨_, hfr6, hr6, s', st', ho, hop, hents, hsegs⟩ := HME.out
     have hof := open_any w6 d kA s6 F hDA hfr6.ok (HPW.out.keepS HPL6.out.kp fun x => x) (fun hf => by have := (hFZ _ hf).1; have := HPW.out.lt; omega) (by decide) (by decide) (by rw [hr6]; decide)
     rw [ho] at hof
     unfold kA at hof
     have HOF := Lib.hid hof
     have hfit := hop.fit (by rw [hr6]; decide) hDA.few.1 hDA.few.2.1 hDA.few.2.2
     have HFIT := Lib.hid hfit
     have HES := Lib.hid (And.intro hents hsegs)
     have HFZ := Lib.hid hFZ
     unfold ptrV at p0
     clear hDA hFZ hnp pc hfr6 hr6 ho hop hents hsegs hof hfit
     go_wp2_with fail
     refine HOF.out.mono ?_
     intro e w7 hq
     unfold OpnP at hq
     rcases hq with ⟨_, lm, F7, G7, rfl, q1, q2, q3, q4⟩ | ⟨hq, _⟩
     ·simp only at q1
      have HK7 := Lib.hid (show Kp No w w7 from HPL6.out.kp.trans q4 fun i hi hf => by have := (HFZ.out i hf).1; omega)
      have HO7 := Lib.hid (HO6.out.keep q4 fun g hg hf => HFR6.out g hg (HFZ.out g hf).2)
      have HLM := Lib.hid q1.log
      obtain ⟨m2, hm2⟩ : ∃ m2, m2 = st'.synced := ⟨_, rfl⟩
      have hm2b : m2 ≤ n := by have := HFIT.out.hsl; rw [HES.out.1, entsM_len] at this; omega
      have hnx := next_any w7 lm d _ st' G7 HLM.out (by rw [HES.out.1, entsM_len]; omega) (by omega)
      rw [HES.out.1, entsM_len, ← hm2] at hnx
      have e1 : ((n + 1 : Nat) : Int) = (n : Int) + 1 := by omega
      rw [e1] at hnx
      obtain ⟨m1, hm1⟩ : ∃ m1, m1 = n - 1 := ⟨_, rfl⟩
      have hjs : m1 < st'.ents.length := by rw [HES.out.1, entsM_len]; omega
      have hen := fun V (hV : Kp No w7 V) => Entry_any V lm d _ st' G7 (HLM.out.keep_no hV) (n : Int)
      have hee : entS st' (n : Int) = (rowM size m1, 0) := by
       rw [ent_yes hjs (by omega)]
       have e9 : st'.ents[m1] = rowM size m1 := by
        simp only [HES.out.1, entsM, List.getElem_map, List.getElem_range]
       rw [e9]
      rw [hee] at hen
      unfold EntP at hen
      simp only [rowM_len] at hen
      have HNX := Lib.hid hnx
      have HEN := Lib.hid hen
      have HM1 := Lib.hid hm1
      clear q1 q2 q3 q4 hm2 hnx e1 hjs hen hee hm1 HOF HPL6 HFR6 HO6 HFZ p0 hpl
      go_wp2_with fail
      refine HNX.out.mono ?_
      rintro e w8 ⟨rfl, hk8⟩
      have HC := Lib.hid (HEN.out w8 hk8)
      have HK8 := Lib.hid hk8
      clear hk8 HNX HEN
      go_wp2_with fail
      refine HC.out.mono ?_
      rintro e w9 ⟨v, rfl, ho9, hk9, _⟩
      obtain ⟨a9, c9, rfl, hc9, _⟩ := ho9.rd
      have HK9 := Lib.hid (HK8.out.trans_same hk9)
      have HO9 := Lib.hid ho9
      have HN9 := Lib.hid (HO7.out.keep HK9.out fun _ _ x => x)
      clear ho9 hk9 HC HK8
      obtain ⟨h0, hf1⟩ := many_first HMA.out hn1
      have h0L : 0 < L.length := by rw [← HL.out.2.1, HL.out.2.2]; exact h0
      have hnl0 : 0 < nl := by rw [HL.out.2.1]; exact h0L
      obtain ⟨g, off, rfl, hg, _, hgc⟩ := rd_name HN9.out (m := 0) h0L
      obtain ⟨nm0, hnm0⟩ : ∃ nm0, nm0 = bnm ⟨#[97]⟩ 1 := ⟨_, rfl⟩
      have hl0 : L[0] = nm0 := by
       have e := HL.out.1
       subst e
       rw [List.getElem_map, hf1, hnm0]
       rfl
      rw [hl0] at hgc
      have n0 := fun V (hV : Kp No w9 V) => (hV.cell (p := ⟨g, off + 0, none⟩) hg fun x => x).trans hgc
      have HWN := Lib.hid (fun n1 => wNames_any (w9.drewN n1) lm d ⟨#[97]⟩ st' G7 (HLM.out.keep_no (HK9.out.drewN n1)) (by have := HFIT.out.segs; omega))
      have hLL : (st'.segs.map fun z => bnm ⟨#[97]⟩ z.1) = L := by rw [HES.out.2, HL.out.1]; rfl
      rw [hLL] at HWN
      unfold NmP at HWN
      rw [← HL.out.2.1] at HWN
      have hnmc : ∀ V, Calls Tryz.prog 29 #[.string ⟨#[97]⟩, .int .i64 1] V fun e w' => e = .returned (.string nm0) ∧ Kp No V w' := fun V => by
       rw [hnm0]
       exact rName_bnm ⟨#[97]⟩ (by decide) 1 (by decide) V
      have HNM := Lib.hid hnmc
      clear hnmc
      rw [Nat.add_zero] at n0
      clear h0 hf1 h0L hgc hl0 hnm0 hLL
      rcases Nat.eq_zero_or_pos size with hz | hz
      ·have hzb : ((size : Int) == 0) = true := by simp [hz]
       clear hz
       go_upto_region 30 with fail
       refine wp_region_held' (Kp No w9) [0,0,0,0,0,0,0,0,0,0,1,0,0,0,0,0,0,0,0,0,0,0,0,0,0,0,0,1,0,0,0,0,0,2,0,2,0,0,0,0,0,2,0,0,0,2,0,0] [0,1,2,3,4,5,6,7,8,9,11,10,12,13,14,15,16,17,18,19,20,21,22,23,24,25,26,27,28,29,30,31,32,34,33,35,36,37,38,39,40,41,42,43,44,45,46,47] (by kernel_rfl) (by kernel_rfl) (fun _ n h => h.drewN n) (Kp.refl _ _) ?_
       repeat (first
        | (apply wpOrd_skip rfl (by decide) rfl; (focus (go_simp; rfl)))
        | (apply wpOrd_pure rfl rfl rfl; (focus (intro _ _; go_simp; (try go_ints); rfl)); (focus (go_simp; rfl)))
        | (apply wpOrd_read rfl rfl rfl; (focus (intro _; go_simp; (try go_ints); rfl)); (focus (go_simp; rfl))))
       refine wpOrd_eff rfl rfl (fun n1 => ?_)
       have hc := HWN.out n1
       clear HWN
       go_wp2_with fail
       with_reducible refine hc.mono ?_
       rintro e w10 ⟨a10, c10, rfl, hr10, hk10⟩
       clear hc
       have HK10 := Lib.hid (show Kp No w9 w10 from hk10.of_drewN)
       have hrr := (HN9.out.keep HK10.out fun _ _ x => x).rd'
       have hte := fun n3 => texts_same a10 (some ⟨g, off, none⟩) c10 c3 (w10.drewN n3).heap.size (w10.drewN n3).heap.size L (w10.drewN n3) hr10 hrr (by rw [← HL.out.2.1]; omega)
       rw [← HL.out.2.1] at hte
       have HT := Lib.hid hte
       clear hr10 hk10 hrr hte
       go_wp2_with fail
       refine ⟨HK10.out, ?_⟩
       repeat (first
        | (apply wpOrd_skip rfl (by decide) rfl; (focus (go_simp; rfl)))
        | (apply wpOrd_pure rfl rfl rfl; (focus (intro _ _; go_simp; (try go_ints); rfl)); (focus (go_simp; rfl)))
        | (apply wpOrd_read rfl rfl rfl; (focus (intro _; go_simp; (try go_ints); rfl)); (focus (go_simp; rfl))))
       refine wpOrd_eff rfl rfl (fun n3 => ?_)
       have hc := HT.out n3
       clear HT
       go_wp2_with fail
       with_reducible refine hc.mono ?_
       rintro e w11 ⟨rfl, n4, rfl⟩
       clear hc
       obtain ⟨V4, hV4⟩ : ∃ V, V = (w10.drewN n3).drewN n4 := ⟨_, rfl⟩
       have HK11 := Lib.hid (show Kp No w9 V4 by rw [hV4]; exact (HK10.out.drewN n3).drewN n4)
       rw [← hV4]
       clear hV4
       go_wp2_with fail
       refine ⟨HK11.out, ?_⟩
       repeat (first
        | (apply wpOrd_skip rfl (by decide) rfl; (focus (go_simp; rfl)))
        | (apply wpOrd_pure rfl rfl rfl; (focus (intro _ _; go_simp; (try go_ints); rfl)); (focus (go_simp; rfl)))
        | (apply wpOrd_read rfl rfl rfl; (focus (intro _; go_simp; (try go_ints); rfl)); (focus (go_simp; rfl))))
       refine wpOrd_eff rfl rfl (fun n3 => ?_)
       have hc := HNM.out (V4.drewN n3)
       go_wp2_with fail
       with_reducible refine hc.mono ?_
       rintro e w12 ⟨rfl, hk12⟩
       clear hc
       have HK12 := Lib.hid (HK11.out.trans_same (show Kp No V4 w12 from hk12.of_drewN))
       clear hk12
       go_wp2_with fail
       refine ⟨HK12.out, ?_⟩
       repeat (first
        | (apply wpOrd_skip rfl (by decide) rfl; (focus (go_simp; rfl)))
        | (apply wpOrd_pure rfl rfl rfl; (focus (intro _ _; go_simp; (try go_ints); rfl)); (focus (go_simp; rfl)))
        | (apply wpOrd_read rfl rfl rfl; (focus (intro _; go_simp; (try go_ints); rfl)); (focus (go_simp; rfl))))
       refine wpOrd_eff rfl rfl (fun n3 => ?_)
       have hc := wknown_any (w12.drewN n3) (HPW.out.keepS ((HK7.out.trans_same (HK9.out.trans_same HK12.out)).drewN n3) fun x => x)
       go_wp2_with fail
       with_reducible refine hc.mono ?_
       rintro e w13 ⟨rfl, hk13⟩
       clear hc
       have HK13 := Lib.hid (HK12.out.trans_same (show Kp No w12 w13 from hk13.of_drewN))
       clear hk13
       go_wp2_with fail
       refine ⟨HK13.out, ?_⟩
       repeat (first
        | (apply wpOrd_skip rfl (by decide) rfl; (focus (go_simp; rfl)))
        | (apply wpOrd_pure rfl rfl rfl; (focus (intro _ _; go_simp; (try go_ints); rfl)); (focus (go_simp; rfl)))
        | (apply wpOrd_read rfl rfl rfl; (focus (intro _; go_simp; (try go_ints); rfl)); (focus (go_simp; rfl))))
       refine wpOrd_nil (fun nq => ?_)
       have HKF := Lib.hid (show Kp No w (w13.drewN nq) from (HK7.out.trans_same (HK9.out.trans_same HK13.out)).drewN nq)
       go_wp2_with fail
       go_ret
       exact ⟨rfl, HKF.out⟩
      ·obtain ⟨m, hm⟩ : ∃ m, m = m1 % size := ⟨_, rfl⟩
       have hms : m < size := by rw [hm]; exact Nat.mod_lt _ hz
       have htm : (m1 : Int).tmod (size : Int) = (m : Int) := by rw [hm]; exact (Int.ofNat_tmod m1 size).symm
       have hwr := wrap_u8 m1
       have hn1' : (n : Int) - 1 = (m1 : Int) := by have := HM1.out; omega
       obtain ⟨uv, huv⟩ : ∃ uv : Int, uv = ((UInt8.ofNat m1).toNat : Int) := ⟨_, rfl⟩
       rw [← huv] at hwr
       have hget : (u8s (rowM size m1))[m]? = some (.int .u8 uv) := by
        unfold u8s rowM
        rw [List.getElem?_map, ← hm, List.getElem?_set_self (by simpa using hms), huv]
        rfl
       obtain ⟨g9, off9, rfl, hg9, _, hgc9⟩ := HO9.out.rd'.at_ hget
       have b0 := fun V (hV : Kp No w9 V) => (hV.cell (p := ⟨g9, off9 + m, none⟩) hg9 fun x => x).trans hgc9
       have hzb : ((size : Int) == 0) = false := by simp; omega
       have hzp : ¬ size = 0 := by omega
       clear hm huv hget hgc9 hz
       go_upto_region 30 with fail
       refine wp_region_held' (Kp No w9) [0,0,0,0,0,0,0,0,0,0,1,0,0,0,0,0,0,0,0,0,0,0,0,0,0,0,0,1,0,0,0,0,0,2,0,2,0,0,0,0,0,2,0,0,0,2,0,0] [0,1,2,3,4,5,6,7,8,9,11,10,12,13,14,15,16,17,18,19,20,21,22,23,24,25,26,27,28,29,30,31,32,34,33,35,36,37,38,39,40,41,42,43,44,45,46,47] (by kernel_rfl) (by kernel_rfl) (fun _ n h => h.drewN n) (Kp.refl _ _) ?_
       repeat (first
        | (apply wpOrd_skip rfl (by decide) rfl; (focus (go_simp; rfl)))
        | (apply wpOrd_pure rfl rfl rfl; (focus (intro _ _; go_simp; (try go_ints); rfl)); (focus (go_simp; rfl)))
        | (apply wpOrd_read rfl rfl rfl; (focus (intro _; go_simp; (try go_ints); rfl)); (focus (go_simp; rfl))))
       refine wpOrd_eff rfl rfl (fun n1 => ?_)
       have hc := HWN.out n1
       clear HWN
       go_wp2_with fail
       with_reducible refine hc.mono ?_
       rintro e w10 ⟨a10, c10, rfl, hr10, hk10⟩
       clear hc
       have HK10 := Lib.hid (show Kp No w9 w10 from hk10.of_drewN)
       have hrr := (HN9.out.keep HK10.out fun _ _ x => x).rd'
       have hte := fun n3 => texts_same a10 (some ⟨g, off, none⟩) c10 c3 (w10.drewN n3).heap.size (w10.drewN n3).heap.size L (w10.drewN n3) hr10 hrr (by rw [← HL.out.2.1]; omega)
       rw [← HL.out.2.1] at hte
       have HT := Lib.hid hte
       clear hr10 hk10 hrr hte
       go_wp2_with fail
       refine ⟨HK10.out, ?_⟩
       repeat (first
        | (apply wpOrd_skip rfl (by decide) rfl; (focus (go_simp; rfl)))
        | (apply wpOrd_pure rfl rfl rfl; (focus (intro _ _; go_simp; (try go_ints); rfl)); (focus (go_simp; rfl)))
        | (apply wpOrd_read rfl rfl rfl; (focus (intro _; go_simp; (try go_ints); rfl)); (focus (go_simp; rfl))))
       refine wpOrd_eff rfl rfl (fun n3 => ?_)
       have hc := HT.out n3
       clear HT
       go_wp2_with fail
       with_reducible refine hc.mono ?_
       rintro e w11 ⟨rfl, n4, rfl⟩
       clear hc
       obtain ⟨V4, hV4⟩ : ∃ V, V = (w10.drewN n3).drewN n4 := ⟨_, rfl⟩
       have HK11 := Lib.hid (show Kp No w9 V4 by rw [hV4]; exact (HK10.out.drewN n3).drewN n4)
       rw [← hV4]
       clear hV4
       go_wp2_with fail
       refine ⟨HK11.out, ?_⟩
       repeat (first
        | (apply wpOrd_skip rfl (by decide) rfl; (focus (go_simp; rfl)))
        | (apply wpOrd_pure rfl rfl rfl; (focus (intro _ _; go_simp; (try go_ints); rfl)); (focus (go_simp; rfl)))
        | (apply wpOrd_read rfl rfl rfl; (focus (intro _; go_simp; (try go_ints); rfl)); (focus (go_simp; rfl))))
       refine wpOrd_eff rfl rfl (fun n3 => ?_)
       have hc := HNM.out (V4.drewN n3)
       go_wp2_with fail
       with_reducible refine hc.mono ?_
       rintro e w12 ⟨rfl, hk12⟩
       clear hc
       have HK12 := Lib.hid (HK11.out.trans_same (show Kp No V4 w12 from hk12.of_drewN))
       clear hk12
       go_wp2_with fail
       refine ⟨HK12.out, ?_⟩
       repeat (first
        | (apply wpOrd_skip rfl (by decide) rfl; (focus (go_simp; rfl)))
        | (apply wpOrd_pure rfl rfl rfl; (focus (intro _ _; go_simp; (try go_ints); rfl)); (focus (go_simp; rfl)))
        | (apply wpOrd_read rfl rfl rfl; (focus (intro _; go_simp; (try go_ints); rfl)); (focus (go_simp; rfl))))
       refine wpOrd_eff rfl rfl (fun n3 => ?_)
       have hc := wknown_any (w12.drewN n3) (HPW.out.keepS ((HK7.out.trans_same (HK9.out.trans_same HK12.out)).drewN n3) fun x => x)
       go_wp2_with fail
       with_reducible refine hc.mono ?_
       rintro e w13 ⟨rfl, hk13⟩
       clear hc
       have HK13 := Lib.hid (HK12.out.trans_same (show Kp No w12 w13 from hk13.of_drewN))
       clear hk13
       go_wp2_with fail
       refine ⟨HK13.out, ?_⟩
       repeat (first
        | (apply wpOrd_skip rfl (by decide) rfl; (focus (go_simp; rfl)))
        | (apply wpOrd_pure rfl rfl rfl; (focus (intro _ _; go_simp; (try go_ints); rfl)); (focus (go_simp; rfl)))
        | (apply wpOrd_read rfl rfl rfl; (focus (intro _; go_simp; (try go_ints); rfl)); (focus (go_simp; rfl))))
       refine wpOrd_nil (fun nq => ?_)
       have HKF := Lib.hid (show Kp No w (w13.drewN nq) from (HK7.out.trans_same (HK9.out.trans_same HK13.out)).drewN nq)
       go_wp2_with fail
       go_ret
       exact ⟨rfl, HKF.out⟩
     ·exact absurd rfl hq
end Go.Proofs.YtdibkdgafidjgaaGreatDoor

