/-
  The law WalTwice, walked.
-/
import Derived.Test.YtdibkdgafidjgaaGreatDoorWc4
import Derived.Test.YtdibkdgafidjgaaGreatDoorWd0
import Derived.Test.YtdibkdgafidjgaaGreatDoorWRowsM
import Derived.Test.YtdibkdgafidjgaaGreatDoorDCopyM
namespace Go.Proofs.YtdibkdgafidjgaaGreatDoor
open Go.RowKit Go.Mer
theorem perm_get {l l' : Files} (hp : l'.Perm l) (hn : (l.map (·.1)).Nodup) (y : ByteArray) : gget l' y = gget l y := by
 have hn' : (l'.map (·.1)).Nodup := (hp.map (·.1)).nodup_iff.2 hn
 cases h : gget l y with
 | none =>
  rw [gget_none_iff] at h ⊢
  exact fun hm => h ((hp.map (·.1)).mem_iff.1 hm)
 | some c => exact gget_some hn' (k := y) (v := c) (hp.mem_iff.2 (gget_mem h))
theorem nm_permE {l l' : Files} (hp : l'.Perm l) : nmS l' = nmS l := by
 unfold nmS
 rw [show namesOf (l'.map (·.1.data.toList)) = nmS l from nm_eq (hp.map (·.1.data.toList))]
 rfl
theorem open_copy {P : ByteArray} {s s' : DSt} (h : Free s) (hf : s'.fuse = none) (hp : s'.files.Perm s.files) : Free s' ∧ (openS P s' (nmS s'.files)).2.2.ents = (openS P s (nmS s.files)).2.2.ents := by
 have h' : Free s' := ⟨hf, (hp.map (·.1)).nodup_iff.2 h.nodup, fun q hq => h.ok q (hp.mem_iff.1 hq)⟩
 refine ⟨h', ?_⟩
 obtain ⟨a1, b1, c1, e1⟩ := open_free P h
 obtain ⟨a2, b2, c2, e2⟩ := open_free P h'
 rw [c1, c2]
 show b2.ents = b1.ents
 rw [e1.scan.1, e2.scan.1, nm_permE hp, scan_data (l := s.files) (l' := s'.files) _ _ fun y _ => by unfold rdS; rw [perm_get hp h.nodup]]
theorem five_room (s : DSt) (ns : List ByteArray) (c : Int) (fs : Files) : (five s ns c fs).2.room = s.room := by
 unfold five
 split
 ·rfl
 ·split
  ·split
   ·rfl
   ·rfl
  ·rfl
theorem rmAll_room : ∀ (R : List ByteArray) (s : DSt), (rmAll s R).2.room = s.room
 | [], _ => rfl
 | x :: R, s => by
  rw [rmAll]
  split
  ·rw [rmAll_room R]; exact five_room _ _ _ _
  ·exact five_room _ _ _ _
theorem syAll_room : ∀ (R : List ByteArray) (s : DSt), (syAll s R).2.room = s.room
 | [], _ => rfl
 | x :: R, s => by
  rw [syAll]
  split
  ·rw [syAll_room R]; exact five_room _ _ _ _
  ·exact five_room _ _ _ _
theorem endOne_room (P : ByteArray) (s : DSt) (S : List (Nat × Nat)) (x : ByteArray) : (endOne P s S x).2.room = s.room := by
 unfold endOne
 split
 ·exact five_room _ _ _ _
 ·split
  ·exact five_room _ _ _ _
  ·exact five_room _ _ _ _
theorem end0_room (P : ByteArray) (s : DSt) (S : List (Nat × Nat)) (r : List ByteArray) : (end0 P s S r).2.room = s.room := by
 cases r with
 | nil => rfl
 | cons x r =>
  show (endS P s S x r).2.room = s.room
  unfold endS
  split
  ·rw [endOne_room, rmAll_room]
  ·rw [rmAll_room]
theorem openS_room (P : ByteArray) (s : DSt) (N : List ByteArray) : (openS P s N).2.1.room = s.room := by
 unfold openS
 simp only
 split
 ·rw [syAll_room, end0_room]
 ·rw [end0_room]
theorem openS_ok {P : ByteArray} {s : DSt} (hok : FilesOk s.files) (hn : (s.files.map (·.1)).Nodup) (hf : FullF s.files) (hr : s.room ≤ 1048576) : FilesOk (openS P s (nmS s.files)).2.1.files ∧ (openS P s (nmS s.files)).2.1.room ≤ 1048576 := by
 refine ⟨fun p hp => ?_, by rw [openS_room]; exact hr⟩
 obtain ⟨q, hq, e⟩ := List.mem_map.1 ((open_again (P := P) hn hf).1.sub p.1 (List.mem_map.2 ⟨p, hp, rfl⟩))
 rw [← e]
 exact hok q hq
set_option maxRecDepth 100000 in
set_option maxHeartbeats 8000000 in
theorem wtwice_any (w : World) (hpow : Pow w) (a : Option Addr) (cap : Nat) (R : List Row) (hR : RowsAt w a R) (hl : R.length ≤ 140737488351232) (synced keep : Int) (hk0 : -9223372036854775808 ≤ keep) (hk1 : keep ≤ 9223372036854775807) (t : UInt8) (fuse again : Int) (ha0 : -9223372036854775808 ≤ again) (ha1 : again ≤ 9223372036854775807) :
  Calls Tryz.prog 6 #[.slice a R.length cap, .int .i64 synced, .int .i64 keep, .int .u8 (t.toNat : Int), .int .i64 fuse, .int .i64 again] w fun e w' => e = .returned (.bool true) ∧ Kp No w w' := by
 have HR := Lib.hid hR
 have HPW := Lib.hid hpow
 have HKN := Lib.hid (wknown_any w hpow)
 have HB := Lib.hid (And.intro (And.intro hk0 hk1) (And.intro ha0 ha1))
 obtain ⟨tv, htv⟩ : ∃ tv : Int, tv = (t.toNat : Int) := ⟨_, rfl⟩
 rw [← htv]
 have HTV := Lib.hid htv
 clear hR hpow hk0 hk1 ha0 ha1 htv
 go_enter Tryz.func6, Tryz.ntmps6
 go_wp2_with fail
 go_loopg [13, 14] R.length (fun g n i wr => ∃ j : Nat, j ≤ R.length ∧ g = R.length - j ∧ i = .int .i64 (j : Int) ∧ n = .int .i64 (w5 (R.take j) : Int) ∧ w = wr)
 case atStart => exact ⟨0, Nat.zero_le _, rfl, rfl, rfl, rfl⟩
 case round =>
  obtain ⟨j, hj, rfl, rfl, rfl, rfl⟩ := hrel
  by_cases hlt : j < R.length
  ·obtain ⟨g0, off0, rfl, hg0, hc0, hr0, hm0⟩ := HR.out.at_ (Kp.refl _ _) hlt
   have hst := Lib.hid (w5_step R hlt)
   obtain ⟨Lj, hLj⟩ : ∃ Lj, Lj = R[j].data.length := ⟨_, rfl⟩
   rw [← hLj] at hst hc0 hm0
   clear hLj hr0
   by_cases hn : w5 (R.take j) ≤ 12000
   ·go_wp2_with fail
    go_roundg (R.length - (j + 1))
    case measure => omega
    case rel => exact ⟨j + 1, by omega, rfl, by go_num, by rw [hst.out]; first | (push_cast; rfl) | (go_num; omega) | (push_cast; simp [Int.add_assoc]), rfl⟩
   ·go_wp2_with fail
    refine HKN.out.mono ?_
    rintro e w' ⟨rfl, hk⟩
    have HKK := Lib.hid hk
    clear hk
    go_wp2_with fail
    go_ret
    exact ⟨rfl, HKK.out⟩
  ·by_cases hn : w5 (R.take j) ≤ 12000
   ·obtain rfl : j = R.length := by omega
    rw [List.take_length] at hn ⊢
    have hlw := w5_len R
    clear hlt hj
    obtain ⟨T, hT⟩ : ∃ T, T = w5 R := ⟨_, rfl⟩
    have HT := Lib.hid hT
    rw [← hT] at hn hlw ⊢
    clear hT
    rcases (show (decide ((100 : Int) < (R.length : Int)) = true) ∨ (decide ((100 : Int) < (R.length : Int)) = false ∧ decide (fuse < 0) = true) ∨ (decide ((100 : Int) < (R.length : Int)) = false ∧ decide (fuse < 0) = false ∧ decide (100 < fuse) = true) ∨ (R.length ≤ 100 ∧ 0 ≤ fuse ∧ fuse ≤ 100) by simp only [decide_eq_true_eq, decide_eq_false_iff_not]; omega) with hb | ⟨hb1, hb2⟩ | ⟨hb1, hb2, hb3⟩ | ⟨hb1, hb2, hb3⟩
    ·go_wp2_with fail
     refine HKN.out.mono ?_
     rintro e w' ⟨rfl, hk⟩
     have HKK := Lib.hid hk
     clear hk
     go_wp2_with fail
     go_ret
     exact ⟨rfl, HKK.out⟩
    ·go_wp2_with fail
     refine HKN.out.mono ?_
     rintro e w' ⟨rfl, hk⟩
     have HKK := Lib.hid hk
     clear hk
     go_wp2_with fail
     go_ret
     exact ⟨rfl, HKK.out⟩
    ·go_wp2_with fail
     refine HKN.out.mono ?_
     rintro e w' ⟨rfl, hk⟩
     have HKK := Lib.hid hk
     clear hk
     go_wp2_with fail
     go_ret
     exact ⟨rfl, HKK.out⟩
    ·have HST := Lib.hid (start_any w 1048576 HPW.out (Nat.le_refl _))
     clear HKN
     go_wp2_with fail
     refine HST.out.mono ?_
     rintro e w2 ⟨p, d, r, l, x, Z0, rfl, hPL, hFit0, _⟩
     obtain ⟨s0, hs0⟩ : ∃ s0 : DSt, s0 = ⟨1048576, none, []⟩ := ⟨_, rfl⟩
     rw [← hs0] at hPL hFit0
     have HPL0 := Lib.hid hPL
     have HF0 := Lib.hid hFit0
     clear hPL hFit0 hs0 HST
     go_wp2_with fail
     go_loopw [17] (fun s17 wr => ∃ (i : Nat) (s1 : DSt) (st1 : LSt) (Z : Nat → Prop), i ≤ R.length ∧ s17 = .int .i64 (i : Int) ∧ Hid (PL w wr p d r l x kA s1 st1 s0 st0 Z) ∧ Hid (Fit i kA s1 st1)) (fun s17 _ => R.length - (intOf s17).toNat)
     case atStart => exact ⟨0, s0, st0, Z0, Nat.zero_le _, rfl, HPL0, HF0⟩
     case round =>
      obtain ⟨i, s1, st1, Z, hi, rfl, HPL, HF⟩ := hrel
      have HKr := Lib.hid HPL.out.kp
      by_cases hlt : i < R.length
      ·obtain ⟨F, G, hWA, hFG, hnp, hgo⟩ := HPL.out.wal
       obtain ⟨hpl, pc⟩ := HPL.out.cells (Both F G) hnp
       have p2 := fun V hV => (pc V hV).2.2.1
       obtain ⟨g0, off0, rfl, hg0, hc0, hr0, hm0⟩ := HR.out.at_ HKr.out hlt
       obtain ⟨row, hrow⟩ : ∃ row, row = R[i] := ⟨_, rfl⟩
       have hrl : row.data.length ≤ 12000 := by rw [hrow]; have := w5_mem (List.getElem_mem hlt); have := HT.out; omega
       rw [← hrow] at hc0 hr0 hm0
       have hng : ¬ Both F G g0 := fun hh => by have := (hFG g0 hh).1; omega
       have hg0r : g0 < wr.heap.size := HKr.out.lt hg0
       have c0 := fun V (hV : Kp (Both F G) wr V) => (hV.cell (p := ⟨g0, off0 + i, none⟩) hg0r hng).trans hc0
       have hb9 := HF.out.ents
       have hb8 := HF.out.segs
       have hap := fun n1 => wAppend_any (wr.drewN n1) d l kA s1 st1 F G (hWA.no ((Kp.refl No wr).drewN n1)) HF.out.hne (HPW.out.keepS (HKr.out.drewN n1) (fun x => x))
        (fun hf => by have := (hFG _ (.inl hf)).1; have := HPW.out.lt; omega) (fun hf => by have := (hFG _ (.inr hf)).1; have := HPW.out.lt; omega) (by decide) (by omega) (by omega) (fun z hz => by have := HF.out.big z hz; omega)
        row.a row.cap row.data (fun V hV => by
         have hkw : Kp No w V := HKr.out.trans hV.of_drewN fun k hk hh => by have := (hFG k hh).1; omega
         exact (hr0.keep (hV.of_drewN) (fun k hk hh => by have := (hFG k hh).1; omega)).mono hkw.size (Nat.le_refl _)) (by omega)
       unfold AppP at hap
       obtain ⟨RL, hRL⟩ : ∃ RL, RL = row.data.length := ⟨_, rfl⟩
       obtain ⟨q1, hq1⟩ : ∃ q1, q1 = appS kA s1 st1 row.data := ⟨_, rfl⟩
       rw [← hRL, ← hq1] at hap
       rw [← hRL] at c0
       have HAP := Lib.hid hap
       have HGO := Lib.hid hgo
       have HQ1 := Lib.hid hq1
       unfold ptrV at p2
       clear hWA hFG hgo hnp pc hc0 hr0 hrow hng hap hRL hq1 hrl hm0 hb9 hb8
       go_upto_region 14 with fail
       refine wp_region_held' (Kp (Both F G) wr) [0,0,0,0,0,0,0,0,2] [0,1,2,3,4,5,6,7,8] (by kernel_rfl) (by kernel_rfl) (fun _ n h => h.drewN n) (Kp.refl _ _) ?_
       repeat (first
        | (apply wpOrd_skip rfl (by decide) rfl; (focus (go_simp; rfl)))
        | (apply wpOrd_pure rfl rfl rfl; (focus (intro _ _; go_simp; (try go_ints); rfl)); (focus (go_simp; rfl)))
        | (apply wpOrd_read rfl rfl rfl; (focus (intro _; go_simp; (try go_ints); rfl)); (focus (go_simp; rfl))))
       refine wpOrd_eff rfl rfl (fun n1 => ?_)
       have hc := HAP.out n1
       clear HAP
       go_wp2_with fail
       with_reducible refine hc.mono ?_
       rintro e w3 ⟨rfl, hs3⟩
       clear hc
       have hs3' : SaidW wr d l kA F G q1.2.1 q1.2.2 w3 := SaidW.from hs3 ((Kp.refl No wr).drewN n1)
       have HK3 := Lib.hid hs3'.kp
       obtain ⟨Z3, hz3, _, _⟩ := HGO.out w3 _ _ hs3'
       have HPL3 := Lib.hid hz3
       have HF3 := Lib.hid (show Fit (i + 1) kA q1.2.1 q1.2.2 by rw [HQ1.out]; exact fit_app HF.out (by omega) _)
       clear hs3 hs3' hz3 HGO
       go_wp2_with fail
       refine ⟨HK3.out, ?_⟩
       refine wpOrd_nil (fun nq => ?_)
       obtain ⟨w4, hw4⟩ : ∃ V, V = w3.drewN nq := ⟨_, rfl⟩
       have HPL4 := Lib.hid (show PL w w4 p d r l x kA q1.2.1 q1.2.2 s0 st0 Z3 by rw [hw4]; exact HPL3.out.no ((Kp.refl No w3).drewN nq))
       rw [← hw4]
       clear hw4 c0 p2 hpl hg0r HQ1
       obtain ⟨s2, hs2⟩ : ∃ s2, s2 = q1.2.1 := ⟨_, rfl⟩
       obtain ⟨st2, hst2⟩ : ∃ st2, st2 = q1.2.2 := ⟨_, rfl⟩
       rw [← hs2, ← hst2] at HPL4 HF3
       clear hs2 hst2 HPL3
       by_cases hsy : (i : Int) < synced
       ·obtain ⟨F, G, hWA, hFG, hnp, hgo⟩ := HPL4.out.wal
        obtain ⟨hpl, pc⟩ := HPL4.out.cells No (fun x => x)
        have p2 := (pc w4 (Kp.refl _ _)).2.2.1
        have hap := wSync_any w4 d l kA s2 st2 F G hWA HF3.out.hne
        unfold SncP at hap
        obtain ⟨q2, hq2⟩ : ∃ q2, q2 = sncS kA s2 st2 := ⟨_, rfl⟩
        rw [← hq2] at hap
        have HAP := Lib.hid hap
        have HGO := Lib.hid hgo
        have HQ2 := Lib.hid hq2
        unfold ptrV at p2
        clear hWA hFG hnp hgo pc hap hq2
        go_wp2_with fail
        refine HAP.out.mono ?_
        rintro e w5 ⟨rfl, hs5⟩
        obtain ⟨Z5, hz5, _, _⟩ := HGO.out w5 _ _ hs5
        have HPL5 := Lib.hid hz5
        have HF5 := Lib.hid (show Fit (i + 1) kA q2.2.1 q2.2.2 by rw [HQ2.out]; exact fit_snc HF3.out)
        clear hs5 hz5 HGO HAP p2 hpl
        go_wp2_with fail
        go_roundw
        case rel => exact ⟨i + 1, _, _, _, by omega, by go_num, HPL5, HF5⟩
        case measure => simp [intOf]; omega
       ·go_wp2_with fail
        go_roundw
        case rel => exact ⟨i + 1, _, _, _, by omega, by go_num, HPL4, HF3⟩
        case measure => simp [intOf]; omega
      ·obtain rfl : i = R.length := by omega
       clear hlt hi
       obtain ⟨F, hDA, hFZ, hnp, hgo⟩ := HPL.out.diskX
       obtain ⟨hpl, pc⟩ := HPL.out.cells No (fun x => x)
       have p0 := (pc wr (Kp.refl _ _)).1
       have HND := Lib.hid (And.intro hDA.few.2.1 hDA.le)
       have hcr := Crash_any wr d s1 F hDA keep HB.out.1.1 HB.out.1.2 t
       rw [← HTV.out] at hcr
       have HCR := Lib.hid hcr
       have HGO := Lib.hid hgo
       unfold ptrV at p0
       clear hDA hFZ hnp hgo pc hcr
       go_wp2_with fail
       refine HCR.out.mono ?_
       rintro e w3 ⟨rfl, hd3, hk3⟩
       obtain ⟨Z3, hz3, _, _, _⟩ := HGO.out w3 _ _ hd3 (Foot.refl _ _) hk3
       obtain ⟨s3, hs3⟩ : ∃ s3, s3 = crS s1 keep t := ⟨_, rfl⟩
       rw [← hs3] at hz3 hd3
       have HPL3 := Lib.hid hz3
       have HS3 := Lib.hid (show Free s3 ∧ FullF s3.files ∧ s3.room ≤ 1048576 by
        rw [hs3]
        exact ⟨crS_free HF.out.ok HND.out.1 keep t, crS_isFull HND.out.2 keep t, HF.out.room⟩)
       have HCP := Lib.hid (Copy_any w3 d s3 F hd3)
       obtain ⟨hpl3, pc⟩ := hz3.cells No (fun x => x)
       have p0 := (pc w3 (Kp.refl _ _)).1
       unfold ptrV at p0
       clear hd3 hk3 hz3 hs3 HCR HGO HND HF HPL pc hpl
       go_wp2_with fail
       refine HCP.out.mono ?_
       rintro e w4 ⟨do_, fs, rfl, hk4, hfs, FT, hDT, hFT⟩
       have HPL4 := Lib.hid (HPL3.out.no hk4)
       obtain ⟨hfrT, hsame⟩ := open_copy (P := kA) (s := s3) (s' := ⟨s3.room, none, fs⟩) HS3.out.1 rfl hfs
       obtain ⟨sT, stT, ho, hop⟩ := open_free kA hfrT
       have hfitT := hop.fit (by exact HS3.out.2.2) hDT.few.1 hDT.few.2.1 hDT.few.2.2
       rw [ho] at hsame
       have hot := open_any w4 do_ kA ⟨s3.room, none, fs⟩ FT hDT hfrT.ok (HPW.out.keepS HPL4.out.kp fun x => x) (fun hf => by have := hFT _ hf; have := HPL3.out.kp.size; have := HPW.out.lt; omega) (by decide) (by decide) HS3.out.2.2
       rw [ho] at hot
       unfold kA at hot
       have HOT := Lib.hid hot
       have HTT := Lib.hid (And.intro hsame hfitT)
       have HFT := Lib.hid (show ∀ k, FT k → ¬ Z3 k ∧ w.heap.size ≤ k from fun k hk => ⟨fun hz => by have := hFT k hk; have := (HPL3.out.zn k hz).2; omega, Nat.le_trans HPL3.out.kp.size (hFT k hk)⟩)
       clear hk4 hfs hDT hFT hfrT hsame ho hop hfitT hot HCP HPL3 p0 hpl3
       go_wp2_with fail
       refine HOT.out.mono ?_
       intro e w5 hq
       unfold OpnP at hq
       rcases hq with ⟨_, lt, F5, G5, rfl, q1, q2, q3, q4⟩ | ⟨hq, _⟩
       ·simp only at q1
        have HPL5 := Lib.hid (HPL4.out.other q4 HFT.out)
        have HLT := Lib.hid (show LogAt w5 lt do_ ⟨#[97]⟩ stT G5 ∧ ∀ k, G5 k → ¬ Z3 k from ⟨q1.log, fun k hg hz => by have := q3 k hg; have := (HPL4.out.zn k hz).2; omega⟩)
        clear q1 q2 q3 q4 HOT HPL4 HFT
        obtain ⟨F, hDA, hFZ, hnp, hgo⟩ := HPL5.out.diskX
        obtain ⟨hpl, pc⟩ := HPL5.out.cells No (fun x => x)
        have p0 := (pc w5 (Kp.refl _ _)).1
        have HFU := Lib.hid (Fuse_any w5 d s3 F hDA fuse (by omega))
        have HGO := Lib.hid hgo
        have HOW := Lib.hid hDA.own
        unfold ptrV at p0
        clear hDA hFZ hnp hgo pc
        go_wp2_with fail
        refine HFU.out.mono ?_
        rintro e w6 ⟨rfl, hd6, hk6⟩
        obtain ⟨Z6, hz6, hf6, hkz6, _⟩ := HGO.out w6 _ _ hd6 (Foot.refl _ _) (hk6.mono fun i _ (e : i = d) => e ▸ HOW.out)
        have HLT6 := Lib.hid (HLT.out.1.apart HLT.out.2 hkz6 hf6)
        have HPL6 := Lib.hid hz6
        clear hd6 hk6 hz6 hf6 hkz6 HGO HFU HOW HLT HPL5 p0 hpl
        obtain ⟨F, hDA, hFZ, hnp, hgo⟩ := HPL6.out.diskX
        obtain ⟨hpl, pc⟩ := HPL6.out.cells No (fun x => x)
        have p0 := (pc w6 (Kp.refl _ _)).1
        have hof := open_any w6 d kA (fuS s3 fuse) F hDA HS3.out.1.ok (HPW.out.keepS HPL6.out.kp fun x => x) (fun hf => by have := (hFZ _ hf).1; have := HPW.out.lt; omega) (by decide) (by decide) HS3.out.2.2
        obtain ⟨qo, hqo⟩ : ∃ qo, qo = openS kA (fuS s3 fuse) (nmS (fuS s3 fuse).files) := ⟨_, rfl⟩
        rw [← hqo] at hof
        unfold kA at hof
        have HOF := Lib.hid hof
        have HGO := Lib.hid hgo
        have HQO := Lib.hid hqo
        unfold ptrV at p0
        clear hDA hFZ hnp hgo pc hof hqo
        go_wp2_with fail
        refine HOF.out.mono ?_
        intro e w7 hq
        have hD7 : ∃ (F7 : Nat → Prop) (v : Value), e = .returned v ∧ DiskAt w7 d qo.2.1 F7 ∧ Foot F F7 w6 ∧ Kp F w6 w7 := by
         rcases hq with ⟨_, l7, F7, G7, e1, q1, q2, q3, q4⟩ | ⟨_, F7, e1, q1, q2, q4⟩
         ·exact ⟨F7, _, e1, q1.disk, q2, q4⟩
         ·exact ⟨F7, _, e1, q1, q2, q4⟩
        obtain ⟨F7, v7, rfl, hd7, hf7, hk7⟩ := hD7
        obtain ⟨Z7, hz7, hfz7, hkz7, _⟩ := HGO.out w7 _ _ hd7 hf7 hk7
        have HLT7 := Lib.hid (HLT6.out.1.apart HLT6.out.2 hkz7 hfz7)
        have HPL7 := Lib.hid hz7
        clear hq hd7 hf7 hk7 hz7 hfz7 hkz7 HGO HOF HLT6 HPL6 p0 hpl
        obtain ⟨F, hDA, hFZ, hnp, hgo⟩ := HPL7.out.diskX
        obtain ⟨hpl, pc⟩ := HPL7.out.cells No (fun x => x)
        have p0 := (pc w7 (Kp.refl _ _)).1
        have HND := Lib.hid hDA.few.2.1
        have HCR := Lib.hid (Crash_any w7 d qo.2.1 F hDA again HB.out.2.1 HB.out.2.2 0)
        have HGO := Lib.hid hgo
        have HOK := Lib.hid (show FilesOk qo.2.1.files ∧ qo.2.1.room ≤ 1048576 by rw [HQO.out]; exact openS_ok (s := fuS s3 fuse) HS3.out.1.ok HS3.out.1.nodup HS3.out.2.1 HS3.out.2.2)
        unfold ptrV at p0
        clear hDA hFZ hnp hgo pc
        go_wp2_with fail
        refine HCR.out.mono ?_
        rintro e w8 ⟨rfl, hd8, hk8⟩
        obtain ⟨s8, hs8⟩ : ∃ s8, s8 = crS qo.2.1 again 0 := ⟨_, rfl⟩
        rw [← hs8] at hd8
        obtain ⟨Z8, hz8, hfz8, hkz8, _⟩ := HGO.out w8 _ _ hd8 (Foot.refl _ _) hk8
        have HLT8 := Lib.hid (HLT7.out.1.apart HLT7.out.2 hkz8 hfz8)
        have HPL8 := Lib.hid hz8
        have hfr8 : Free s8 := by rw [hs8]; exact crS_free HOK.out.1 HND.out again 0
        have hr8 : s8.room ≤ 1048576 := by rw [hs8]; exact HOK.out.2
        have htw : (openS kA s8 (nmS s8.files)).2.2.ents = (openS kA s3 (nmS s3.files)).2.2.ents := by
         rw [hs8, HQO.out]
         exact open_twice (P := kA) HS3.out.1 HS3.out.2.1 fuse again
        obtain ⟨s9, st9, ho9, hop9⟩ := open_free kA hfr8
        rw [ho9] at htw
        have hfit9 := hop9.fit hr8 hd8.few.1 hd8.few.2.1 hd8.few.2.2
        obtain ⟨F8, hDA, hFZ, hnp, _⟩ := HPL8.out.diskX
        obtain ⟨hpl8, pc⟩ := HPL8.out.cells No (fun x => x)
        have hof := open_any w8 d kA s8 F8 hDA hfr8.ok (HPW.out.keepS HPL8.out.kp fun x => x) (fun hf => by have := (hFZ _ hf).1; have := HPW.out.lt; omega) (by decide) (by decide) hr8
        rw [ho9] at hof
        unfold kA at hof
        have HOF := Lib.hid hof
        have HE9 := Lib.hid (show st9.ents = stT.ents from htw.trans HTT.out.1.symm)
        have HF9 := Lib.hid hfit9
        have HFZ := Lib.hid hFZ
        have p0 := (pc w8 (Kp.refl _ _)).1
        unfold ptrV at p0
        clear hd8 hk8 hs8 hz8 hfz8 hkz8 hfr8 hr8 htw ho9 hop9 hfit9 hDA hFZ hnp hof HGO HCR HND HOK HQO HLT7 HPL7 pc hpl
        go_wp2_with fail
        refine HOF.out.mono ?_
        intro e w9 hq
        unfold OpnP at hq
        rcases hq with ⟨_, lm, F9, G9, rfl, q1, q2, q3, q4⟩ | ⟨hq, _⟩
        ·simp only at q1
         have HK9 := Lib.hid (show Kp No w w9 from HPL8.out.kp.trans q4 fun i hi hf => by have := (HFZ.out i hf).1; omega)
         have HLT9 := Lib.hid (show LogAt w9 lt do_ ⟨#[97]⟩ stT G5 from HLT8.out.1.keep q4 fun k hg hf => HLT8.out.2 k hg (HFZ.out k hf).2)
         have HLM9 := Lib.hid q1.log
         obtain ⟨n, hn⟩ : ∃ n, n = stT.ents.length := ⟨_, rfl⟩
         obtain ⟨m1, hm1⟩ : ∃ m1, m1 = stT.synced := ⟨_, rfl⟩
         obtain ⟨m2, hm2⟩ : ∃ m2, m2 = st9.synced := ⟨_, rfl⟩
         have hnb : n ≤ 100000 := by have := HTT.out.2.ents; omega
         have hm1b : m1 ≤ n := by have := HTT.out.2.hsl; omega
         have hm2b : m2 ≤ n := by have := HF9.out.hsl; rw [HE9.out] at this; omega
         have hnx1 := next_any w9 lt do_ _ stT G5 HLT9.out (by omega) (by omega)
         have hnx2 := fun V (hV : Kp No w9 V) => next_any V lm d _ st9 G9 (HLM9.out.keep_no hV) (by rw [HE9.out]; omega) (by omega)
         rw [← hn, ← hm1] at hnx1
         rw [HE9.out, ← hn, ← hm2] at hnx2
         have e1 : ((n + 1 : Nat) : Int) = (n : Int) + 1 := by omega
         rw [e1] at hnx1 hnx2
         have HNX1 := Lib.hid hnx1
         have HNX2 := Lib.hid hnx2
         have HN := Lib.hid hn
         clear q1 q2 q3 q4 hn hm1 hm2 hnx1 hnx2 e1 HOF HLT8 HPL8 HFZ p0 hpl8
         go_wp2_with fail
         refine HNX1.out.mono ?_
         rintro e w10 ⟨rfl, hk10⟩
         have HC := Lib.hid (HNX2.out w10 hk10)
         have HK10 := Lib.hid hk10
         clear hk10 HNX1 HNX2
         go_wp2_with fail
         refine HC.out.mono ?_
         rintro e w11 ⟨rfl, hk11⟩
         have HK11 := Lib.hid (HK10.out.trans_same hk11)
         clear hk11 HC HK10
         go_wp2_with fail
         go_loopw [27] (fun s27 wr => ∃ j : Nat, j ≤ n ∧ s27 = .int .i64 ((j : Int) + 1) ∧ Hid (Kp No w9 wr)) (fun s27 _ => n + 1 - (intOf s27).toNat)
         case atStart => exact ⟨0, Nat.zero_le _, rfl, HK11⟩
         case round =>
          obtain ⟨j, hj, rfl, HK⟩ := hrel
          by_cases hlt : j < n
          ·have hjs : j < stT.ents.length := by rw [← HN.out]; exact hlt
           have hj9 : j < st9.ents.length := by rw [HE9.out]; exact hjs
           have hen1 := Entry_any wr lt do_ _ stT G5 (HLT9.out.keep_no HK.out) ((j : Int) + 1)
           have hen2 := fun V (hV : Kp No w9 V) => Entry_any V lm d _ st9 G9 (HLM9.out.keep_no hV) ((j : Int) + 1)
           rw [ent_yes hjs rfl] at hen1
           have hee : entS st9 ((j : Int) + 1) = (stT.ents[j], 0) := by
            have h9 : entS st9 ((j : Int) + 1) = entS stT ((j : Int) + 1) := by unfold entS; rw [HE9.out]
            rw [h9, ent_yes hjs rfl]
           rw [hee] at hen2
           unfold EntP at hen1 hen2
           obtain ⟨y, hy⟩ : ∃ y, y = stT.ents[j] := ⟨_, rfl⟩
           simp only [← hy] at hen1 hen2
           have hyl : y.length ≤ 1073741824 := by
            have h9 := entS_len (HLT9.out) ((j : Int) + 1)
            rw [ent_yes hjs rfl, ← hy] at h9
            exact h9
           have HEN1 := Lib.hid hen1
           have HEN2 := Lib.hid hen2
           clear hen1 hen2 hee hy hjs hj9
           go_wp2_with fail
           refine HEN1.out.mono ?_
           rintro e w12 ⟨v, rfl, ho, hk12, _⟩
           obtain ⟨a1, c1, rfl, _, _⟩ := ho.rd
           have HK12 := Lib.hid (HK.out.trans_same hk12)
           have HO1 := Lib.hid ho
           have HC := Lib.hid (HEN2.out w12 HK12.out)
           clear ho hk12 HEN1 HEN2
           go_wp2_with fail
           refine HC.out.mono ?_
           rintro e w13 ⟨v, rfl, ho, hk13, _⟩
           obtain ⟨a2, c2, rfl, _, _⟩ := ho.rd
           have HK13 := Lib.hid (HK12.out.trans_same hk13)
           have hsm := same_any a1 a2 c1 c2 w13.heap.size w13.heap.size y y w13 (HO1.out.keep hk13 fun _ _ x => x).rd' ho.rd' (by omega)
           have HSM := Lib.hid hsm
           clear ho hk13 hsm HC hyl
           go_wp2_with fail
           refine HSM.out.mono ?_
           rintro e w14 ⟨rfl, n8, rfl⟩
           obtain ⟨V8, hV8⟩ : ∃ V, V = w13.drewN n8 := ⟨_, rfl⟩
           have HK14 := Lib.hid (show Kp No w9 V8 by rw [hV8]; exact HK13.out.drewN n8)
           rw [← hV8]
           (try simp only [decide_true])
           clear hV8 HSM
           go_wp2_with fail
           go_roundw
           case rel => exact ⟨j + 1, by omega, by go_num, HK14⟩
           case measure => simp [intOf]; omega
          ·have hjn : j = n := by omega
           subst hjn
           have HKR := Lib.hid (HK9.out.trans_same HK.out)
           have HKN := Lib.hid (wknown_any wr (HPW.out.keepS HKR.out fun x => x))
           clear hlt
           go_wp2_with fail
           refine HKN.out.mono ?_
           rintro e w12 ⟨rfl, hk12⟩
           have HKF := Lib.hid (HKR.out.trans_same hk12)
           clear hk12
           go_wp2_with fail
           go_ret
           exact ⟨rfl, HKF.out⟩
        ·exact absurd rfl hq
       ·exact absurd rfl hq
   ·go_wp2_with fail
    refine HKN.out.mono ?_
    rintro e w' ⟨rfl, hk⟩
    have HKK := Lib.hid hk
    clear hk
    go_wp2_with fail
    go_ret
    exact ⟨rfl, HKK.out⟩
end Go.Proofs.YtdibkdgafidjgaaGreatDoor

