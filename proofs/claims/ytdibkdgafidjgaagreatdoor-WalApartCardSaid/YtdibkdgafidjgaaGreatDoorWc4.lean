/-
  Texts laid together: WStart, WKnown.
-/
import Derived.Test.YtdibkdgafidjgaaGreatDoorWc3
import Derived.Lib.SlBytesConst
namespace Go.Proofs.YtdibkdgafidjgaaGreatDoor
open Go.RowKit Go.Mer
theorem open_empty (P : ByteArray) (room : Nat) : openS P ⟨room, none, []⟩ (nmS []) = (0, ⟨room, none, []⟩, st0) := by
 have h : nmS [] = [] := List.eq_nil_of_length_eq_zero (by rw [nm_len]; rfl)
 rw [h]
 rfl
theorem free_empty (room : Nat) : Free ⟨room, none, []⟩ := ⟨rfl, List.nodup_nil, fun _ h => (by cases h)⟩
set_option maxRecDepth 100000 in
set_option maxHeartbeats 4000000 in
theorem start_any (w : World) (room : Nat) (hpow : Pow w) (hroom : room ≤ 1048576) :
  Calls Tryz.prog 11 #[.int .i64 (room : Int)] w fun e w' => ∃ p d r l x Z, e = .returned (.tuple #[.pointer (some ⟨p, 0, none⟩), .bool true]) ∧
   PL w w' p d r l x ⟨#[97]⟩ ⟨room, none, []⟩ st0 ⟨room, none, []⟩ st0 Z ∧ Fit 0 ⟨#[97]⟩ ⟨room, none, []⟩ st0 ∧ Whole ⟨#[97]⟩ ⟨room, none, []⟩ st0 := by
 have HPW := Lib.hid hpow
 go_enter Tryz.func11, Tryz.ntmps11
 go_wp2_with fail
 refine (new_any room w (by omega)).mono ?_
 rintro e w1 ⟨rfl, hk1, F, hD1, hF1⟩
 have H1 := Lib.hid (And.intro hk1 (And.intro hD1 hF1))
 obtain ⟨d, hd⟩ : ∃ d, d = w.heap.size + 1 := ⟨_, rfl⟩
 rw [← hd] at H1 ⊢
 clear hk1 hD1 hF1 hd hpow
 go_wp2_with fail
 refine (rNew_any room w1 (by omega)).mono ?_
 rintro e w2 ⟨r, rfl, hk2, H, hR2, hH2⟩
 obtain ⟨W3, hW3⟩ : ∃ V, V = w2.alloc (.cells #[.pointer (some ⟨d, 0, none⟩), .pointer (some ⟨r, 0, none⟩), .pointer none, .pointer none] 33) := ⟨_, rfl⟩
 have k3 : Kp No w2 W3 := by rw [hW3]; exact (Kp.refl _ _).alloc _
 have hq3 : W3.heap[w2.heap.size]? = some (cellP d r (.pointer none) (.pointer none)) := by rw [hW3]; exact heap_alloc_new w2 _
 have hpd : PD w W3 w2.heap.size d r (.pointer none) (.pointer none) ⟨room, none, []⟩ ⟨room, none, []⟩ (ZZ w2.heap.size F H) := by
  have hFl := H1.out.2.1.lt
  have hHl := hR2.lt
  have s1 := H1.out.1.size
  have s2 := hk2.size
  have s3 := k3.size
  refine ⟨F, H, hq3, (H1.out.2.1.keep_no hk2).keep_no k3, hR2.keep_no k3, ⟨(H1.out.1.trans_same hk2).trans_same k3, H1.out.2.2, fun k hk => Nat.le_trans s1 (hH2 k hk), Nat.le_trans s1 s2, fun k hf hh => ?_, fun hf => ?_, fun hh => ?_, fun k hf => ?_, fun k hh => ?_, get_lt hq3⟩, rfl⟩
  ·have := hFl k hf; have := hH2 k hh; omega
  ·have := hFl _ hf; omega
  ·have := hHl _ hh; omega
  ·have := hFl k hf; omega
  ·have := hHl k hh; omega
 have hop := open_pair w W3 w2.heap.size d r (.pointer none) (.pointer none) ⟨room, none, []⟩ _ hpd HPW.out (free_empty room) hroom
 have HOP := Lib.hid hop
 obtain ⟨p, hp⟩ : ∃ p, p = w2.heap.size := ⟨_, rfl⟩
 rw [← hp] at HOP
 clear hk2 hR2 hH2 hq3 hpd hop k3
 go_upto_region 4 with fail
 rw [← hW3, ← hp]
 clear hW3 hp
 go_wp2_with fail
 refine HOP.out.mono ?_
 rintro e w4 ⟨rfl, l, x, s', st', Z', o1, o2, o3, o4, _, _⟩
 have he := o1.symm.trans (open_empty ⟨#[97]⟩ room)
 injection he with _ he
 injection he with he1 he2
 subst he1
 subst he2
 have HF := Lib.hid (And.intro o4 (And.intro o3 o2.whole))
 clear o1 o2 o3 o4
 go_wp2_with fail
 go_ret2
 exact ⟨p, d, r, l, x, Z', rfl, HF.out⟩
end Go.Proofs.YtdibkdgafidjgaaGreatDoor
namespace Go.Proofs.YtdibkdgafidjgaaGreatDoor
open Go.RowKit Go.Mer
def kA : ByteArray := ⟨#[97]⟩
def kq1 := appS kA ⟨10000, none, []⟩ st0 [97]
def kq2 := appS kA kq1.2.1 kq1.2.2 [98]
def kq3 := sncS kA kq2.2.1 kq2.2.2
def kq4 := appS kA kq3.2.1 kq3.2.2 [99]
def kq5 := crS kq4.2.1 3 0
theorem kd1 : kq1.2.2.dead = false := by kernel_rfl
theorem kd2 : kq2.2.2.dead = false := by kernel_rfl
theorem kents : (openS kA kq5 [bnm kA 1]).2.2.ents = [[97], [98]] := by kernel_rfl
theorem ksync : (openS kA kq5 [bnm kA 1]).2.2.synced = 2 := by kernel_rfl
theorem kroom : kq4.2.1.room = 10000 := by kernel_rfl
theorem knames : nmS kq5.files = [bnm kA 1] := by
 have h := nm_perm kq5.files
 rw [show kq5.files.map (·.1) = [bnm kA 1] by kernel_rfl] at h
 exact List.perm_singleton.1 h
theorem kfit (h0 : Fit 0 kA ⟨10000, none, []⟩ st0) (w0 : Whole kA ⟨10000, none, []⟩ st0) :
  (Fit 1 kA kq1.2.1 kq1.2.2 ∧ Whole kA kq1.2.1 kq1.2.2) ∧ (Fit 2 kA kq2.2.1 kq2.2.2 ∧ Whole kA kq2.2.1 kq2.2.2) ∧ (Fit 2 kA kq3.2.1 kq3.2.2 ∧ Whole kA kq3.2.1 kq3.2.2) ∧ Fit 3 kA kq4.2.1 kq4.2.2 := by
 have f1 : Fit 1 kA kq1.2.1 kq1.2.2 := fit_app h0 (by decide) _
 have g1 : Whole kA kq1.2.1 kq1.2.2 := whole_app w0 h0 (by decide) _ rfl kd1
 have f2 : Fit 2 kA kq2.2.1 kq2.2.2 := fit_app f1 (by decide) _
 have g2 : Whole kA kq2.2.1 kq2.2.2 := whole_app g1 f1 (by decide) _ kd1 kd2
 exact ⟨⟨f1, g1⟩, ⟨f2, g2⟩, ⟨fit_snc f2, whole_snc g2⟩, fit_app (fit_snc f2) (by decide) _⟩
set_option maxRecDepth 100000 in
set_option maxHeartbeats 4000000 in
theorem wknown_any (w : World) (hpow : Pow w) : Calls Tryz.prog 10 #[] w fun e w' => e = .returned (.bool true) ∧ Kp No w w' := by
 have kc := fun (w : World) (C : Array Value) (n c : Nat) => Lib.run_convert_bytes_const (P := Tryz.prog) w 23 5 C n c Tryz.underlying23 Tryz.underlying5
 go_enter Tryz.func10, Tryz.ntmps10
 go_wp2_with fail
 refine (start_any w 10000 hpow (by decide)).mono ?_
 rintro e w1 ⟨p, d, r, l, x, Z, rfl, hL, hF, hW⟩
 obtain ⟨⟨f1, g1⟩, ⟨f2, g2⟩, ⟨f3, g3⟩, f4⟩ := kfit hF hW
 go_wp2_with fail
 obtain ⟨W2, hW2⟩ : ∃ W, W = w1.alloc (.cells #[.int .u8 97] 5 (1, 1 + 1)) := ⟨_, rfl⟩
 have K2 : Kp No w1 W2 := by rw [hW2]; exact (Kp.refl _ _).alloc _
 have R2 : Rd W2 W2.heap.size (some ⟨w1.heap.size, 0, none⟩) (u8s [97]) := by rw [hW2]; exact Rd.const _ _ _ _ _ rfl
 have D2 := does1 w W2 p d r l x 0 kA ⟨10000, none, []⟩ st0 Z (hL.no K2) hpow (by decide) hF (by decide) hW 0 0 (some ⟨w1.heap.size, 0, none⟩) 1 [97] (fun V hV => R2.keep_at hV fun _ k o hk hz => by
  injection hk with hk
  injection hk with hk
  have := (hL.zn k hz).2
  omega) (by decide)
 have HD2 := Lib.hid D2
 rw [← hW2]
 have HL1 := Lib.hid hL
 clear D2 R2 K2 hW2
 refine HD2.out.mono ?_
 rintro e w3 ⟨rfl, Z3, h3, _, _⟩
 have hL3 : PL w w3 p d r l x kA kq1.2.1 kq1.2.2 kq1.2.1 kq1.2.2 Z3 := h3
 clear h3 HD2 hL HL1
 go_wp2_with fail
 obtain ⟨W4, hW4⟩ : ∃ W, W = w3.alloc (.cells #[.int .u8 98] 5 (1, 1 + 1)) := ⟨_, rfl⟩
 have K4 : Kp No w3 W4 := by rw [hW4]; exact (Kp.refl _ _).alloc _
 have R4 : Rd W4 W4.heap.size (some ⟨w3.heap.size, 0, none⟩) (u8s [98]) := by rw [hW4]; exact Rd.const _ _ _ _ _ rfl
 have D4 := does1 w W4 p d r l x 1 kA kq1.2.1 kq1.2.2 Z3 (hL3.no K4) hpow (by decide) f1 (by decide) g1 0 0 (some ⟨w3.heap.size, 0, none⟩) 1 [98] (fun V hV => R4.keep_at hV fun _ k o hk hz => by
  injection hk with hk
  injection hk with hk
  have := (hL3.zn k hz).2
  omega) (by decide)
 have HD4 := Lib.hid D4
 rw [← hW4]
 clear D4 R4 K4 hW4
 refine HD4.out.mono ?_
 rintro e w5 ⟨rfl, Z5, h5, _, _⟩
 have hL5 : PL w w5 p d r l x kA kq2.2.1 kq2.2.2 kq2.2.1 kq2.2.2 Z5 := h5
 clear h5 HD4 hL3
 have D5 := does2 w w5 p d r l x 2 kA kq2.2.1 kq2.2.2 Z5 hL5 (by decide) f2 (by decide) 0 0 (.slice none 0 0)
 have HD5 := Lib.hid D5
 clear D5
 go_wp2_with fail
 refine HD5.out.mono ?_
 rintro e w6 ⟨rfl, Z6, h6, _, _⟩
 have hL6 : PL w w6 p d r l x kA kq3.2.1 kq3.2.2 kq3.2.1 kq3.2.2 Z6 := h6
 clear h6 HD5 hL5
 go_wp2_with fail
 obtain ⟨W7, hW7⟩ : ∃ W, W = w6.alloc (.cells #[.int .u8 99] 5 (1, 1 + 1)) := ⟨_, rfl⟩
 have K7 : Kp No w6 W7 := by rw [hW7]; exact (Kp.refl _ _).alloc _
 have R7 : Rd W7 W7.heap.size (some ⟨w6.heap.size, 0, none⟩) (u8s [99]) := by rw [hW7]; exact Rd.const _ _ _ _ _ rfl
 have D7 := does1 w W7 p d r l x 2 kA kq3.2.1 kq3.2.2 Z6 (hL6.no K7) hpow (by decide) f3 (by decide) g3 0 0 (some ⟨w6.heap.size, 0, none⟩) 1 [99] (fun V hV => R7.keep_at hV fun _ k o hk hz => by
  injection hk with hk
  injection hk with hk
  have := (hL6.zn k hz).2
  omega) (by decide)
 have HD7 := Lib.hid D7
 rw [← hW7]
 clear D7 R7 K7 hW7
 refine HD7.out.mono ?_
 rintro e w8 ⟨rfl, Z8, h8, _, _⟩
 have hL8 : PL w w8 p d r l x kA kq4.2.1 kq4.2.2 kq4.2.1 kq4.2.2 Z8 := h8
 clear h8 HD7 hL6
 have D8 : Calls Tryz.prog _ #[.pointer (some ⟨p, 0, none⟩), .agg #[.int .i64 3, .int .i64 3, .slice none 0 0, .int .u8 0]] w8 _ := does3 w w8 p d r l x kA kq4.2.1 kq4.2.2 Z8 hL8 hpow f4.ok (by rw [kroom]; decide) 3 (by decide) (by decide) 0 (.slice none 0 0)
 have HD8 := Lib.hid D8
 clear D8 hL8
 go_wp2_with fail
 refine HD8.out.mono ?_
 rintro e w9 ⟨rfl, l', x', s', st', Z', ho, _, hfit, hL9, _, _⟩
 have ho' : openS kA kq5 (nmS kq5.files) = (0, s', st') := ho
 rw [knames] at ho'
 have he : st'.ents = [[97], [98]] := by rw [← kents, ho']
 have hs : st'.synced = 2 := by rw [← ksync, ho']
 obtain ⟨F, G, hWA, _, _, _⟩ := hL9.wal
 obtain ⟨hpl, pc⟩ := hL9.cells No (fun h => h)
 have p2 := (pc w9 (Kp.refl _ _)).2.2.1
 have hn := next_any w9 l' d kA st' G hWA.log (by rw [he]; decide) (by rw [hs]; decide)
 rw [he, hs] at hn
 have hn' : Calls Tryz.prog _ _ w9 fun e w' => e = .returned (.tuple #[.int .i64 3, .int .i64 3]) ∧ Kp No w9 w' := hn
 have HN := Lib.hid hn'
 have HE := Lib.hid (fun V (hV : Kp No w9 V) => Entry_any V l' d kA st' G (hWA.no hV).log 2)
 have HEN := Lib.hid (show entS st' 2 = ([98], 0) by unfold entS; rw [he]; rfl)
 have HPC := Lib.hid pc
 have HKP := Lib.hid hL9.kp
 have HPL := Lib.hid hpl
 unfold ptrV at p2
 clear hn hn' hWA hL9 ho ho' he hs pc hfit HD8 f1 f2 f3 f4 g1 g2 g3 hF hW
 go_wp2_with fail
 refine HN.out.mono ?_
 rintro e w10 ⟨rfl, hk10⟩
 have p3 := (HPC.out w10 hk10).2.2.1
 have hpl10 := hk10.lt HPL.out
 have hc := HE.out w10 hk10
 rw [HEN.out] at hc
 have HC := Lib.hid hc
 have HK10 := Lib.hid (HKP.out.trans_same hk10)
 unfold ptrV at p3
 clear hk10 hc HE HN p2
 go_wp2_with fail
 refine HC.out.mono ?_
 rintro e w11 ⟨v, rfl, hO, hK, _⟩
 obtain ⟨_, a8, c8, rfl, _⟩ := id hO
 obtain ⟨W12, hW12⟩ : ∃ W, W = w11.alloc (.cells #[.int .u8 98] 5 (1, 1 + 1)) := ⟨_, rfl⟩
 have K12 : Kp No w11 W12 := by rw [hW12]; exact (Kp.refl _ _).alloc _
 have R12 : Rd W12 W12.heap.size (some ⟨w11.heap.size, 0, none⟩) (u8s [98]) := by rw [hW12]; exact Rd.const _ _ _ _ _ rfl
 have R8 := hO.rd'.keep K12 fun _ _ x => x
 have HS := Lib.hid (same_any a8 (some ⟨w11.heap.size, 0, none⟩) c8 1 _ _ [98] [98] W12 R8 R12 (by decide))
 have HK12 := Lib.hid ((HK10.out.trans_same hK).trans_same K12)
 clear R8 R12 K12 hO hK HC p3
 go_wp2_with fail
 rw [← hW12]
 clear hW12
 refine HS.out.mono ?_
 rintro e W13 ⟨rfl, n, rfl⟩
 simp only [decide_true]
 have HF := Lib.hid (HK12.out.drewN n)
 clear HS HK12
 go_wp2_with fail
 go_ret
 exact ⟨rfl, HF.out⟩
end Go.Proofs.YtdibkdgafidjgaaGreatDoor

