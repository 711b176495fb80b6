/-
  Texts laid together: SPair, SKnown, SNil, SOpnB.
-/
import Derived.Test.YtgnkmjeoaoongaaGreatDoorSd0
import Derived.Test.YtgnkmjeoaoongaaGreatDoorSc8
import Derived.Test.YtgnkmjeoaoongaaGreatDoorSa8
import Derived.Test.YtgnkmjeoaoongaaGreatDoorSb2
import Derived.Lib.SlBytesConst
import Derived.Test.YtgnkmjeoaoongaaGreatDoorSb7
import Derived.Test.YtgnkmjeoaoongaaGreatDoorSc5
import Derived.Test.YtgnkmjeoaoongaaGreatDoorSc9
namespace Go.Proofs.YtgnkmjeoaoongaaGreatDoor
open Go.RowKit Go.Mer
theorem StC.fewV {w : World} {s d l o m B : Nat} {P : ByteArray} {st : SSt} {cs : ChL} {ka : Option Addr} {kc : Nat} {K : List RecR} (h : StC w s d l P o st m cs ka kc K) (hinv : Inv o st) (hB : B ≤ 1000000) (hc : ∀ p ∈ cs, p.2.R.length ≤ B) : FewV cs := fun p hp => by
 refine ⟨Nat.le_trans (hc p hp) hB, fun v hv => ?_⟩
 have h1 : (p.1, p.2.vs) ∈ st.keys := h.perm.mem_iff.1 (List.mem_map.2 ⟨p, hp, rfl⟩)
 exact ((hinv.keys _ h1).2.2.2.2 v hv).1
section
variable {w0 w : World} {p d s r x o B : Nat} {P : ByteArray} {st st' : SSt} {ds ds' : DSt} {lg lg' : LSt} {H1 H2 : Nat → Prop}
theorem PairAt.put {k : Nat} (h : PairAt w0 w p d s r x P o st ds lg st' ds' lg' B H1 H2) (hinv : Inv o st) (hfit : Fit k (logN P st.age) ds lg) (hk : k ≤ 3000) (hpow : Pow w) (hp0 : 0 < w0.heap.size) (hQ : (logN P st.age).size ≤ 50) (hnb : st.n ≤ 1000000)
  (a : Option Addr) (cap : Nat) (L : List RecR) (hL : ∀ W, Kp H1 w W → RecsAt W a L) (hc : L.length ≤ cap) (hcm : L.length ≤ 1000000) (hB : B ≤ 900000) (hage : (putSt P o ds st lg (L.map RecR.r)).2.2.1.age = st.age) :
  Calls Tryz.prog 18 #[.pointer (some ⟨s, 0, none⟩), .slice a L.length cap] w fun e w' => e = .returned (.int .i64 (putSt P o ds st lg (L.map RecR.r)).1) ∧ ∃ H1',
   PairAt w0 w' p d s r x P o (putSt P o ds st lg (L.map RecR.r)).2.2.1 (putSt P o ds st lg (L.map RecR.r)).2.1 (putSt P o ds st lg (L.map RecR.r)).2.2.2 st' ds' lg' (B + 64) H1' H2 ∧ Foot H1 H1' w ∧ Kp H1 w w' := by
 obtain ⟨l, m, cs, ka, kc, K, F, G, h1, h2, h3, h4, h5⟩ := h.prog
 have hg : ∀ k, H1 k → k ≠ 0 := fun k hk e => by
  have := h.new.2.1 k hk
  omega
 have hp := sPut_any h1 hinv rfl hfit hk hpow (fun hf => hg _ (h4 _ (.inr (.inl hf))) rfl) (fun hf => hg _ (h4 _ (.inr (.inr hf))) rfl) hQ hnb a cap L (fun W hW => hL W (hW.mono fun i _ hi => h4 i hi)) hc hcm B hB h2 h3
 have hage' := hage.symm
 obtain ⟨q, hq⟩ : ∃ q, q = putSt P o ds st lg (L.map RecR.r) := ⟨_, rfl⟩
 rw [← hq] at hp hage hage' ⊢
 refine hp.mono ?_
 rintro e w' ⟨rfl, cs', ka', kc', K', F', G', k1, k2, k3, k4, k5, k6, k7⟩
 have hkH : Kp H1 w w' := k5.mono fun i _ hi => h4 i hi
 have hf : ∀ k, StF s m cs' ka' kc' K' k ∨ F' k ∨ G' k → H1 k ∨ w.heap.size ≤ k := by
  rintro k (hk | hk | hk)
  ·exact (k2 k hk).imp (fun h => h4 k (.inl h)) id
  ·exact (k3 k hk).imp (fun h => h4 k (.inr (.inl h))) id
  ·exact (k4 k hk).imp (fun h => h4 k (.inr (.inr h))) id
 have hl : ∀ k, StF s m cs' ka' kc' K' k ∨ F' k ∨ G' k → k < w'.heap.size := by
  rintro k (hk | hk | hk)
  ·exact k1.st.lt k hk
  ·exact k1.at_.disk.lt k hk
  ·exact k1.at_.log.lt k hk
 have hs0 := h.kp.size
 rw [hage'] at k1
 refine ⟨rfl, _, ⟨hkH.get h.cell h.p1, ⟨l, m, cs', ka', kc', K', F', G', k1, k6, k7, fun _ h => h, hl⟩, ?_, fun k hk hh => ?_, fun hh => ?_, h.p2, ⟨h.new.1, fun k hk => ?_, h.new.2.2⟩, h.kp.trans hkH fun i hi hh => ?_⟩, fun k hk => hf k hk, hkH⟩
 ·obtain ⟨y, la, lc, cs2, ka2, kc2, K2, F2, G2, g1, g2, g3, g4, g5⟩ := h.ref.keep hkH fun k h2 hh => h.sep k hh h2
  exact ⟨y, la, lc, cs2, ka2, kc2, K2, F2, G2, g1, fun p hp => by have := g2 p hp; omega, by omega, g4, g5⟩
 ·rcases hf k hk with h6 | h6
  ·exact h.sep k h6 hh
  ·have := h.ref.lt k hh
   omega
 ·rcases hf p hh with h6 | h6
  ·exact h.p1 h6
  ·have := get_lt h.cell
   omega
 ·rcases hf k hk with h6 | h6
  ·exact h.new.2.1 k h6
  ·omega
 ·have := h.new.2.1 i hh
  omega
theorem PairAt.get (h : PairAt w0 w p d s r x P o st ds lg st' ds' lg' B H1 H2) (hinv : Inv o st) (hB : B ≤ 1000000) (k : ByteArray) (t1 t2 : Int) (ht : t1 ≤ 9223372036854775807) :
  Calls Tryz.prog 26 #[.pointer (some ⟨s, 0, none⟩), .string k, stv t1 t2] w (GetSP w (getSt st k t1 t2)) := by
 obtain ⟨l, m, cs, ka, kc, K, F, G, h1, h2, h3, h4, h5⟩ := h.prog
 exact sGet_any h1.st (h1.st.fewV hinv hB h2) k t1 t2 ht
end
end Go.Proofs.YtgnkmjeoaoongaaGreatDoor
namespace Go.Proofs.YtgnkmjeoaoongaaGreatDoor
open Go.RowKit Go.Mer
def skP : ByteArray := ⟨#[109]⟩
def skK : ByteArray := ⟨#[107]⟩
def skRec : RecS := ⟨0, 1, skK, ⟨5, 0, 0, [97], false, 0⟩⟩
def skQ := putSt skP 0 ⟨1048576, none, []⟩ empS st0 [skRec]
theorem sk0 : skQ.1 = 0 := by kernel_rfl
theorem skAge : skQ.2.2.1.age = empS.age := by kernel_rfl
theorem skG1 : getSt skQ.2.2.1 skK 4 9 = (none, 0) := by kernel_rfl
theorem skG2 : getSt skQ.2.2.1 skK 5 0 = (some [97], 0) := by kernel_rfl
theorem fit_emp (P : ByteArray) (room : Nat) (h : room ≤ 1048576) : Fit 0 P ⟨room, none, []⟩ st0 :=
 ⟨h, fun p hp => absurd hp List.not_mem_nil, fun _ => Nat.zero_le _, Nat.zero_le _, fun z hz => absurd hz List.not_mem_nil, Nat.zero_le _, Nat.zero_le _, fun z hz => absurd hz List.not_mem_nil⟩
theorem put_ok_st {P : ByteArray} {o : Nat} {s : DSt} {st : SSt} {lg : LSt} {l : List RecS} (h : (putSt P o s st lg l).1 = 0) (hd : st.dead = false) (hl : l ≠ []) : mayS st l = 0 ∧ (putSt P o s st lg l).2.2.1 = { laysS o st l with n := st.n + 1 } := by
 unfold putSt at h ⊢
 rw [if_neg (by rw [hd]; decide), if_neg (by rw [List.length_eq_zero_iff]; exact hl)] at h ⊢
 split at h
 ·next hm =>
  rw [if_pos hm]
  simp only at h ⊢
  split at h
  ·next hw =>
   rw [if_pos hw]
   exact ⟨hm, rfl⟩
  ·next hw => exact absurd h hw
 ·next hm =>
  simp only at h
  exact absurd (by omega) hm
theorem sk_inv : Inv 0 skQ.2.2.1 := by
 obtain ⟨hm, e⟩ := put_ok_st sk0 rfl (by simp)
 unfold skQ
 rw [e]
 exact (inv_put (inv_emp (by decide)) hm).setN _
set_option maxRecDepth 100000 in
set_option maxHeartbeats 4000000 in
theorem s16known_any (w : World) (hpow : Pow w) : Calls Tryz.prog 14 #[] w fun e w' => e = .returned (.bool true) ∧ Kp No w w' := by
 have kc := fun (w : World) (C : Array Value) (n c : Nat) => Lib.run_convert_bytes_const (P := Tryz.prog) w 42 5 C n c Tryz.underlying42 Tryz.underlying5
 have HPW := Lib.hid hpow
 go_enter Tryz.func14, Tryz.ntmps14
 go_wp2_with fail
 refine (s16start_any w 1048576 hpow (by decide)).mono ?_
 rintro e w1 ⟨p, d, s, r, x, H1, H2, rfl, hP⟩
 have c1 : w1.cell? ⟨p, 1, none⟩ = some (.pointer (some ⟨s, 0, none⟩)) := hP.at_ (Kp.refl _ _) 1
 have lp := get_lt hP.cell
 have HP := Lib.hid hP
 obtain ⟨w2, hw2⟩ : ∃ W, W = w1.alloc (.cells #[.int .u8 97] 5 (1, 1 + 1)) := ⟨_, rfl⟩
 have k2 : Kp No w1 w2 := by rw [hw2]; exact (Kp.refl _ _).alloc _
 have r2 : Rd w2 w2.heap.size (some ⟨w1.heap.size, 0, none⟩) (u8s [97]) := by rw [hw2]; exact Rd.const _ _ _ _ _ rfl
 obtain ⟨w3, hw3⟩ : ∃ W, W = w2.alloc (.cells #[.int .i64 0, .int .i64 1, .string ⟨#[107]⟩, .int .i64 5, .int .i64 0, .int .i64 0, .slice (some ⟨w1.heap.size, 0, none⟩) 1 1, .bool false, .int .i64 0] 46) := ⟨_, rfl⟩
 have k3 : Kp No w2 w3 := by rw [hw3]; exact (Kp.refl _ _).alloc _
 have r3 : Rd w3 w3.heap.size (some ⟨w2.heap.size, 0, none⟩) ([(⟨skRec, some ⟨w1.heap.size, 0, none⟩, 1⟩ : RecR)].flatMap recC) := by rw [hw3]; exact Rd.const _ _ _ _ _ rfl
 have r3b := Rd.kp r2 k3
 have hra : ∀ W, Kp H1 w3 W → RecsAt W (some ⟨w2.heap.size, 0, none⟩) [⟨skRec, some ⟨w1.heap.size, 0, none⟩, 1⟩] := fun W hW => by
  have hlt := hP.prog.lt
  have s2 := k2.size
  refine ⟨r3.keep_at hW fun _ k oo hk hz => ?_, fun y hy => ?_⟩
  ·injection hk with hk
   injection hk with hk
   have := hlt k hz
   omega
  ·rw [List.mem_singleton] at hy
   subst hy
   refine ⟨r3b.keep_at hW fun _ k oo hk hz => ?_, Nat.le_refl _, (show (1 : Nat) ≤ maxLen by decide)⟩
   injection hk with hk
   injection hk with hk
   have := hlt k hz
   omega
 have hpp := (hP.no k2).no k3
 have hput := hpp.put (k := 0) (inv_emp (by decide)) (fit_emp _ _ (by decide)) (by decide) ((HPW.out.keep hP.kp).keep (k2.trans_same k3)) HPW.out.lt (by show (logN skP 0).size ≤ 50; rw [logN_size]; decide) (by decide) (some ⟨w2.heap.size, 0, none⟩) 1 [⟨skRec, some ⟨w1.heap.size, 0, none⟩, 1⟩] hra (Nat.le_refl _) (show (1 : Nat) ≤ 1000000 by decide) (by decide) skAge
 have hput' : Calls Tryz.prog _ #[.pointer (some ⟨s, 0, none⟩), .slice (some ⟨w2.heap.size, 0, none⟩) 1 1] w3 fun e w' => e = .returned (.int .i64 skQ.1) ∧ ∃ H1', PairAt w w' p d s r x skP 0 skQ.2.2.1 skQ.2.1 skQ.2.2.2 empS ⟨1048576, none, []⟩ st0 (0 + 64) H1' H2 ∧ Foot H1 H1' w3 ∧ Kp H1 w3 w' := hput
 rw [sk0] at hput'
 have HPUT := Lib.hid hput'
 have HW2 := Lib.hid hw2
 have HW3 := Lib.hid hw3
 obtain ⟨b1, hb1⟩ : ∃ b, b = w1.heap.size := ⟨_, rfl⟩
 obtain ⟨b2, hb2⟩ : ∃ b, b = w2.heap.size := ⟨_, rfl⟩
 rw [← hb1] at HW3
 rw [← hb2] at HPUT
 have hb2 : b2 = b1 + 1 := by rw [hb2, hb1, hw2]; simp
 clear hP k2 r2 k3 r3 r3b hra hpp hput hput' hw2 hw3 hpow
 have HB1 := Lib.hid hb1
 have HB2 := Lib.hid hb2
 clear hb1 hb2
 go_upto_region 4 with fail
 go_wp2_with fail
 rw [← HB1.out, ← HW2.out, ← HB2.out, ← HW3.out]
 refine HPUT.out.mono ?_
 rintro e w4 ⟨rfl, H1', hP4, _, _⟩
 have c4 : w4.cell? ⟨p, 1, none⟩ = some (.pointer (some ⟨s, 0, none⟩)) := hP4.at_ (Kp.refl _ _) 1
 have l4 := get_lt hP4.cell
 have hg := hP4.get sk_inv (by decide) skK 4 9 (by decide)
 rw [skG1] at hg
 have HG := Lib.hid hg
 have HP4 := Lib.hid hP4
 clear hP4 hg HPUT c1 lp
 go_wp2_with fail
 refine (show Calls Tryz.prog _ _ w4 _ from HG.out).mono ?_
 rintro e w5 ⟨rfl, k5⟩
 have hP5 := HP4.out.no k5
 have c5 : w5.cell? ⟨p, 1, none⟩ = some (.pointer (some ⟨s, 0, none⟩)) := hP5.at_ (Kp.refl _ _) 1
 have l5 := get_lt hP5.cell
 have hg := hP5.get sk_inv (by decide) skK 5 0 (by decide)
 rw [skG2] at hg
 have HG2 := Lib.hid hg
 have HP5 := Lib.hid hP5
 clear hP5 hg HG c4 l4 k5
 go_wp2_with fail
 refine (show Calls Tryz.prog _ _ w5 _ from HG2.out).mono ?_
 rintro e w6 ⟨a6, c6, rfl, ho6, _, k6⟩
 obtain ⟨w7, hw7⟩ : ∃ W, W = w6.alloc (.cells #[.int .u8 97] 5 (1, 1 + 1)) := ⟨_, rfl⟩
 have k7 : Kp No w6 w7 := by rw [hw7]; exact (Kp.refl _ _).alloc _
 have r7 : Rd w7 w7.heap.size (some ⟨w6.heap.size, 0, none⟩) (u8s [97]) := by rw [hw7]; exact Rd.const _ _ _ _ _ rfl
 have r6 := (Own.rd' ho6).keep k7 fun _ _ x => x
 have HS := Lib.hid (same_any a6 (some ⟨w6.heap.size, 0, none⟩) c6 1 _ _ [97] [97] w7 r6 r7 (by decide))
 have HK7 := Lib.hid ((HP5.out.kp.trans_same k6).trans_same k7)
 have HW7 := Lib.hid hw7
 clear r6 r7 k7 k6 ho6 HG2 hw7 c5 l5
 go_wp2_with fail
 rw [← HW7.out]
 refine HS.out.mono ?_
 rintro e w8 ⟨rfl, n, rfl⟩
 simp only [decide_true]
 have HF := Lib.hid (HK7.out.drewN n)
 clear HS HK7
 go_wp2_with fail
 go_ret
 exact ⟨rfl, HF.out⟩
end Go.Proofs.YtgnkmjeoaoongaaGreatDoor
namespace Go.Proofs.YtgnkmjeoaoongaaGreatDoor
open Go.RowKit Go.Mer
theorem put_nil (a : Option Addr) (n c : Nat) (w : World) : Calls Tryz.prog 18 #[.pointer none, .slice a n c] w fun e w' => e = .returned (.int .i64 1) ∧ Kp No w w' := by
 go_enter Tryz.func18, Tryz.ntmps18
 go_wp2_with fail
 refine (alive_nil _).mono ?_
 rintro e w1 ⟨rfl, rfl⟩
 go_wp2_with fail
 go_ret
 exact ⟨rfl, Kp.refl _ _⟩
theorem get_nil (k : ByteArray) (t1 t2 : Int) (w : World) : Calls Tryz.prog 26 #[.pointer none, .string k, stv t1 t2] w fun e w' => e = .returned (.tuple #[.slice none 0 0, .bool false, .int .i64 1]) ∧ Kp No w w' := by
 simp only [stv]
 go_enter Tryz.func26, Tryz.ntmps26
 go_wp2_with fail
 refine (old_nil t1 t2 _).mono ?_
 rintro e w1 ⟨rfl, k1⟩
 have HK := Lib.hid (((Kp.refl No w).alloc _).trans_same k1)
 clear k1
 go_wp2_with fail
 go_ret3
 exact ⟨rfl, HK.out⟩
theorem scan_nil (a b : ByteArray) (t1 t2 n : Int) (w : World) : Calls Tryz.prog 31 #[.pointer none, .string a, .string b, stv t1 t2, .int .i64 n] w fun e w' => e = .returned (.tuple #[.slice none 0 0, .int .i64 1]) ∧ Kp No w w' := by
 simp only [stv]
 go_enter Tryz.func31, Tryz.ntmps31
 go_wp2_with fail
 refine (old_nil t1 t2 _).mono ?_
 rintro e w1 ⟨rfl, k1⟩
 have HK := Lib.hid (((Kp.refl No w).alloc _).trans_same k1)
 clear k1
 go_wp2_with fail
 go_ret2
 exact ⟨rfl, HK.out⟩
theorem trim_nil (t1 t2 : Int) (w : World) : Calls Tryz.prog 23 #[.pointer none, stv t1 t2] w fun e w' => e = .returned (.tuple #[.int .i64 0, .int .i64 1]) ∧ Kp No w w' := by
 simp only [stv]
 go_enter Tryz.func23, Tryz.ntmps23
 go_wp2_with fail
 refine (alive_nil _).mono ?_
 rintro e w1 ⟨rfl, rfl⟩
 go_wp2_with fail
 go_ret2
 exact ⟨rfl, (Kp.refl No w).alloc _⟩
theorem keys_nil (w : World) : Calls Tryz.prog 19 #[.pointer none] w fun e w' => e = .returned (.tuple #[.slice none 0 0, .int .i64 0]) ∧ Kp No w w' := by
 go_enter Tryz.func19, Tryz.ntmps19
 go_wp2_with fail
 go_ret2
 exact ⟨rfl, Kp.refl _ _⟩
theorem age_nil (w : World) : Calls Tryz.prog 20 #[.pointer none] w fun e w' => e = .returned (.tuple #[.int .i64 0, .int .i64 0]) ∧ Kp No w w' := by
 go_enter Tryz.func20, Tryz.ntmps20
 go_wp2_with fail
 go_ret2
 exact ⟨rfl, Kp.refl _ _⟩
theorem kept_nil (i j : Int) (w : World) : Calls Tryz.prog 32 #[.pointer none, .int .i64 i, .int .i64 j] w fun e w' => e = .returned (.slice none 0 0) ∧ Kp No w w' := by
 go_enter Tryz.func32, Tryz.ntmps32
 go_wp2_with fail
 go_ret
 exact ⟨rfl, Kp.refl _ _⟩
theorem forget_nil (i : Int) (w : World) : Calls Tryz.prog 33 #[.pointer none, .int .i64 i] w fun e w' => e = .returned (.tuple #[]) ∧ Kp No w w' := by
 go_enter Tryz.func33, Tryz.ntmps33
 go_wp2_with fail
 refine bodyPost_end (results_none rfl _ _ _) rfl ⟨rfl, (Kp.refl No w).alloc _⟩
theorem compact_nil (w : World) : Calls Tryz.prog 39 #[.pointer none] w fun e w' => e = .returned (.int .i64 1) ∧ Kp No w w' := by
 go_enter Tryz.func39, Tryz.ntmps39
 go_wp2_with fail
 refine (alive_nil _).mono ?_
 rintro e w1 ⟨rfl, rfl⟩
 go_wp2_with fail
 go_ret
 exact ⟨rfl, Kp.refl _ _⟩
theorem mark_nil (w : World) : Calls Tryz.prog 45 #[.pointer none] w fun e w' => e = .returned (stv 0 0) ∧ Kp No w w' := by
 go_enter Tryz.func45, Tryz.ntmps45
 go_wp2_with fail
 exact bodyPost_ret (v := stv 0 0) (by simp [results, Tryz.results45, go_sem, stv]) rfl ⟨rfl, (Kp.refl _ _).alloc _⟩
theorem applied_nil (i : Int) (w : World) : Calls Tryz.prog 37 #[.pointer none, .int .i64 i] w fun e w' => e = .returned (.tuple #[.int .i64 0, stv 0 0]) ∧ Kp No w w' := by
 go_enter Tryz.func37, Tryz.ntmps37
 go_wp2_with fail
 exact bodyPost_ret (v := .tuple #[.int .i64 0, stv 0 0]) (by simp [results, Tryz.results37, go_sem, stv]) rfl ⟨rfl, (Kp.refl _ _).alloc _⟩
section
variable {w : World} {s d l o m : Nat} {P : ByteArray} {st : SSt} {cs : ChL} {ka : Option Addr} {kc : Nat} {K : List RecR}
end
end Go.Proofs.YtgnkmjeoaoongaaGreatDoor
namespace Go.Proofs.YtgnkmjeoaoongaaGreatDoor
open Go.RowKit Go.Mer
theorem sfail_is (v : Value) (xT : TypeId) (w : World) : (Instr.typeAssert (.iface 172 v) xT 172 true).run Tryz.prog w = .ok (.tuple #[v, .bool true]) w := by
 simp [Instr.typeAssert, run_underlying Tryz.underlying172, go_sem, Result.andThen]
theorem right_bad (k : Nat) (w : World) : Calls Tryz.prog 93 #[.bool false, .int .i64 (k : Int)] w fun e w' => e = .panicked [{ v := .iface 172 (.agg #[.int .i64 (k : Int)]), recovered := false }] ∧ w = w' := by
 go_enter Tryz.func93, Tryz.ntmps93
 go_wp2_with fail
 first | exact ⟨rfl, rfl, rfl⟩ | exact ⟨rfl, rfl⟩
set_option maxRecDepth 100000 in
set_option maxHeartbeats 1000000 in
theorem sclose_panic (b0 b1 k : Nat) (x y : Value) (older : List PanicEntry) (w : World) (hc : w.cell? ⟨b0, 0, none⟩ = some x) (hf : w.frozen? ⟨b0, 0, none⟩ = false) (hb : b0 < w.heap.size) (hq : w.cell? ⟨b1, 0, none⟩ = some y) (hqf : w.frozen? ⟨b1, 0, none⟩ = false) (hqb : b1 < w.heap.size) (hne : ¬ b0 = b1) :
  CallsD Tryz.prog 92 #[.pointer (some ⟨b0, 0, none⟩), .pointer (some ⟨b1, 0, none⟩)] (.panicking ({ v := .iface 172 (.agg #[.int .i64 (k : Int)]), recovered := false } :: older)) w fun e u' w' =>
   e = .returned (.tuple #[]) ∧ u' = .panicking ({ v := .iface 172 (.agg #[.int .i64 (k : Int)]), recovered := true } :: older) ∧ Kp (fun i => i = b0 ∨ i = b1) w w' ∧ w'.cell? ⟨b0, 0, none⟩ = some (.pointer none) ∧ w'.cell? ⟨b1, 0, none⟩ = some (.int .i64 (k : Int)) := by
 have hne' : ¬ b1 = b0 := fun e => hne e.symm
 refine callsD_of_wpS Tryz.func92 rfl fun c₀ cs hu => ?_
 apply wpS_seq
 apply wpS_region
 simp [wpOpsS, go_sem, recoverD, hu, Tryz.ntmps92, Exit.thenS]
 refine wpS_of_wp ?_
 have ha : (#[Value.pointer (some ⟨b0, 0, none⟩), Value.pointer (some ⟨b1, 0, none⟩)] ++ (Array.replicate 11 undef).setIfInBounds 3 (.iface 172 (.agg #[.int .i64 (k : Int)]))) = #[Value.pointer (some ⟨b0, 0, none⟩), Value.pointer (some ⟨b1, 0, none⟩), undef, undef, undef, .iface 172 (.agg #[.int .i64 (k : Int)]), undef, undef, undef, undef, undef, undef, undef] := rfl
 rw [ha]
 clear ha
 obtain ⟨w1, hw1⟩ : ∃ W, W = w.alloc (.cells #[.int .i64 (k : Int)] 172) := ⟨_, rfl⟩
 have k1 : Kp No w w1 := by rw [hw1]; exact (Kp.refl _ _).alloc _
 have h1 : w1.heap[w.heap.size]? = some (.cells #[.int .i64 (k : Int)] 172 (0, 0)) := by rw [hw1]; exact heap_alloc_new w _
 obtain ⟨f, hfq⟩ : ∃ f, f = w.heap.size := ⟨_, rfl⟩
 rw [← hfq] at h1
 have hfb : ¬ (f = b0 ∨ f = b1) := by omega
 have fk : ∀ W, Kp (fun i => i = b0 ∨ i = b1) w1 W → W.cell? ⟨f, 0, none⟩ = some (.int .i64 (k : Int)) := fun W hW => cell_at (hW.get h1 hfb) 0
 have hb0 := (k1.cell (p := ⟨b0, 0, none⟩) hb fun x => x).trans hc
 have hb0f := (k1.frozen (p := ⟨b0, 0, none⟩) hb fun x => x).trans hf
 have hb1 := (k1.cell (p := ⟨b1, 0, none⟩) hqb fun x => x).trans hq
 have hb1f := (k1.frozen (p := ⟨b1, 0, none⟩) hqb fun x => x).trans hqf
 have l0 := k1.lt hb
 have l1 := k1.lt hqb
 have HW1 := Lib.hid hw1
 have HK1 := Lib.hid k1
 have HF := Lib.hid hfq
 have hff := get_lt h1
 clear hw1 k1 h1 hfb hfq hc hf hb hq hqf hqb
 have hta := sfail_is
 go_upto_region 7 with fail
 rw [← HW1.out, ← HF.out]
 refine wp_region_held' (Kp (fun i => i = b0 ∨ i = b1) w1) [0,0,2,2] [0,1,2,3] (by kernel_rfl) (by kernel_rfl) (fun _ n h => h.drewN n) (Kp.refl _ _) ?_
 repeat (first
  | (apply wpOrd_skip rfl (by decide) rfl; (focus (go_simp; rfl)))
  | (apply wpOrd_pure rfl rfl rfl; (focus (intro _ _; go_simp; (try go_ints); rfl)); (focus (go_simp; rfl)))
  | (apply wpOrd_read rfl rfl rfl; (focus (intro _; go_simp; (try go_ints); rfl)); (focus (go_simp; rfl))))
 refine wpOrd_eff rfl rfl (fun q1 => ?_)
 obtain ⟨w2, hw2⟩ : ∃ W, W = w1.drewN q1 := ⟨_, rfl⟩
 have k2 : Kp No w1 w2 := by rw [hw2]; exact (Kp.refl _ _).drewN _
 have c20 := (k2.cell (p := ⟨b0, 0, none⟩) l0 fun x => x).trans hb0
 have z20 := (k2.frozen (p := ⟨b0, 0, none⟩) l0 fun x => x).trans hb0f
 have c21 := (k2.cell (p := ⟨b1, 0, none⟩) l1 fun x => x).trans hb1
 have z21 := (k2.frozen (p := ⟨b1, 0, none⟩) l1 fun x => x).trans hb1f
 have l20 := k2.lt l0
 have l21 := k2.lt l1
 rw [← hw2]
 have HK2 := Lib.hid k2
 clear hw2 k2 hb0 hb0f hb1 hb1f l0 l1
 go_wp2_with fail
 obtain ⟨w3, hw3⟩ : ∃ W, W = w2.setCell ⟨b0, 0, none⟩ (.pointer none) := ⟨_, rfl⟩
 have k23 : Kp (Mer.One b0) w2 w3 := by rw [hw3]; exact (Kp.refl (Mer.One b0) w2).setCell (p := ⟨b0, 0, none⟩) (.inl (show Mer.One b0 b0 from rfl)) _
 have c30 : w3.cell? ⟨b0, 0, none⟩ = some (.pointer none) := by rw [hw3]; simp [go_sem, c20]
 have c31 := (k23.cell (p := ⟨b1, 0, none⟩) l21 hne').trans c21
 have z31 := (k23.frozen (p := ⟨b1, 0, none⟩) l21 hne').trans z21
 have l30 := k23.lt l20
 have l31 := k23.lt l21
 have k13 : Kp (fun i => i = b0 ∨ i = b1) w1 w3 := (Kp.of_no HK2.out).trans_same (k23.mono fun _ _ h => .inl h)
 rw [← hw3]
 have HK3 := Lib.hid k13
 clear hw3 k23 c20 z20 c21 z21 l20 l21
 (try refine ⟨k13, ?_⟩)
 clear k13
 repeat (first
  | (apply wpOrd_skip rfl (by decide) rfl; (focus (go_simp; rfl)))
  | (apply wpOrd_pure rfl rfl rfl; (focus (intro _ _; go_simp; (try go_ints); rfl)); (focus (go_simp; rfl)))
  | (apply wpOrd_read rfl rfl rfl; (focus (intro _; go_simp; (try go_ints); rfl)); (focus (go_simp; rfl))))
 refine wpOrd_eff rfl rfl (fun q2 => ?_)
 obtain ⟨w4, hw4⟩ : ∃ W, W = w3.drewN q2 := ⟨_, rfl⟩
 have k4 : Kp No w3 w4 := by rw [hw4]; exact (Kp.refl _ _).drewN _
 have c40 := (k4.cell (p := ⟨b0, 0, none⟩) l30 fun x => x).trans c30
 have c41 := (k4.cell (p := ⟨b1, 0, none⟩) l31 fun x => x).trans c31
 have z41 := (k4.frozen (p := ⟨b1, 0, none⟩) l31 fun x => x).trans z31
 have l40 := k4.lt l30
 have l41 := k4.lt l31
 rw [← hw4]
 have HK4 := Lib.hid k4
 clear hw4 k4 c30 c31 z31 l30 l31
 go_wp2_with fail
 obtain ⟨w5, hw5⟩ : ∃ W, W = w4.setCell ⟨b1, 0, none⟩ (.int .i64 (k : Int)) := ⟨_, rfl⟩
 have k45 : Kp (Mer.One b1) w4 w5 := by rw [hw5]; exact (Kp.refl (Mer.One b1) w4).setCell (p := ⟨b1, 0, none⟩) (.inl (show Mer.One b1 b1 from rfl)) _
 have c51 : w5.cell? ⟨b1, 0, none⟩ = some (.int .i64 (k : Int)) := by rw [hw5]; simp [go_sem, c41]
 have c50 := (k45.cell (p := ⟨b0, 0, none⟩) l40 hne).trans c40
 have k15 : Kp (fun i => i = b0 ∨ i = b1) w1 w5 := (HK3.out.trans_no HK4.out).trans_same (k45.mono fun _ _ h => .inr h)
 rw [← hw5]
 (try refine ⟨k15, ?_⟩)
 refine wpOrd_nil (fun nq => ?_)
 have HE := Lib.hid (show Kp (fun i => i = b0 ∨ i = b1) w (w5.drewN nq) ∧ (w5.drewN nq).cell? ⟨b0, 0, none⟩ = some (.pointer none) ∧ (w5.drewN nq).cell? ⟨b1, 0, none⟩ = some (.int .i64 (k : Int)) from ⟨((Kp.of_no HK1.out).trans_same k15).drewN nq, c50, c51⟩)
 clear hw5 k45 c51 c50 k15 c40 c41 z41 l40 l41
 go_wp2_with fail
 exact ⟨rfl, _, rfl, _, results_none rfl _ _ _, rfl, rfl, HE.out⟩
theorem sopen_shut {wx : World} {b0 b1 : Nat} {x y : Value} (k : Nat) (hc : wx.cell? ⟨b0, 0, none⟩ = some x) (hf : wx.frozen? ⟨b0, 0, none⟩ = false) (hb : b0 < wx.heap.size) (hq : wx.cell? ⟨b1, 0, none⟩ = some y) (hqf : wx.frozen? ⟨b1, 0, none⟩ = false) (hqb : b1 < wx.heap.size) (hne : ¬ b0 = b1)
  (tmps : Array Value) (h6 : tmps.getD 6 undef = .pointer (some ⟨b0, 0, none⟩)) (h7 : tmps.getD 7 undef = .pointer (some ⟨b1, 0, none⟩)) (R : Ending → World → Prop)
  (hR : ∀ w'', Kp (fun i => i = b0 ∨ i = b1) wx w'' → R (.returned (.tuple #[.pointer none, .int .i64 (k : Int)])) w'') :
  Leaves Tryz.prog Tryz.f44 tmps R [{ target := .fn (.func 92) #[.pointer (some ⟨b0, 0, none⟩), .pointer (some ⟨b1, 0, none⟩)], args := #[] }] (.panicking [{ v := .iface 172 (.agg #[.int .i64 (k : Int)]), recovered := false }]) wx := by
 refine leaves_cons (f := 92) (args := #[.pointer (some ⟨b0, 0, none⟩), .pointer (some ⟨b1, 0, none⟩)]) (by simp) (by simp [go_sem]) ?_
 refine (show CallsD Tryz.prog 92 #[.pointer (some ⟨b0, 0, none⟩), .pointer (some ⟨b1, 0, none⟩)] (.panicking [{ v := .iface 172 (.agg #[.int .i64 (k : Int)]), recovered := false }]) wx _ from sclose_panic b0 b1 k x y [] wx hc hf hb hq hqf hqb hne).mono ?_
 rintro e u' w'' ⟨rfl, rfl, hk, c0, c1⟩
 refine ⟨.tuple #[.pointer none, .int .i64 (k : Int)], ?_, hR _ hk⟩
 have h6' : tmps[6]?.getD undef = .pointer (some ⟨b0, 0, none⟩) := by rw [← h6, Array.getD_eq_getD_getElem?]
 have h7' : tmps[7]?.getD undef = .pointer (some ⟨b1, 0, none⟩) := by rw [← h7, Array.getD_eq_getD_getElem?]
 simp [results, Tryz.results44, go_sem, h6', h7', c0, c1]
set_option maxRecDepth 100000 in
set_option maxHeartbeats 2000000 in
theorem sOpen_nodisk (P : ByteArray) (o : Int) (w : World) : Calls Tryz.prog 44 #[.pointer none, .string P, .int .i64 o] w fun e w' => e = .returned (.tuple #[.pointer none, .int .i64 1]) ∧ Kp No w w' := by
 have hmf : ∀ (fn : Fn) (first cap : Array Value) (w : World), (Instr.makeFunc fn first cap).run Tryz.prog w = .ok (.func fn first cap) w := fun _ _ _ _ => rfl
 go_enter_defers Tryz.func44, Tryz.ntmps44
 go_wp2_with fail
 refine (right_bad 1 _).mono ?_
 rintro e wx ⟨rfl, rfl⟩
 have h1 := heap_alloc_new w (.cells #[.pointer none] 35)
 have h2 := heap_alloc_new (w.alloc (.cells #[.pointer none] 35)) (.cells #[.int .i64 0] 47)
 rw [show (w.alloc (.cells #[.pointer none] 35)).heap.size = w.heap.size + 1 from by simp] at h2
 have h3 := alloc_far h1 (.cells #[.int .i64 0] 47)
 have hk2 : Kp No w ((w.alloc (.cells #[.pointer none] 35)).alloc (.cells #[.int .i64 0] 47)) := ((Kp.refl _ _).alloc _).alloc _
 obtain ⟨wx, hwx⟩ : ∃ W, W = (w.alloc (.cells #[.pointer none] 35)).alloc (.cells #[.int .i64 0] 47) := ⟨_, rfl⟩
 rw [← hwx] at h2 h3 hk2 ⊢
 refine sopen_shut (wx := wx) (b0 := w.heap.size) (b1 := w.heap.size + 1) (x := .pointer none) (y := .int .i64 0) 1 (cell_at h3 0) (free_at h3 0) (get_lt h3) (cell_at h2 0) (free_at h2 0) (get_lt h2) (by omega) _ rfl rfl _ fun w'' hk => ⟨rfl, ?_⟩
 exact hk2.trans hk fun i hi hb => by omega
end Go.Proofs.YtgnkmjeoaoongaaGreatDoor

