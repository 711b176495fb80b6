/-
  Texts laid together: WSync, XSync2.
-/
import Derived.Test.YtdibkdgafidjgaaGreatDoorWb2
namespace Go.Proofs.YtdibkdgafidjgaaGreatDoor
open Go.RowKit Go.Mer
theorem SaidW.dead {w W2 w3 w4 : World} {d l : Nat} {P : ByteArray} {F G T : Nat → Prop} {s' : DSt} {st' : LSt} (hF : ∀ k, F k → k < w.heap.size) (hG : ∀ k, G k → k < w.heap.size) (hS : SaidW W2 d l P F G s' st' w3) (hk0 : Kp No w W2) (hk : Kp T w3 w4) (hT : ∀ k, T k → w.heap.size ≤ k ∧ (k < W2.heap.size ∨ w3.heap.size ≤ k)) (b : Bool) :
  (∃ z, w4.cell? ⟨l, 5, none⟩ = some z) ∧ w4.frozen? ⟨l, 5, none⟩ = false ∧ l < w4.heap.size ∧ SaidW w d l P F G s' { st' with dead := b } (w4.setCell ⟨l, 5, none⟩ (.bool b)) := by
 obtain ⟨F', G', hW, hFF, hGG, hKK⟩ := hS
 have hs0 := hk0.size
 have hs1 := hKK.size
 have hfw : ∀ k, F' k → F k ∨ W2.heap.size ≤ k := hFF
 have hTF : ∀ k, F' k → ¬ T k := fun k hf ht => by
  have h1 := hT k ht
  have h2 := hW.disk.lt k hf
  rcases hFF k hf with h3 | h3
  ·have := hF k h3; omega
  ·omega
 have hTG : ∀ k, G' k → ¬ T k := fun k hg ht => by
  have h1 := hT k ht
  have h2 := hW.log.lt k hg
  rcases hGG k hg with h3 | h3
  ·have := hG k h3; omega
  ·omega
 have hD4 := hW.disk.keep hk hTF
 have hL4 := hW.log.keep hk hTG
 have hW4 : WAt w4 d l P s' st' F' G' := ⟨hD4, hL4, hW.sep⟩
 obtain ⟨sv, ev, E, hrun, hE, _⟩ := LRun.start hL4
 obtain ⟨_, _, _, _, _, c5, fr⟩ := hrun.c.cells
 have hll := get_lt hrun.c.cell
 have hcl := set_at hrun.c.cell 5 (.bool b)
 have hR2 := hrun.flag (synced' := st'.synced) (dead' := b) (W' := w4.setCell ⟨l, 5, none⟩ (.bool b)) ((Kp.refl (One l) _).setCell (p := ⟨l, 5, none⟩) (.inl rfl) _) (by simpa using hcl)
 obtain ⟨G2, hL2, hG2, hK2⟩ := hR2.stop
 rw [← hE] at hL2
 have hW5 := hW4.turnL hL2 hG2 hK2
 refine ⟨⟨_, c5 w4 (Kp.refl _ _)⟩, fr w4 (Kp.refl _ _) 5, hll, F', G2, hW5, fun k hk' => (hFF k hk').imp id fun h => Nat.le_trans hs0 h, fun k hk' => ?_, ?_⟩
 ·rcases hG2 k hk' with h | h
  ·exact (hGG k h).imp id fun h => Nat.le_trans hs0 h
  ·right
   have := hk.size
   omega
 ·have h1 : Kp (Both F G) w w3 := (Kp.of_no hk0).trans_same hKK
  have h2 : Kp (Both F G) w w4 := h1.trans hk fun i hi ht => by have := hT i ht; omega
  refine h2.trans hK2 fun i hi hg => ?_
  rcases hGG i hg with h | h
  ·exact .inr h
  ·omega
theorem SaidW.keep {w a b : World} {d l : Nat} {P : ByteArray} {F G : Nat → Prop} {s' : DSt} {st' : LSt} (h : SaidW w d l P F G s' st' a) (hk : Kp No a b) : SaidW w d l P F G s' st' b := by
 obtain ⟨F', G', h1, h2, h3, h4⟩ := h
 exact ⟨F', G', h1.no hk, h2, h3, h4.trans_no hk⟩
def SncP (w : World) (d l : Nat) (P : ByteArray) (F G : Nat → Prop) (r : Int × DSt × LSt) (e : Ending) (w' : World) : Prop := e = .returned (.int .i64 r.1) ∧ SaidW w d l P F G r.2.1 r.2.2 w'
theorem sy_nat {s : DSt} {x : ByteArray} : ∃ k : Nat, (syS s x).1 = (k : Int) := by
 obtain ⟨n, hn⟩ := Int.eq_ofNat_of_zero_le (sy_code s x).1
 exact ⟨n, hn⟩
theorem syncs_nat (P : ByteArray) (s : DSt) (st : LSt) : ∃ k : Nat, (syncsS P s st).1 = (k : Int) := by
 unfold syncsS
 split
 ·split
  ·exact ⟨0, rfl⟩
  ·exact sy_nat
 ·exact ⟨0, rfl⟩
set_option maxRecDepth 100000 in
set_option maxHeartbeats 4000000 in
theorem wSync_any (w : World) (d l : Nat) (P : ByteArray) (s : DSt) (st : LSt) (F G : Nat → Prop) (h : WAt w d l P s st F G) (hne : st.segs = [] → st.ents.length ≤ st.synced) :
  Calls Tryz.prog 16 #[.pointer (some ⟨l, 0, none⟩)] w (SncP w d l P F G (sncS P s st)) := by
 have hmf : ∀ (fn : Fn) (first cap : Array Value) (w : World), (Instr.makeFunc fn first cap).run Tryz.prog w = .ok (.func fn first cap) w := fun _ _ _ _ => rfl
 obtain ⟨sv, ev, E, hC, hE, hLF, hGl⟩ := h.log
 obtain ⟨_, _, _, _, _, c5, fr⟩ := hC.cells
 have hll := get_lt hC.cell
 have hFlt := h.disk.lt
 have hGlt := h.log.lt
 have HC5 := Lib.hid c5
 have H := Lib.hid h
 have HNE := Lib.hid hne
 have HFL := Lib.hid hFlt
 have HGL := Lib.hid hGlt
 clear h hE hLF hGl hC fr c5 hFlt hGlt hne
 cases hd : st.dead with
 | true =>
  have hq : sncS P s st = (9, s, st) := by unfold sncS; rw [if_pos hd]
  have HQ := Lib.hid hq
  have hk2 : Kp No w ((w.alloc (.cells #[.pointer (some ⟨l, 0, none⟩)] 30)).alloc (.cells #[.int .i64 0] 35)) := ((Kp.refl No w).alloc _).alloc _
  have c5w := HC5.out _ hk2
  rw [hd] at c5w
  clear hq hd hk2
  go_enter_defers Tryz.func16, Tryz.ntmps16
  go_wp2_with fail
  refine bodyD_none (v := .int .i64 9) rfl (by simp [results, Tryz.results16, go_sem]) ⟨by rw [HQ.out], ?_⟩
  rw [HQ.out]
  exact SaidW.here H.out (((Kp.refl No w).alloc _).alloc _)
 | false =>
  have hq : sncS P s st = ((syncsS P s st).1, (syncsS P s st).2.1, { (syncsS P s st).2.2 with dead := decide ((syncsS P s st).1 ≠ 0) }) := by
   unfold sncS
   rw [if_neg (by rw [hd]; decide)]
  have HQ := Lib.hid hq
  obtain ⟨W2, hW2⟩ : ∃ W, W = (w.alloc (.cells #[.pointer (some ⟨l, 0, none⟩)] 30)).alloc (.cells #[.int .i64 0] 35) := ⟨_, rfl⟩
  have hk2 : Kp No w W2 := by rw [hW2]; exact ((Kp.refl No w).alloc _).alloc _
  have c5w := HC5.out W2 hk2
  rw [hd] at c5w
  have b0c : W2.cell? ⟨w.heap.size, 0, none⟩ = some (.pointer (some ⟨l, 0, none⟩)) := by rw [hW2]; simp [go_sem]
  have b1c : W2.cell? ⟨w.heap.size + 1, 0, none⟩ = some (.int .i64 0) := by rw [hW2]; simp [go_sem]
  have b1f : W2.frozen? ⟨w.heap.size + 1, 0, none⟩ = false := by rw [hW2]; simp [go_sem]
  have hs2 : W2.heap.size = w.heap.size + 1 + 1 := by rw [hW2]; simp
  have hsy := syncs_any W2 d l P s st F G (H.out.no hk2) HNE.out
  obtain ⟨b0, hb0⟩ : ∃ b0, b0 = w.heap.size := ⟨_, rfl⟩
  have HSY := Lib.hid hsy
  have HK2 := Lib.hid hk2
  have HW2 := Lib.hid hW2
  have HB0 := Lib.hid hb0
  have c5x := c5w
  rw [hW2] at c5x
  rw [← hb0] at b0c b1c b1f hs2
  clear hq hd hk2 hsy c5w hW2
  go_enter_defers Tryz.func16, Tryz.ntmps16
  go_upto_region 6 with fail
  rw [← HW2.out, ← hb0]
  clear c5x hb0
  go_wp2_with fail
  have hc := HSY.out
  with_reducible refine hc.mono ?_
  rintro e w3 ⟨hs3, hgp⟩
  clear hc HSY
  obtain ⟨k, hk⟩ := syncs_nat P s st
  rw [hk] at hgp
  have hkb : Kp (Both F G) W2 w3 := by
   obtain ⟨_, _, _, _, _, hkk⟩ := hs3
   exact hkk
  have hbF : ∀ i, b0 ≤ i → ¬ Both F G i := fun i hi hb => by
   have h0 := HB0.out
   rcases hb with hb | hb
   ·have := HFL.out i hb; omega
   ·have := HGL.out i hb; omega
  have hln : l < b0 := by rw [HB0.out]; exact hll
  have g0 : w3.cell? ⟨b0, 0, none⟩ = some (.pointer (some ⟨l, 0, none⟩)) := (hkb.cell (p := ⟨b0, 0, none⟩) (by show b0 < _; omega) (hbF b0 (Nat.le_refl _))).trans b0c
  have g1 : w3.cell? ⟨b0 + 1, 0, none⟩ = some (.int .i64 0) := (hkb.cell (p := ⟨b0 + 1, 0, none⟩) (by show b0 + 1 < _; omega) (hbF (b0 + 1) (by omega))).trans b1c
  have f1 : w3.frozen? ⟨b0 + 1, 0, none⟩ = false := (hkb.frozen (p := ⟨b0 + 1, 0, none⟩) (by show b0 + 1 < _; omega) (hbF (b0 + 1) (by omega))).trans b1f
  have hl3 : b0 + 1 < w3.heap.size := by have := hkb.size; omega
  have hs3s := hkb.size
  have HS3 := Lib.hid hs3
  have HK := Lib.hid hk
  have hTs : ∀ i, i = b0 + 1 → w.heap.size ≤ i ∧ (i < W2.heap.size ∨ w3.heap.size ≤ i) := fun i hi => by have := HB0.out; omega
  have HTS := Lib.hid hTs
  rcases hgp with ⟨hz, rfl⟩ | ⟨hz, rfl⟩
  ·obtain ⟨w4, hw4⟩ : ∃ W, W = w3.setCell ⟨b0 + 1, 0, none⟩ (.int .i64 0) := ⟨_, rfl⟩
   have k4 : Kp (fun i => i = b0 + 1) w3 w4 := by rw [hw4]; exact (Kp.refl (fun i => i = b0 + 1) w3).setCell (p := ⟨b0 + 1, 0, none⟩) (.inl rfl) _
   obtain ⟨⟨z, hz5⟩, hf5, hl5, hfin⟩ := HS3.out.dead HFL.out HGL.out HK2.out k4.drew (by exact HTS.out) false
   have q0 : w4.cell? ⟨b0, 0, none⟩ = some (.pointer (some ⟨l, 0, none⟩)) := (k4.cell (p := ⟨b0, 0, none⟩) (by show b0 < _; omega) (by show ¬ b0 = b0 + 1; omega)).trans g0
   have q1 : w4.cell? ⟨b0 + 1, 0, none⟩ = some (.int .i64 0) := by rw [hw4]; simp [go_sem, g1]
   have hce := sync_idle ⟨b0 + 1, 0, none⟩ ⟨b0, 0, none⟩ l z w4 q0 hz5 hf5
   have HCE := Lib.hid hce
   have HFIN := Lib.hid hfin
   have HR1 := Lib.hid q1
   have HW4 := Lib.hid hw4
   clear hce hfin hw4 k4 q0 q1 hz5 hf5 hl5
   go_wp2_with fail
   rw [← HW4.out]
   refine leaves_cons (f := 51) (args := #[.pointer (some ⟨b0 + 1, 0, none⟩), .pointer (some ⟨b0, 0, none⟩)]) (by simp) (by simp [go_sem]) ?_
   refine HCE.out.mono ?_
   rintro e u' w'' ⟨rfl, rfl, rfl⟩
   refine ⟨.int .i64 0, ?_, ?_⟩
   ·simp [results, Tryz.results16, go_sem, HR1.out]
   ·refine ⟨?_, ?_⟩
    ·rw [HQ.out, HK.out, hz]
    ·rw [HQ.out, HK.out, hz]
     exact HFIN.out
  ·obtain ⟨⟨z, hz5⟩, hf5, hl5, _⟩ := HS3.out.dead HFL.out HGL.out HK2.out (Kp.refl (fun i => i = b0 + 1) w3) (by exact HTS.out) true
   have hce := sync_panic (b0 + 1) 0 k ⟨b0, 0, none⟩ l (.int .i64 0) z [] w3 g1 f1 hl3 g0 (by show b0 < _; omega) (by show ¬ b0 = b0 + 1; omega) hz5 hf5 hl5 (by omega)
   refine leaves_cons (f := 51) (args := #[.pointer (some ⟨b0 + 1, 0, none⟩), .pointer (some ⟨b0, 0, none⟩)]) (by simp) (by simp [go_sem]) ?_
   refine (show CallsD Tryz.prog 51 #[.pointer (some ⟨b0 + 1, 0, none⟩), .pointer (some ⟨b0, 0, none⟩)] (.panicking (failP (k : Int))) w3 _ from hce).mono ?_
   rintro e u' w'' ⟨rfl, rfl, o, rfl⟩
   have k4 : Kp (fun i => i = b0 + 1) w3 ((w3.drew.setCell ⟨b0 + 1, 0, none⟩ (.int .i64 (k : Int))).alloc o) := (((Kp.refl (fun i => i = b0 + 1) w3).drew).setCell (p := ⟨b0 + 1, 0, none⟩) (.inl rfl) _).alloc _
   have hno : Kp No (w3.drew.setCell ⟨b0 + 1, 0, none⟩ (.int .i64 (k : Int))) ((w3.drew.setCell ⟨b0 + 1, 0, none⟩ (.int .i64 (k : Int))).alloc o) := (Kp.refl _ _).alloc _
   have q1 : ((w3.drew.setCell ⟨b0 + 1, 0, none⟩ (.int .i64 (k : Int))).alloc o).cell? ⟨b0 + 1, 0, none⟩ = some (.int .i64 (k : Int)) := by
    rw [hno.cell (p := ⟨b0 + 1, 0, none⟩) (by simpa using hl3) (fun x => x)]
    simp [go_sem, g1]
   obtain ⟨_, _, _, hfin⟩ := HS3.out.dead HFL.out HGL.out HK2.out k4 (by exact HTS.out) true
   obtain ⟨w4, hw4⟩ : ∃ W, W = (w3.drew.setCell ⟨b0 + 1, 0, none⟩ (.int .i64 (k : Int))).alloc o := ⟨_, rfl⟩
   rw [← hw4] at q1 hfin ⊢
   refine ⟨.int .i64 (k : Int), ?_, ?_⟩
   ·simp [results, Tryz.results16, go_sem, q1]
   ·refine ⟨?_, ?_⟩
    ·rw [HQ.out, HK.out]
    ·rw [HQ.out, HK.out]
     have hkz : decide ((k : Int) ≠ 0) = true := decide_eq_true hz
     rw [hkz]
     exact hfin
end Go.Proofs.YtdibkdgafidjgaaGreatDoor
namespace Go.Proofs.YtdibkdgafidjgaaGreatDoor
open Go.RowKit Go.Mer
theorem SaidX.keep {w a b : World} {d l : Nat} {P : ByteArray} {F G : Nat → Prop} {s' : DSt} {st' : LSt} (h : SaidX w d l P F G s' st' a) (hk : Kp No a b) : SaidX w d l P F G s' st' b := by
 obtain ⟨F', G', h1, h2, h3, h4⟩ := h
 exact ⟨F', G', h1.no hk, h2, h3, h4.trans_no hk⟩
def SnxP (w : World) (r x : Nat) (P : ByteArray) (F G : Nat → Prop) (q : Int × DSt × LSt) (e : Ending) (w' : World) : Prop := e = .returned (.int .i64 q.1) ∧ SaidX w r x P F G q.2.1 q.2.2 w'
set_option maxRecDepth 100000 in
set_option maxHeartbeats 4000000 in
theorem xSync_any (w : World) (r x : Nat) (P : ByteArray) (s : DSt) (st : LSt) (F G : Nat → Prop) (h : XAt w r x P s st F G) (hne : st.segs = [] → st.ents.length ≤ st.synced) (hsl : st.synced ≤ st.ents.length) (hlen : st.ents.length ≤ 1000000) (hz : ∀ z ∈ st.segs, z.1 < 1000000) (hP : P.size ≤ 50) :
  Calls Tryz.prog 17 #[.pointer (some ⟨x, 0, none⟩)] w (SnxP w r x P F G (sncS P s st)) := by
 obtain ⟨sv, ev, E, hC, hE, hLF, hGl⟩ := h.log
 obtain ⟨ea, ec, rfl, hec, _⟩ := hC.ents.rd
 have hcF : ∀ W, Kp F w W → RLogC W x r P sv (.slice ea E.length ec) (st.segs.map (·.1)) E (st.synced + 1) st.dead := fun W hW => hC.keep hW (fun k hk hf => h.sep k hf (hLF k hk))
 have hll := get_lt hC.cell
 have c0 : ∀ W, Kp F w W → W.cell? ⟨x, 0, none⟩ = some (.pointer (some ⟨r, 0, none⟩)) := fun W hW => (hcF W hW).cells.1 W (Kp.refl _ _)
 have c1 : ∀ W, Kp F w W → W.cell? ⟨x, 1, none⟩ = some (.string P) := fun W hW => (hcF W hW).cells.2.1 W (Kp.refl _ _)
 have c2 : ∀ W, Kp F w W → W.cell? ⟨x, 2, none⟩ = some (.slice ea E.length ec) := fun W hW => (hcF W hW).cells.2.2.1 W (Kp.refl _ _)
 have c3 : ∀ W, Kp F w W → W.cell? ⟨x, 3, none⟩ = some sv := fun W hW => (hcF W hW).cells.2.2.2.1 W (Kp.refl _ _)
 have c4 : ∀ W, Kp F w W → W.cell? ⟨x, 4, none⟩ = some (.int .i64 ((st.synced + 1 : Nat) : Int)) := fun W hW => (hcF W hW).cells.2.2.2.2.1 W (Kp.refl _ _)
 have c5 : ∀ W, Kp F w W → W.cell? ⟨x, 5, none⟩ = some (.bool st.dead) := fun W hW => (hcF W hW).cells.2.2.2.2.2.1 W (Kp.refl _ _)
 have c5w := c5 w (Kp.refl _ _)
 obtain ⟨n, hn⟩ : ∃ n, n = E.length := ⟨_, rfl⟩
 have hnl : st.ents.length = n := by rw [hE, List.length_map, hn]
 rw [← hn] at c2
 obtain ⟨y, hy⟩ : ∃ y, y = st.synced + 1 := ⟨_, rfl⟩
 rw [← hy] at c4
 obtain ⟨n1, hn1⟩ : ∃ n1, n1 = n + 1 := ⟨_, rfl⟩
 have HW1 := Lib.hid (show wrap64 ((n : Int) + 1) = (n1 : Int) by rw [IntWalk.wrap64_in _ (by omega), hn1]; push_cast; rfl)
 have H := Lib.hid h
 have HC := Lib.hid hC
 have HE := Lib.hid hE
 have HLF := Lib.hid hLF
 have HN := Lib.hid hn
 have HNL := Lib.hid hnl
 have HY := Lib.hid hy
 have HN1 := Lib.hid hn1
 have HSL := Lib.hid hsl
 have HCF := Lib.hid hcF
 cases hd : st.dead with
 | true =>
  have HQ := Lib.hid (show sncS P s st = (9, s, st) by unfold sncS; rw [if_pos hd])
  rw [hd] at c5w
  clear h hC hE hLF hGl hn hnl hy hn1 hsl hcF hd c5 hne hz hec
  go_enter Tryz.func17, Tryz.ntmps17
  go_wp2_with fail
  go_ret
  rw [HQ.out]
  exact ⟨rfl, SaidX.here H.out (Kp.refl _ _)⟩
 | false =>
  have hq : sncS P s st = ((syncsS P s st).1, (syncsS P s st).2.1, { (syncsS P s st).2.2 with dead := decide ((syncsS P s st).1 ≠ 0) }) := by
   unfold sncS
   rw [if_neg (by rw [hd]; decide)]
  by_cases hyn : y = n1
  ·have hsy : syncsS P s st = (0, s, st) := by
    unfold syncsS
    rw [if_neg (by omega)]
   have HQ := Lib.hid (show sncS P s st = (0, s, st) by
    rw [hq, hsy]
    have : ({ st with dead := decide ((0 : Int) ≠ 0) } : LSt) = st := by
     have h0 : decide ((0 : Int) ≠ 0) = false := by decide
     rw [h0, ← hd]
    simp only
    rw [this])
   have e1 : ((y : Int) == (n1 : Int)) = true := by rw [beq_iff_eq, hyn]
   rw [hd] at c5w
   clear h hC hE hLF hGl hn hnl hy hn1 hsl hcF hd c5 hne hz hec hsy hq hyn
   go_enter Tryz.func17, Tryz.ntmps17
   have hw1 := HW1.out
   go_upto_region 3 with fail
   refine wp_region_held' (Kp F w) [0,0,0,0,0,0,0,0,1,0,0] [0,1,2,3,4,5,6,7,8,9,10] (by kernel_rfl) (by kernel_rfl) (fun _ n h => h.drewN n) (Kp.refl _ _) ?_
   repeat (first
    | (apply wpOrd_skip rfl (by decide) rfl; (focus (go_simp; rfl)))
    | (apply wpOrd_pure rfl rfl rfl; (focus (intro _ _; go_simp; (try go_ints); rfl)); (focus (go_simp; rfl)))
    | (apply wpOrd_read rfl rfl rfl; (focus (intro _; go_simp; (try go_ints); rfl)); (focus (go_simp; rfl))))
   refine wpOrd_nil (fun nq => ?_)
   go_wp2_with fail
   go_ret
   rw [HQ.out]
   exact ⟨rfl, SaidX.here H.out ((Kp.refl No w).drewN nq)⟩
  ·have hlt : st.synced < st.ents.length := by omega
   rcases List.eq_nil_or_concat st.segs with hsg | ⟨S1, z, hsg⟩
   ·have := hne hsg
    omega
   ·rw [List.concat_eq_append] at hsg
    have hC2 := hC
    rw [hsg, List.map_append, List.map_cons, List.map_nil] at hC2
    obtain ⟨sg, soff, sn, sc, rfl, hsn, hsnb, hsgl, hsc0⟩ := hC2.lastNo
    obtain ⟨m2, hm2⟩ : ∃ m2, m2 = (S1.map (·.1)).length := ⟨_, rfl⟩
    rw [← hm2] at hsn hsc0
    have hms : m2 < sn := by omega
    have hw3 : (sn : Int) - 1 = (m2 : Int) := by omega
    have hzlt := hz z (by rw [hsg]; simp)
    have hsgF : ¬ F sg := fun hf => h.sep sg hf (hLF sg (.inr (.inl rfl)))
    have hsc : ∀ W, Kp F w W → W.cell? ⟨sg, soff + m2, none⟩ = some (.int .i64 (z.1 : Int)) := fun W hW => (hW.cell (p := ⟨sg, soff + m2, none⟩) hsgl hsgF).trans (hsc0 w (Kp.refl _ _))
    have HSY := Lib.hid (show syncsS P s st = ((syS s (bnm P z.1)).1, (syS s (bnm P z.1)).2, if (syS s (bnm P z.1)).1 = 0 then { st with synced := st.ents.length } else st) by
     unfold syncsS
     rw [if_pos hlt, hsg, List.getLast?_append]
     rfl)
    obtain ⟨zn, hzn⟩ : ∃ zn, zn = z.1 := ⟨_, rfl⟩
    rw [← hzn] at hsc HSY hzlt
    have HNM := Lib.hid (fun W => rName_bnm P (by omega) zn hzlt W)
    have e1 : ((y : Int) == (n1 : Int)) = false := by rw [beq_eq_false_iff_ne]; omega
    have HQ := Lib.hid hq
    have HD := Lib.hid hd
    rw [hd] at c5w
    clear h hC hC2 hE hLF hGl hn hnl hy hn1 hsl hcF hd c5 hne hz hec hq hyn hsg hm2 hsn hzlt hsc0 hzn hlt
    go_enter Tryz.func17, Tryz.ntmps17
    have hw1 := HW1.out
    go_upto_region 3 with fail
    refine wp_region_held' (Kp F w) [0,0,0,0,0,0,0,0,1,0,0] [0,1,2,3,4,5,6,7,8,9,10] (by kernel_rfl) (by kernel_rfl) (fun _ n h => h.drewN n) (Kp.refl _ _) ?_
    repeat (first
     | (apply wpOrd_skip rfl (by decide) rfl; (focus (go_simp; rfl)))
     | (apply wpOrd_pure rfl rfl rfl; (focus (intro _ _; go_simp; (try go_ints); rfl)); (focus (go_simp; rfl)))
     | (apply wpOrd_read rfl rfl rfl; (focus (intro _; go_simp; (try go_ints); rfl)); (focus (go_simp; rfl))))
    refine wpOrd_nil (fun nq => ?_)
    clear hw1
    go_upto_region 5 with fail
    obtain ⟨w2, hw2⟩ : ∃ W, W = w.drewN nq := ⟨_, rfl⟩
    have hk2 : Kp No w w2 := by rw [hw2]; exact (Kp.refl No w).drewN nq
    rw [← hw2]
    clear hw2
    have c2w : w2.cell? ⟨x, 3, none⟩ = some (.slice (some ⟨sg, soff, none⟩) sn sc) := c3 w2 (Kp.of_no hk2)
    refine wp_region_held' (Kp F w) [0,0,0,0,0,0,0,0,0,0,0,0,0,0,0,0,1,0,0,0,2,2,0] [0,1,2,3,4,5,6,7,8,9,10,11,12,13,14,15,16,17,18,19,20,21,22] (by kernel_rfl) (by kernel_rfl) (fun _ n h => h.drewN n) (Kp.of_no hk2) ?_
    repeat (first
     | (apply wpOrd_skip rfl (by decide) rfl; (focus (go_simp; rfl)))
     | (apply wpOrd_pure rfl rfl rfl; (focus (intro _ _; go_simp; (try go_ints); rfl)); (focus (go_simp; rfl)))
     | (apply wpOrd_read rfl rfl rfl; (focus (intro _; go_simp; (try go_ints); rfl)); (focus (go_simp; rfl))))
    have HCF3 := Lib.hid c3
    clear c0 c1 c2 c3 c4 hsc c2w
    refine wpOrd_eff rfl rfl (fun n2 => ?_)
    have hc := HNM.out (w2.drewN n2)
    go_wp2_with fail
    with_reducible refine hc.mono ?_
    rintro e w3 ⟨rfl, hk3⟩
    clear hc
    go_wp2_with fail
    have hk3' : Kp No w w3 := hk2.trans_same hk3.of_drewN
    refine ⟨Kp.of_no hk3', ?_⟩
    refine wpOrd_eff rfl rfl (fun n3 => ?_)
    have hc := rSync_any (w3.drewN n3) r s F (H.out.disk.keep_no (hk3'.drewN n3)) (bnm P zn)
    obtain ⟨q, hqe⟩ : ∃ q, q = syS s (bnm P zn) := ⟨_, rfl⟩
    obtain ⟨kn, hkn⟩ := sy_nat (s := s) (x := bnm P zn)
    have hsy := HSY.out
    rw [← hqe] at hc hkn hsy
    have HQY := Lib.hid hsy
    have HKN := Lib.hid hkn
    have HK3 := Lib.hid hk3'
    clear hqe hkn hsy HSY hk3 hk2 hk3'
    go_wp2_with fail
    with_reducible refine hc.mono ?_
    rintro e w4 ⟨rfl, F4, hD4, hF4, hK4⟩
    clear hc
    have hk34 : Kp F w3 w4 := hK4.of_drewN
    have hX4 : XAt w4 r x P q.2 st F4 G := (H.out.no HK3.out).turnD hD4 hF4 hk34
    have HX4 := Lib.hid hX4
    have HF4 := Lib.hid (show Foot F F4 w from fun k hk => (hF4 k hk).imp id fun h => Nat.le_trans HK3.out.size h)
    have HK4 := Lib.hid (show Kp F w w4 from (Kp.of_no HK3.out).trans_same hk34)
    clear hD4 hF4 hK4 hk34 hX4
    rw [HKN.out]
    go_wp2_with fail
    refine ⟨HK4.out, ?_⟩
    repeat (first
     | (apply wpOrd_skip rfl (by decide) rfl; (focus (go_simp; rfl)))
     | (apply wpOrd_pure rfl rfl rfl; (focus (intro _ _; go_simp; (try go_ints); rfl)); (focus (go_simp; rfl)))
     | (apply wpOrd_read rfl rfl rfl; (focus (intro _; go_simp; (try go_ints); rfl)); (focus (go_simp; rfl))))
    refine wpOrd_nil (fun nq => ?_)
    obtain ⟨w5, hw5⟩ : ∃ W, W = w4.drewN nq := ⟨_, rfl⟩
    have hk5 : Kp No w4 w5 := by rw [hw5]; exact (Kp.refl No w4).drewN nq
    rw [← hw5]
    have HX5 := Lib.hid (HX4.out.no hk5)
    have HK5 := Lib.hid (HK4.out.trans_no hk5)
    clear hw5
    by_cases hkz : kn = 0
    ·subst hkz
     have hC5 := HCF.out w5 HK5.out
     obtain ⟨_, _, f2, _, f4, _, ffr⟩ := hC5.cells
     have f2w := f2 w5 (Kp.refl _ _)
     have f4w := f4 w5 (Kp.refl _ _)
     have ffw := ffr w5 (Kp.refl _ _) 4
     rw [← HN.out] at f2w
     have hl5 := get_lt hC5.cell
     have hcl := set_at hC5.cell 4 (.int .i64 ((n + 1 : Nat) : Int))
     have hLR : XLRun w5 w5 x r P (.slice (some ⟨sg, soff, none⟩) sn sc) (.slice ea E.length ec) (st.segs.map (·.1)) E (st.synced + 1) st.dead G := ⟨hC5, fun k hk => .inl (HLF.out k hk), Kp.refl _ _⟩
     have hLR2 := hLR.flag (synced' := n + 1) (dead' := st.dead) (W' := w5.setCell ⟨x, 4, none⟩ (.int .i64 ((n + 1 : Nat) : Int))) ((Kp.refl (One x) _).setCell (p := ⟨x, 4, none⟩) (.inl rfl) _) (by simpa using hcl)
     obtain ⟨G2, hL2, hG2, hK2⟩ := hLR2.stop rfl
     have hX6 := HX5.out.turnL hL2 hG2 hK2
     have HFIN := Lib.hid (show SnxP w r x P F G (sncS P s st) (.returned (.int .i64 0)) (w5.setCell ⟨x, 4, none⟩ (.int .i64 ((n + 1 : Nat) : Int))) from by
      have h0 : q.1 = 0 := HKN.out
      unfold SnxP
      rw [HQ.out, HQY.out]
      simp only
      rw [h0, if_pos rfl]
      refine ⟨rfl, F4, G2, ?_, HF4.out, fun k hk => (hG2 k hk).imp id fun h => Nat.le_trans HK5.out.size h, ?_⟩
      ·rw [← HE.out] at hX6
       have hst : ({ { st with synced := st.ents.length } with dead := decide ((0 : Int) ≠ 0) } : LSt) = ⟨st.ents, st.segs, n, st.dead⟩ := by
        rw [HNL.out, HD.out]
        rfl
       rw [hst]
       exact hX6
      ·exact (HK5.out.mono (T := Both F G) fun _ _ x => .inl x).trans hK2 fun i _ x => .inr x)
     have hn1c : ((n1 : Nat) : Int) = ((n + 1 : Nat) : Int) := by rw [HN1.out]
     rw [← hn1c] at HFIN
     clear hC5 hcl hLR hLR2 hL2 hG2 hK2 hX6 f2 f4 ffr hn1c
     have hw1 := HW1.out
     go_wp2_with fail
     go_ret
     exact HFIN.out
    ·have e3 : ((kn : Int) == (0 : Int)) = false := by rw [beq_eq_false_iff_ne]; omega
     have e4 : ((kn : Int) != (0 : Int)) = true := by rw [bne, e3]; rfl
     obtain ⟨⟨z5, hz5⟩, hf5, hl5, hfin⟩ := HX5.out.dead true
     have HFIN := Lib.hid (show SnxP w r x P F G (sncS P s st) (.returned (.int .i64 (kn : Int))) (w5.setCell ⟨x, 5, none⟩ (.bool true)) from by
      unfold SnxP
      rw [HQ.out, HQY.out]
      simp only
      rw [HKN.out, if_neg (show ¬ ((kn : Int) = 0) by omega)]
      refine ⟨rfl, ?_⟩
      have hkz' : decide ((kn : Int) ≠ 0) = true := decide_eq_true (by omega)
      rw [hkz']
      obtain ⟨F6, G6, h1, h2, h3, h4⟩ := hfin
      refine ⟨F6, G6, h1, HF4.out.trans (fun k hk => h2 k hk) HK5.out.size, fun k hk => (h3 k hk).imp id fun h => Nat.le_trans HK5.out.size h, ?_⟩
      refine (HK5.out.mono (T := Both F G) fun _ _ x => .inl x).trans h4 fun i hi hb => ?_
      rcases hb with hb | hb
      ·rcases HF4.out i hb with h5 | h5
       ·exact .inl h5
       ·omega
      ·exact .inr hb)
     clear hfin
     go_wp2_with fail
     go_ret
     exact HFIN.out
end Go.Proofs.YtdibkdgafidjgaaGreatDoor

