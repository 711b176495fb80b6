/-
  Texts laid together: WSyncs, XSync, RecAny, WSyncC.
-/
import Derived.Test.YtdibkdgafidjgaaGreatDoorWEndsM
import Derived.Deep.CutRange
import Derived.Test.YtdibkdgafidjgaaGreatDoorWa8
import Derived.Test.YtdibkdgafidjgaaGreatDoorWb1
import Derived.Orders
import Derived.Recover
import Derived.Test.YtdibkdgafidjgaaGreatDoorWa6
namespace Go.Proofs.YtdibkdgafidjgaaGreatDoor
open Go.RowKit Go.Mer
structure WAt (w : World) (d l : Nat) (P : ByteArray) (s : DSt) (st : LSt) (F G : Nat → Prop) : Prop where
 disk : DiskAt w d s F
 log : LogAt w l d P st G
 sep : ∀ k, F k → ¬ G k
def Both (F G : Nat → Prop) : Nat → Prop := fun k => F k ∨ G k
def SaidW (w : World) (d l : Nat) (P : ByteArray) (F G : Nat → Prop) (s' : DSt) (st' : LSt) (w' : World) : Prop :=
 ∃ F' G', WAt w' d l P s' st' F' G' ∧ Foot F F' w ∧ Foot G G' w ∧ Kp (Both F G) w w'
theorem DiskAt.lt {w : World} {d : Nat} {s : DSt} {F : Nat → Prop} (h : DiskAt w d s F) : ∀ k, F k → k < w.heap.size := by
 obtain ⟨_, _, _, _, _, _, _, _, hF⟩ := h
 exact hF
theorem LogAt.lt {w : World} {l d : Nat} {P : ByteArray} {st : LSt} {G : Nat → Prop} (h : LogAt w l d P st G) : ∀ k, G k → k < w.heap.size := by
 obtain ⟨_, _, _, _, _, _, hG⟩ := h
 exact hG
theorem WAt.turnD {w w' : World} {d l : Nat} {P : ByteArray} {s s' : DSt} {st : LSt} {F G F' : Nat → Prop} (h : WAt w d l P s st F G) (hD : DiskAt w' d s' F') (hF : Foot F F' w) (hk : Kp F w w') : WAt w' d l P s' st F' G :=
 ⟨hD, h.log.keep hk fun k hg hf => h.sep k hf hg, fun k hf hg => by
  rcases hF k hf with h1 | h1
  ·exact h.sep k h1 hg
  ·have := h.log.lt k hg; omega⟩
theorem WAt.turnL {w w' : World} {d l : Nat} {P : ByteArray} {s : DSt} {st st' : LSt} {F G G' : Nat → Prop} (h : WAt w d l P s st F G) (hL : LogAt w' l d P st' G') (hG : Foot G G' w) (hk : Kp G w w') : WAt w' d l P s st' F G' :=
 ⟨h.disk.keep hk fun k hf hg => h.sep k hf hg, hL, fun k hf hg => by
  rcases hG k hg with h1 | h1
  ·exact h.sep k hf h1
  ·have := h.disk.lt k hf; omega⟩
theorem WAt.no {w w' : World} {d l : Nat} {P : ByteArray} {s : DSt} {st : LSt} {F G : Nat → Prop} (h : WAt w d l P s st F G) (hk : Kp No w w') : WAt w' d l P s st F G := ⟨h.disk.keep_no hk, h.log.keep_no hk, h.sep⟩
theorem SaidW.here {w w' : World} {d l : Nat} {P : ByteArray} {s : DSt} {st : LSt} {F G : Nat → Prop} (h : WAt w d l P s st F G) (hk : Kp No w w') : SaidW w d l P F G s st w' := ⟨F, G, h.no hk, Foot.refl _ _, Foot.refl _ _, Kp.of_no hk⟩
theorem SaidW.trans {w a b : World} {d l : Nat} {P : ByteArray} {s1 s2 : DSt} {st1 st2 : LSt} {F G : Nat → Prop} (h : ∃ F' G', WAt a d l P s1 st1 F' G' ∧ Foot F F' w ∧ Foot G G' w ∧ Kp (Both F G) w a ∧ SaidW a d l P F' G' s2 st2 b) : SaidW w d l P F G s2 st2 b := by
 obtain ⟨F', G', h1, h2, h3, h4, F2, G2, k1, k2, k3, k4⟩ := h
 refine ⟨F2, G2, k1, h2.trans k2 h4.size, h3.trans k3 h4.size, h4.trans k4 fun i hi hb => ?_⟩
 rcases hb with hb | hb
 ·rcases h2 i hb with x | x
  ·exact .inl x
  ·omega
 ·rcases h3 i hb with x | x
  ·exact .inr x
  ·omega
theorem LogC.cells {w : World} {l d : Nat} {P : ByteArray} {sv ev : Value} {S : List (Nat × Nat)} {E : List Row} {synced : Nat} {dead : Bool} (h : LogC w l d P sv ev S E synced dead) :
  (∀ W, Kp No w W → W.cell? ⟨l, 0, none⟩ = some (.pointer (some ⟨d, 0, none⟩))) ∧ (∀ W, Kp No w W → W.cell? ⟨l, 1, none⟩ = some (.string P)) ∧ (∀ W, Kp No w W → W.cell? ⟨l, 2, none⟩ = some sv) ∧ (∀ W, Kp No w W → W.cell? ⟨l, 3, none⟩ = some ev) ∧
   (∀ W, Kp No w W → W.cell? ⟨l, 4, none⟩ = some (.int .i64 (synced : Int))) ∧ (∀ W, Kp No w W → W.cell? ⟨l, 5, none⟩ = some (.bool dead)) ∧ ∀ W, Kp No w W → ∀ i, W.frozen? ⟨l, i, none⟩ = false :=
 ⟨fun W hW => by rw [cell_at (h.keep_no hW).cell]; rfl, fun W hW => by rw [cell_at (h.keep_no hW).cell]; rfl, fun W hW => by rw [cell_at (h.keep_no hW).cell]; rfl, fun W hW => by rw [cell_at (h.keep_no hW).cell]; rfl,
  fun W hW => by rw [cell_at (h.keep_no hW).cell]; rfl, fun W hW => by rw [cell_at (h.keep_no hW).cell]; rfl, fun W hW i => free_at (h.keep_no hW).cell i⟩
set_option maxRecDepth 100000 in
set_option maxHeartbeats 4000000 in
theorem syncs_any (w : World) (d l : Nat) (P : ByteArray) (s : DSt) (st : LSt) (F G : Nat → Prop) (h : WAt w d l P s st F G) (hne : st.segs = [] → st.ents.length ≤ st.synced) :
  Calls Tryz.prog 41 #[.pointer (some ⟨l, 0, none⟩)] w fun e w' => SaidW w d l P F G (syncsS P s st).2.1 (syncsS P s st).2.2 w' ∧ GateP (syncsS P s st).1 e := by
 obtain ⟨sv, ev, E, hC, hE, hLF, hGl⟩ := h.log
 obtain ⟨ea, ec, rfl, hec, _⟩ := hC.ents.rd
 obtain ⟨c0, _, c2, c3, c4, _, fr⟩ := hC.cells
 have hll := get_lt hC.cell
 obtain ⟨n, hn⟩ : ∃ n, n = E.length := ⟨_, rfl⟩
 have hnl : st.ents.length = n := by rw [hE, List.length_map, hn]
 rw [← hn] at c3
 obtain ⟨y, hy⟩ : ∃ y, y = st.synced := ⟨_, rfl⟩
 rw [← hy] at c4
 have H := Lib.hid h
 by_cases hlt : y < n
 ·rcases List.eq_nil_or_concat st.segs with hsg | ⟨S1, z, hsg⟩
  ·have := hne hsg
   omega
  ·rw [List.concat_eq_append] at hsg
   obtain ⟨sg, soff, sn, sc, rfl, hsn, hsnb, hsgl, _, hsc0, _⟩ := LogC.lastSeg (by rw [hsg] at hC; exact hC)
   obtain ⟨m2, hm2⟩ : ∃ m2, m2 = S1.length := ⟨_, rfl⟩
   rw [← hm2] at hsn hsc0
   have hms : m2 < sn := by omega
   have hw3 : (sn : Int) - 1 = (m2 : Int) := by omega
   obtain ⟨zn, hzn⟩ : ∃ zn, zn = bnm P z.1 := ⟨_, rfl⟩
   rw [← hzn] at hsc0
   have hsy : syncsS P s st = ((syS s zn).1, (syS s zn).2, if (syS s zn).1 = 0 then { st with synced := st.ents.length } else st) := by
    unfold syncsS
    rw [if_pos (by rw [← hy, hnl]; exact hlt), hsg, List.getLast?_append]
    simp only [List.getLast?_singleton, Option.some_or]
    rw [← hzn]
   have e1 : decide ((y : Int) < (n : Int)) = true := by rw [decide_eq_true_iff]; omega
   have HSY := Lib.hid hsy
   have HC := Lib.hid hC
   have HE := Lib.hid hE
   have HLF := Lib.hid hLF
   have HN := Lib.hid hn
   have HNL := Lib.hid hnl
   clear h hC hE hLF hGl hsg hm2 hsn hzn hsy hn hnl hy hne
   go_enter Tryz.func41, Tryz.ntmps41
   go_upto_region 0 with fail
   refine wp_region_held' (Kp No _) [0,0,0,0,0,0,0,0,1,0] [0,1,2,3,4,5,6,7,8,9] (by kernel_rfl) (by kernel_rfl) (fun _ n h => h.drewN n) (Kp.refl _ _) ?_
   repeat (first
    | (apply wpOrd_skip rfl (by decide) rfl; (focus (go_simp; rfl)))
    | (apply wpOrd_pure rfl rfl rfl; (focus (intro _ _; go_simp; (try go_ints); rfl)); (focus (go_simp; rfl)))
    | (apply wpOrd_read rfl rfl rfl; (focus (intro _; go_simp; (try go_ints); rfl)); (focus (go_simp; rfl))))
   refine wpOrd_nil (fun nq => ?_)
   have hkq : Kp No w (w.drewN nq) := (Kp.refl No w).drewN nq
   obtain ⟨w9, hw9⟩ : ∃ W, W = w.drewN nq := ⟨_, rfl⟩
   rw [← hw9] at hkq ⊢
   have d0 : ∀ W, Kp No w9 W → W.cell? ⟨l, 0, none⟩ = some (.pointer (some ⟨d, 0, none⟩)) := fun W hW => c0 W (hkq.trans_same hW)
   have d2 : ∀ W, Kp No w9 W → W.cell? ⟨l, 2, none⟩ = some (.slice (some ⟨sg, soff, none⟩) sn sc) := fun W hW => c2 W (hkq.trans_same hW)
   have dz : ∀ W, Kp No w9 W → W.cell? ⟨sg, soff + m2 * 2, none⟩ = some (.string zn) := fun W hW => hsc0 W (hkq.trans_same hW)
   have HC3 := Lib.hid c3
   have HC4 := Lib.hid c4
   have HKQ := Lib.hid hkq
   clear hw9 c0 c2 hsc0 c3 c4 hkq
   go_upto_region 1 with fail
   refine wp_region_fin (Kp No w9) [0,0,0,0,0,0,0,0,0,0,0,0,1,0,0,0,0,2,2] [0,1,2,3,4,5,6,7,8,9,10,11,12,13,14,15,16] 17 [18] (by kernel_rfl) (by kernel_rfl) (fun _ n h => h.drewN n) (Kp.refl _ _) ?_
   repeat (first
    | (apply wpOrd_skip rfl (by decide) rfl; (focus (go_simp; rfl)))
    | (apply wpOrd_pure rfl rfl rfl; (focus (intro _ _; go_simp; (try go_ints); rfl)); (focus (go_simp; rfl)))
    | (apply wpOrd_read rfl rfl rfl; (focus (intro _; go_simp; (try go_ints); rfl)); (focus (go_simp; rfl))))
   refine fin_now (fun n1 => ?_)
   refine wpSeq_step rfl ?_
   have hc := Sync_any (w9.drewN n1) d s F (H.out.disk.keep_no (HKQ.out.drewN n1)) zn
   obtain ⟨q, hq⟩ : ∃ q, q = syS s zn := ⟨_, rfl⟩
   have hqc := sy_code s zn
   have hsy := HSY.out
   rw [← hq] at hc hqc hsy
   have HQ := Lib.hid hsy
   clear hq hsy HSY
   go_wp2_with fail
   with_reducible refine hc.mono ?_
   rintro e w1 ⟨rfl, F1, hD1, hF1, hK1⟩
   clear hc
   have hW1 : WAt w1 d l P q.2 st F1 G := (H.out.no HKQ.out).turnD hD1 (fun k hk => hF1 k hk) hK1.of_drewN
   obtain ⟨qc, hqe⟩ : ∃ qc, qc = q.1 := ⟨_, rfl⟩
   rw [← hqe] at hqc ⊢
   have hKall : Kp F w w1 := (Kp.of_no HKQ.out).trans_same hK1.of_drewN
   have hFall : Foot F F1 w := fun k hk => (hF1 k hk).imp id fun h => Nat.le_trans HKQ.out.size h
   have hgp1 := fun k hk => H.out.sep k hk
   have HW1 := Lib.hid hW1
   have HKA := Lib.hid hKall
   have HFA := Lib.hid hFall
   have HQE := Lib.hid hqe
   clear hD1 hF1 hK1 hW1 hKall hFall hqe hgp1
   go_wp2_with fail
   refine wpSeq_step rfl ?_
   have hg := gate_any qc hqc.1 hqc.2 w1
   clear hqc
   go_wp2_with fail
   with_reducible refine hg.mono ?_
   rintro e w' ⟨hgp, rfl⟩
   clear hg
   rcases hgp with ⟨hz, rfl⟩ | ⟨hz, rfl⟩
   ·go_wp2_with fail
    refine upto_done ?_
    have hnl : ∀ k, LFP l (.slice (some ⟨sg, soff, none⟩) sn sc) (.slice ea E.length ec) E k → ¬ F k := fun k hk hf => H.out.sep k hf (HLF.out k hk)
    have hC1 := HC.out.keep HKA.out hnl
    have hLR : LRun w1 w1 l d P _ _ st.segs E st.synced st.dead G := ⟨hC1, fun k hk => .inl (HLF.out k hk), Kp.refl _ _⟩
    obtain ⟨_, _, _, g3, g4, _, gfr⟩ := hC1.cells
    have g3' := g3 w1 (Kp.refl _ _)
    have g4' := g4 w1 (Kp.refl _ _)
    have gf := gfr w1 (Kp.refl _ _) 4
    rw [← HN.out] at g3'
    have hcl := set_at hC1.cell 4 (.int .i64 (n : Int))
    have hLR2 := hLR.flag (synced' := n) (dead' := st.dead) (W' := w1.setCell ⟨l, 4, none⟩ (.int .i64 (n : Int))) ((Kp.refl (One l) _).setCell (p := ⟨l, 4, none⟩) (.inl rfl) _) (by simpa using hcl)
    obtain ⟨G2, hL2, hG2, hK2⟩ := hLR2.stop
    have hll1 := HKA.out.lt hll
    have hW2 := HW1.out.turnL hL2 hG2 hK2
    have HFIN := Lib.hid (show SaidW w d l P F G (syncsS P s st).2.1 (syncsS P s st).2.2 (w1.setCell ⟨l, 4, none⟩ (.int .i64 (n : Int))) ∧ GateP (syncsS P s st).1 (.returned (.tuple #[])) from by
     rw [HQ.out]
     simp only
     rw [if_pos (by rw [← HQE.out]; exact hz)]
     refine ⟨⟨F1, G2, ?_, HFA.out, fun k hk => (hG2 k hk).imp id fun h => Nat.le_trans HKA.out.size h, ?_⟩, .inl ⟨by rw [← HQE.out]; exact hz, rfl⟩⟩
     ·rw [← HE.out] at hW2
      rw [HNL.out]
      exact hW2
     ·exact (HKA.out.mono (T := Both F G) fun _ _ x => .inl x).trans hK2 fun i _ x => .inr x)
    clear hC1 hLR hcl hLR2 hL2 hG2 hK2 hW2 hnl g3 g4 gfr
    go_wp2_with fail
    exact bodyPost_end (results_none rfl _ _ _) rfl HFIN.out
   ·refine ⟨rfl, ?_⟩
    rw [HQ.out]
    simp only
    rw [if_neg (by rw [← HQE.out]; exact hz)]
    exact ⟨⟨F1, G, HW1.out, HFA.out, Foot.refl _ _, HKA.out.mono fun _ _ x => .inl x⟩, .inr ⟨by rw [← HQE.out]; exact hz, by rw [← HQE.out]⟩⟩
 ·have hsy : syncsS P s st = (0, s, st) := by
   unfold syncsS
   rw [if_neg (by rw [← hy, hnl]; exact hlt)]
  have e1 : decide ((y : Int) < (n : Int)) = false := by rw [decide_eq_false_iff_not]; omega
  have HSY := Lib.hid hsy
  clear h hC hE hLF hGl hsy hn hnl hy hne c0 c2 fr
  go_enter Tryz.func41, Tryz.ntmps41
  go_upto_region 0 with fail
  refine wp_region_held' (Kp No _) [0,0,0,0,0,0,0,0,1,0] [0,1,2,3,4,5,6,7,8,9] (by kernel_rfl) (by kernel_rfl) (fun _ n h => h.drewN n) (Kp.refl _ _) ?_
  repeat (first
   | (apply wpOrd_skip rfl (by decide) rfl; (focus (go_simp; rfl)))
   | (apply wpOrd_pure rfl rfl rfl; (focus (intro _ _; go_simp; (try go_ints); rfl)); (focus (go_simp; rfl)))
   | (apply wpOrd_read rfl rfl rfl; (focus (intro _; go_simp; (try go_ints); rfl)); (focus (go_simp; rfl))))
  refine wpOrd_nil (fun nq => ?_)
  go_wp2_with fail
  refine bodyPost_end (results_none rfl _ _ _) rfl ?_
  rw [HSY.out]
  exact ⟨SaidW.here H.out ((Kp.refl No w).drewN nq), .inl ⟨rfl, rfl⟩⟩
end Go.Proofs.YtdibkdgafidjgaaGreatDoor
namespace Go.Proofs.YtdibkdgafidjgaaGreatDoor
open Go.RowKit Go.Mer
structure XAt (w : World) (d l : Nat) (P : ByteArray) (s : DSt) (st : LSt) (F G : Nat → Prop) : Prop where
 disk : RAt w d s F
 log : RLogAt w l d P st G
 sep : ∀ k, F k → ¬ G k
def SaidX (w : World) (d l : Nat) (P : ByteArray) (F G : Nat → Prop) (s' : DSt) (st' : LSt) (w' : World) : Prop :=
 ∃ F' G', XAt w' d l P s' st' F' G' ∧ Foot F F' w ∧ Foot G G' w ∧ Kp (Both F G) w w'
theorem RAt.lt {w : World} {d : Nat} {s : DSt} {F : Nat → Prop} (h : RAt w d s F) : ∀ k, F k → k < w.heap.size := by
 obtain ⟨_, _, _, _, _, h⟩ := h
 exact h
theorem RLogAt.lt {w : World} {l d : Nat} {P : ByteArray} {st : LSt} {G : Nat → Prop} (h : RLogAt w l d P st G) : ∀ k, G k → k < w.heap.size := by
 obtain ⟨_, _, _, _, _, _, hG⟩ := h
 exact hG
theorem XAt.turnD {w w' : World} {d l : Nat} {P : ByteArray} {s s' : DSt} {st : LSt} {F G F' : Nat → Prop} (h : XAt w d l P s st F G) (hD : RAt w' d s' F') (hF : Foot F F' w) (hk : Kp F w w') : XAt w' d l P s' st F' G :=
 ⟨hD, h.log.keep hk fun k hg hf => h.sep k hf hg, fun k hf hg => by
  rcases hF k hf with h1 | h1
  ·exact h.sep k h1 hg
  ·have := h.log.lt k hg; omega⟩
theorem XAt.turnL {w w' : World} {d l : Nat} {P : ByteArray} {s : DSt} {st st' : LSt} {F G G' : Nat → Prop} (h : XAt w d l P s st F G) (hL : RLogAt w' l d P st' G') (hG : Foot G G' w) (hk : Kp G w w') : XAt w' d l P s st' F G' :=
 ⟨h.disk.keep hk fun k hf hg => h.sep k hf hg, hL, fun k hf hg => by
  rcases hG k hg with h1 | h1
  ·exact h.sep k hf h1
  ·have := h.disk.lt k hf; omega⟩
theorem XAt.no {w w' : World} {d l : Nat} {P : ByteArray} {s : DSt} {st : LSt} {F G : Nat → Prop} (h : XAt w d l P s st F G) (hk : Kp No w w') : XAt w' d l P s st F G := ⟨h.disk.keep_no hk, h.log.keep_no hk, h.sep⟩
theorem SaidX.here {w w' : World} {d l : Nat} {P : ByteArray} {s : DSt} {st : LSt} {F G : Nat → Prop} (h : XAt w d l P s st F G) (hk : Kp No w w') : SaidX w d l P F G s st w' := ⟨F, G, h.no hk, Foot.refl _ _, Foot.refl _ _, Kp.of_no hk⟩
theorem SaidX.trans {w a b : World} {d l : Nat} {P : ByteArray} {s1 s2 : DSt} {st1 st2 : LSt} {F G : Nat → Prop} (h : ∃ F' G', XAt a d l P s1 st1 F' G' ∧ Foot F F' w ∧ Foot G G' w ∧ Kp (Both F G) w a ∧ SaidX a d l P F' G' s2 st2 b) : SaidX w d l P F G s2 st2 b := by
 obtain ⟨F', G', h1, h2, h3, h4, F2, G2, k1, k2, k3, k4⟩ := h
 refine ⟨F2, G2, k1, h2.trans k2 h4.size, h3.trans k3 h4.size, h4.trans k4 fun i hi hb => ?_⟩
 rcases hb with hb | hb
 ·rcases h2 i hb with x | x
  ·exact .inl x
  ·omega
 ·rcases h3 i hb with x | x
  ·exact .inr x
  ·omega
theorem RLogC.cells {w : World} {l d : Nat} {P : ByteArray} {sv ev : Value} {S : List Nat} {E : List Row} {synced : Nat} {dead : Bool} (h : RLogC w l d P sv ev S E synced dead) :
  (∀ W, Kp No w W → W.cell? ⟨l, 0, none⟩ = some (.pointer (some ⟨d, 0, none⟩))) ∧ (∀ W, Kp No w W → W.cell? ⟨l, 1, none⟩ = some (.string P)) ∧ (∀ W, Kp No w W → W.cell? ⟨l, 2, none⟩ = some ev) ∧ (∀ W, Kp No w W → W.cell? ⟨l, 3, none⟩ = some sv) ∧
   (∀ W, Kp No w W → W.cell? ⟨l, 4, none⟩ = some (.int .i64 (synced : Int))) ∧ (∀ W, Kp No w W → W.cell? ⟨l, 5, none⟩ = some (.bool dead)) ∧ ∀ W, Kp No w W → ∀ i, W.frozen? ⟨l, i, none⟩ = false :=
 ⟨fun W hW => by rw [cell_at (h.keep_no hW).cell]; rfl, fun W hW => by rw [cell_at (h.keep_no hW).cell]; rfl, fun W hW => by rw [cell_at (h.keep_no hW).cell]; rfl, fun W hW => by rw [cell_at (h.keep_no hW).cell]; rfl,
  fun W hW => by rw [cell_at (h.keep_no hW).cell]; rfl, fun W hW => by rw [cell_at (h.keep_no hW).cell]; rfl, fun W hW i => free_at (h.keep_no hW).cell i⟩
theorem RLogC.lastNo {w : World} {l d : Nat} {P : ByteArray} {sv ev : Value} {S1 : List Nat} {z : Nat} {E : List Row} {synced : Nat} {dead : Bool} (h : RLogC w l d P sv ev (S1 ++ [z]) E synced dead) :
  ∃ g off n cap, sv = .slice (some ⟨g, off, none⟩) n cap ∧ n = S1.length + 1 ∧ (n : Int) ≤ 9223372036854775807 ∧ g < w.heap.size ∧ ∀ W, Kp No w W → W.cell? ⟨g, off + S1.length, none⟩ = some (.int .i64 (z : Int)) := by
 obtain ⟨sa, sc, rfl, hsc, hsr⟩ := h.segs.rd
 obtain ⟨g, off, rfl, hg, hfz⟩ := h.segs.place (by simp)
 obtain ⟨g', off', hg', hc⟩ := rd_chunk numC_len (by decide) hsr (k := S1.length) (by simp)
 injection hg' with hg'
 injection hg' with e1 e2
 subst e1; subst e2
 have hget : (S1 ++ [z])[S1.length]'(by simp) = z := by simp
 rw [hget] at hc
 have hmx : (((S1 ++ [z]).length : Nat) : Int) ≤ 9223372036854775807 := by
  obtain ⟨_, a', cap', hv', q1, q2, _⟩ := h.segs
  simp only [maxLen] at q2
  omega
 refine ⟨g, off, _, sc, rfl, by simp, hmx, hg, fun W hW => ?_⟩
 have := hc W hW 0 _ rfl
 rwa [Nat.mul_one, Nat.add_zero] at this
set_option maxRecDepth 100000 in
set_option maxHeartbeats 4000000 in
theorem size_any (w : World) (r x : Nat) (P : ByteArray) (s : DSt) (st : LSt) (F G : Nat → Prop) (h : XAt w r x P s st F G) (S1 : List (Nat × Nat)) (z : Nat × Nat) (hsg : st.segs = S1 ++ [z]) (hP : P.size ≤ 50) (hz : z.1 < 1000000) :
  Calls Tryz.prog 47 #[.pointer (some ⟨x, 0, none⟩)] w fun e w' => e = .returned (.int .i64 ((rdS s.files (bnm P z.1)).1.length : Int)) ∧ Kp No w w' := by
 obtain ⟨sv, ev, E, hC, hE, hLF, hGl⟩ := h.log
 rw [hsg, List.map_append, List.map_cons, List.map_nil] at hC
 obtain ⟨sg, soff, sn, sc, rfl, hsn, hsnb, hsgl, hsc0⟩ := hC.lastNo
 obtain ⟨c0, c1, _, c3, _, _, _⟩ := hC.cells
 have hll := get_lt hC.cell
 obtain ⟨m2, hm2⟩ : ∃ m2, m2 = (S1.map (·.1)).length := ⟨_, rfl⟩
 rw [← hm2] at hsn hsc0
 have hms : m2 < sn := by omega
 have hw3 : (sn : Int) - 1 = (m2 : Int) := by omega
 obtain ⟨zn, hzn⟩ : ∃ zn, zn = z.1 := ⟨_, rfl⟩
 rw [← hzn] at hsc0 hz ⊢
 obtain ⟨dn, hdn⟩ : ∃ dn, dn = (rdS s.files (bnm P zn)).1.length := ⟨_, rfl⟩
 rw [← hdn]
 have HDN := Lib.hid hdn
 clear hdn
 have HNM := Lib.hid (fun W => rName_bnm P (by omega) zn hz W)
 have HRD := Lib.hid h.disk
 clear h hC hE hLF hGl hsg hm2 hsn hzn hz
 go_enter Tryz.func47, Tryz.ntmps47
 go_upto_region 1 with fail
 refine wp_region_held' (Kp No _) [0,0,0,0,0,0,0,0,0,0,0,0,0,0,0,0,1,0,0,0,2,2,0,0,0,0,0] [0,1,2,3,4,5,6,7,8,9,10,11,12,13,14,15,16,17,18,19,20,21,22,23,24,25,26] (by kernel_rfl) (by kernel_rfl) (fun _ n h => h.drewN n) (Kp.refl _ _) ?_
 repeat (first
  | (apply wpOrd_skip rfl (by decide) rfl; (focus (go_simp; rfl)))
  | (apply wpOrd_pure rfl rfl rfl; (focus (intro _ _; go_simp; (try go_ints); rfl)); (focus (go_simp; rfl)))
  | (apply wpOrd_read rfl rfl rfl; (focus (intro _; go_simp; (try go_ints); rfl)); (focus (go_simp; rfl))))
 refine wpOrd_eff rfl rfl (fun n1 => ?_)
 have hc := HNM.out (w.drewN n1)
 go_wp2_with fail
 with_reducible refine hc.mono ?_
 rintro e w1 ⟨rfl, hk1⟩
 clear hc
 go_wp2_with fail
 have hk1' : Kp No w w1 := hk1.of_drewN
 refine ⟨hk1', ?_⟩
 refine wpOrd_eff rfl rfl (fun n2 => ?_)
 have hc := rRead_any (w1.drewN n2) r s F (HRD.out.keep_no (hk1'.drewN n2)) (bnm P zn)
 go_wp2_with fail
 with_reducible refine hc.mono ?_
 rintro e w2 ⟨v, rfl, ho, hk2, _⟩
 obtain ⟨_, va, vc, rfl, _⟩ := id ho
 clear hc ho
 rw [← HDN.out]
 go_wp2_with fail
 have hk2' : Kp No w w2 := hk1'.trans_same hk2.of_drewN
 refine ⟨hk2', ?_⟩
 repeat (first
  | (apply wpOrd_skip rfl (by decide) rfl; (focus (go_simp; rfl)))
  | (apply wpOrd_pure rfl rfl rfl; (focus (intro _ _; go_simp; (try go_ints); rfl)); (focus (go_simp; rfl)))
  | (apply wpOrd_read rfl rfl rfl; (focus (intro _; go_simp; (try go_ints); rfl)); (focus (go_simp; rfl))))
 refine wpOrd_nil (fun nq => ?_)
 go_wp2_with fail
 go_ret
 exact ⟨rfl, hk2'.drewN nq⟩
theorem RLogAt.dead {w : World} {r x : Nat} {P : ByteArray} {st : LSt} {G : Nat → Prop} (h : RLogAt w x r P st G) (b : Bool) :
  (∃ z, w.cell? ⟨x, 5, none⟩ = some z) ∧ w.frozen? ⟨x, 5, none⟩ = false ∧ x < w.heap.size ∧ ∃ G', RLogAt (w.setCell ⟨x, 5, none⟩ (.bool b)) x r P { st with dead := b } G' ∧ Foot G G' w ∧ Kp G w (w.setCell ⟨x, 5, none⟩ (.bool b)) := by
 obtain ⟨sv, ev, E, hrun, hE, _⟩ := XLRun.start h
 obtain ⟨_, _, _, _, _, c5, fr⟩ := hrun.c.cells
 have hcl := set_at hrun.c.cell 5 (.bool b)
 have hR2 := hrun.flag (synced' := st.synced + 1) (dead' := b) (W' := w.setCell ⟨x, 5, none⟩ (.bool b)) ((Kp.refl (One x) _).setCell (p := ⟨x, 5, none⟩) (.inl rfl) _) (by simpa using hcl)
 obtain ⟨G2, hL2, hG2, hK2⟩ := hR2.stop rfl
 rw [← hE] at hL2
 exact ⟨⟨_, c5 w (Kp.refl _ _)⟩, fr w (Kp.refl _ _) 5, get_lt hrun.c.cell, G2, hL2, hG2, hK2⟩
theorem XAt.dead {w : World} {r x : Nat} {P : ByteArray} {s : DSt} {st : LSt} {F G : Nat → Prop} (h : XAt w r x P s st F G) (b : Bool) :
  (∃ z, w.cell? ⟨x, 5, none⟩ = some z) ∧ w.frozen? ⟨x, 5, none⟩ = false ∧ x < w.heap.size ∧ SaidX w r x P F G s { st with dead := b } (w.setCell ⟨x, 5, none⟩ (.bool b)) := by
 obtain ⟨h1, h2, h3, G2, hL2, hG2, hK2⟩ := h.log.dead b
 exact ⟨h1, h2, h3, F, G2, h.turnL hL2 hG2 hK2, Foot.refl _ _, hG2, hK2.mono fun _ _ x => .inr x⟩
theorem fail_any (w : World) (r x : Nat) (P : ByteArray) (s : DSt) (st : LSt) (F G : Nat → Prop) (h : XAt w r x P s st F G) (hd : st.dead = false) (k : Int) :
  Calls Tryz.prog 50 #[.pointer (some ⟨x, 0, none⟩), .int .i64 k] w fun e w' => e = .returned (.int .i64 k) ∧ SaidX w r x P F G s { st with dead := k != 6 } w' := by
 obtain ⟨⟨z, hz5⟩, hf5, hl5, hfin⟩ := h.dead true
 have H := Lib.hid h
 have HFIN := Lib.hid hfin
 clear h hfin
 by_cases hk : k = 6
 ·subst hk
  have hst : ({ st with dead := (6 : Int) != 6 } : LSt) = st := by
   have : ((6 : Int) != 6) = false := rfl
   rw [this, ← hd]
  rw [hst]
  go_enter Tryz.func50, Tryz.ntmps50
  go_wp2_with fail
  go_ret
  exact ⟨rfl, SaidX.here H.out (Kp.refl _ _)⟩
 ·have e1 : (k == (6 : Int)) = false := by rw [beq_eq_false_iff_ne]; exact hk
  have e2 : (k != (6 : Int)) = true := by rw [bne, e1]; rfl
  rw [e2]
  go_enter Tryz.func50, Tryz.ntmps50
  go_wp2_with fail
  go_ret
  exact ⟨rfl, HFIN.out⟩
def Tracked (P : ByteArray) (s : DSt) (st : LSt) : Prop := ∀ S1 z, st.segs = S1 ++ [z] → (rdS s.files (bnm P z.1)).1.length = z.2
end Go.Proofs.YtdibkdgafidjgaaGreatDoor
namespace Go.Mer
open Go
def allLin (md : Region.Mode) (ops : Array Oper) : Nat → Array Bool → List (List Nat)
 | 0, _ => [[]]
 | fuel + 1, listed => if (Region.ready md ops listed).isEmpty then [[]] else (Region.ready md ops listed).flatMap fun i => (allLin md ops fuel (listed.setIfInBounds i true)).map (i :: ·)
theorem lin_mem (md : Region.Mode) (ops : Array Oper) : ∀ (fuel t : Nat) (listed : Array Bool), Region.linearise.go md ops fuel t listed [] ∈ allLin md ops fuel listed := by
 intro fuel
 induction fuel with
 | zero => intro t listed; simp [Region.linearise.go, allLin]
 | succ fuel ih =>
  intro t listed
  simp only [Region.linearise.go]
  change (match (Region.ready md ops listed)[t % (Region.ready md ops listed).length]? with
   | some i => Region.linearise.go md ops fuel (t / (Region.ready md ops listed).length) (listed.setIfInBounds i true) [i]
   | none => [].reverse) ∈ _
  unfold allLin
  cases hi : (Region.ready md ops listed)[t % (Region.ready md ops listed).length]? with
  | none =>
   have hnil : Region.ready md ops listed = [] := by
    cases hr : Region.ready md ops listed with
    | nil => rfl
    | cons x xs =>
     rw [hr] at hi
     have hlt : t % (x :: xs).length < (x :: xs).length := Nat.mod_lt _ (by simp)
     simp at hi
     simp at hlt
     omega
   rw [hnil]
   simp
  | some i =>
   simp only []
   have hm := List.mem_of_getElem? hi
   have hne : (Region.ready md ops listed).isEmpty = false := by
    cases hr : Region.ready md ops listed with
    | nil => rw [hr] at hm; cases hm
    | cons x xs => rfl
   rw [hne, linearise_go_acc, List.reverse_singleton, List.singleton_append]
   simp only [Bool.false_eq_true, if_false]
   exact List.mem_flatMap.2 ⟨i, hm, List.mem_map.2 ⟨_, ih _ _, rfl⟩⟩
theorem wpS_region_any {P : Program} {Q : Exit → Act → List Frame → World → Prop} {a : Act} {cs : List Frame} {w : World} {id : Nat} {ops : Array Oper} (L : List (List Nat)) (hm : P.follows .mixedOrders = true) (hL : allLin .any ops ops.size (Array.replicate ops.size false) = L)
  (h : ∀ l ∈ L, wpOpsS P ops Q l a cs { w with drawn := w.drawn + 1 }) : (Code.region id ops true).wpS P Q a cs w := by
 intro b k hb hr
 have hmem := lin_mem .any ops ops.size (w.tape w.drawn (.order b.fn id)) (Array.replicate ops.size false)
 rw [hL] at hmem
 obtain ⟨e, a', cs', w', q, r⟩ := wp_opsS _ a cs _ (h _ hmem) b k hb hr
 refine ⟨e, a', cs', w', q, .of_steps (.one ?_) r⟩
 have hs := step_region_draw (P := P) (b := b) (a := a) (k := k) (cs := cs) (w := w) (ops := ops) (id := id)
 simp only [Region.schedule, hm, Bool.true_or, if_true] at hs
 exact hs
end Go.Mer
namespace Go.Proofs.YtdibkdgafidjgaaGreatDoor
open Go.RowKit Go.Mer
set_option maxRecDepth 100000 in
set_option maxHeartbeats 1000000 in
theorem sync_idle (p : Addr) (q : Addr) (l : Nat) (z : Value) (w : World) (hq : w.cell? q = some (.pointer (some ⟨l, 0, none⟩))) (hl : w.cell? ⟨l, 5, none⟩ = some z) (hlf : w.frozen? ⟨l, 5, none⟩ = false) :
  CallsD Tryz.prog 51 #[.pointer (some p), .pointer (some q)] .returning w fun e u' w' => e = .returned (.tuple #[]) ∧ u' = .returning ∧ w' = w.drew.setCell ⟨l, 5, none⟩ (.bool false) := by
 refine callsD_of_wpS Tryz.func51 rfl fun c₀ cs hu => ?_
 refine wpS_region_any [[0, 1, 2, 3, 4, 5], [1, 0, 2, 3, 4, 5], [1, 2, 0, 3, 4, 5]] (by kernel_rfl) (by kernel_rfl) ?_
 have hq2 : w.drew.cell? q = some (.pointer (some ⟨l, 0, none⟩)) := hq
 have hl2 : w.drew.cell? ⟨l, 5, none⟩ = some z := hl
 have hlf2 : w.drew.frozen? ⟨l, 5, none⟩ = false := hlf
 obtain ⟨W, hW⟩ : ∃ W, W = w.drew := ⟨_, rfl⟩
 rw [← hW] at hq2 hl2 hlf2 ⊢
 change ∀ l_1 ∈ _, wpOpsS _ _ _ l_1 _ _ w.drew
 rw [← hW]
 intro o ho
 simp only [List.mem_cons, List.not_mem_nil, or_false] at ho
 rcases ho with rfl | rfl | rfl
 ·skip
  simp [wpOpsS, go_sem, recoverD, hu, Tryz.ntmps51, hq2]
  refine (caught_nil p W).mono ?_
  rintro e w' ⟨rfl, rfl⟩
  simp [go_sem, hl2, hlf2, bodyPostS, results, Tryz.results51, Array.replicate]
  cases c₀
  simp_all
 ·skip
  simp [wpOpsS, go_sem, recoverD, hu, Tryz.ntmps51, hq2]
  refine (caught_nil p W).mono ?_
  rintro e w' ⟨rfl, rfl⟩
  simp [go_sem, hl2, hlf2, bodyPostS, results, Tryz.results51, Array.replicate]
  cases c₀
  simp_all
 ·skip
  simp [wpOpsS, go_sem, recoverD, hu, Tryz.ntmps51]
  refine (caught_nil p W).mono ?_
  rintro e w' ⟨rfl, rfl⟩
  simp [go_sem, hq2, hl2, hlf2, bodyPostS, results, Tryz.results51, Array.replicate]
  cases c₀
  simp_all
set_option maxRecDepth 100000 in
set_option maxHeartbeats 1000000 in
theorem sync_panic (b i k : Nat) (q : Addr) (l : Nat) (x z : Value) (older : List PanicEntry) (w : World) (hc : w.cell? ⟨b, i, none⟩ = some x) (hf : w.frozen? ⟨b, i, none⟩ = false) (hb : b < w.heap.size) (hq : w.cell? q = some (.pointer (some ⟨l, 0, none⟩))) (hqb : q.block < w.heap.size) (hqn : ¬ q.block = b)
  (hl : w.cell? ⟨l, 5, none⟩ = some z) (hlf : w.frozen? ⟨l, 5, none⟩ = false) (hlb : l < w.heap.size) (hln : ¬ l = b) :
  CallsD Tryz.prog 51 #[.pointer (some ⟨b, i, none⟩), .pointer (some q)] (.panicking ({ v := .iface 130 (.agg #[.int .i64 (k : Int)]), recovered := false } :: older)) w fun e u' w' =>
   e = .returned (.tuple #[]) ∧ u' = .panicking ({ v := .iface 130 (.agg #[.int .i64 (k : Int)]), recovered := true } :: older) ∧ ∃ o, w' = ((w.drew.setCell ⟨b, i, none⟩ (.int .i64 (k : Int))).alloc o).setCell ⟨l, 5, none⟩ (.bool true) := by
 refine callsD_of_wpS Tryz.func51 rfl fun c₀ cs hu => ?_
 refine wpS_region_any [[0, 1, 2, 3, 4, 5], [1, 0, 2, 3, 4, 5], [1, 2, 0, 3, 4, 5]] (by kernel_rfl) (by kernel_rfl) ?_
 have hc2 : w.drew.cell? ⟨b, i, none⟩ = some x := hc
 have hf2 : w.drew.frozen? ⟨b, i, none⟩ = false := hf
 have hb2 : b < w.drew.heap.size := hb
 have hq2 : w.drew.cell? q = some (.pointer (some ⟨l, 0, none⟩)) := hq
 have hqb2 : q.block < w.drew.heap.size := hqb
 have hl2 : w.drew.cell? ⟨l, 5, none⟩ = some z := hl
 have hlf2 : w.drew.frozen? ⟨l, 5, none⟩ = false := hlf
 have hlb2 : l < w.drew.heap.size := hlb
 obtain ⟨W, hW⟩ : ∃ W, W = w.drew := ⟨_, rfl⟩
 change ∀ l_1 ∈ _, wpOpsS _ _ _ l_1 _ _ w.drew
 rw [← hW] at hc2 hf2 hb2 hq2 hqb2 hl2 hlf2 hlb2 ⊢
 clear hW hc hf hb hq hqb hl hlf hlb
 have hnx : ∀ o, Kp (fun j => j = b) W ((W.setCell ⟨b, i, none⟩ (.int .i64 (k : Int))).alloc o) := fun o => ((Kp.refl (fun j => j = b) W).setCell (p := ⟨b, i, none⟩) (.inl rfl) _).alloc _
 intro o ho
 simp only [List.mem_cons, List.not_mem_nil, or_false] at ho
 rcases ho with rfl | rfl | rfl
 ·skip
  simp [wpOpsS, go_sem, recoverD, hu, Tryz.ntmps51, hq2]
  refine (caught_fail b i k x W hc2 hf2 hb2).mono ?_
  rintro e w' ⟨rfl, ob, rfl⟩
  have hk := hnx ob
  have hl3 := (hk.cell (p := ⟨l, 5, none⟩) hlb2 hln).trans hl2
  have hlf3 := (hk.frozen (p := ⟨l, 5, none⟩) hlb2 hln).trans hlf2
  obtain ⟨W3, hW3⟩ : ∃ W3, W3 = (W.setCell ⟨b, i, none⟩ (.int .i64 (k : Int))).alloc ob := ⟨_, rfl⟩
  rw [← hW3] at hl3 hlf3 ⊢
  simp [go_sem, hl3, hlf3, bodyPostS, results, Tryz.results51, Array.replicate]
  exact ⟨ob, by rw [hW3]⟩
 ·skip
  simp [wpOpsS, go_sem, recoverD, hu, Tryz.ntmps51, hq2]
  refine (caught_fail b i k x W hc2 hf2 hb2).mono ?_
  rintro e w' ⟨rfl, ob, rfl⟩
  have hk := hnx ob
  have hl3 := (hk.cell (p := ⟨l, 5, none⟩) hlb2 hln).trans hl2
  have hlf3 := (hk.frozen (p := ⟨l, 5, none⟩) hlb2 hln).trans hlf2
  obtain ⟨W3, hW3⟩ : ∃ W3, W3 = (W.setCell ⟨b, i, none⟩ (.int .i64 (k : Int))).alloc ob := ⟨_, rfl⟩
  rw [← hW3] at hl3 hlf3 ⊢
  simp [go_sem, hl3, hlf3, bodyPostS, results, Tryz.results51, Array.replicate]
  exact ⟨ob, by rw [hW3]⟩
 ·skip
  simp [wpOpsS, go_sem, recoverD, hu, Tryz.ntmps51]
  refine (caught_fail b i k x W hc2 hf2 hb2).mono ?_
  rintro e w' ⟨rfl, ob, rfl⟩
  have hk := hnx ob
  have hl3 := (hk.cell (p := ⟨l, 5, none⟩) hlb2 hln).trans hl2
  have hlf3 := (hk.frozen (p := ⟨l, 5, none⟩) hlb2 hln).trans hlf2
  obtain ⟨W3, hW3⟩ : ∃ W3, W3 = (W.setCell ⟨b, i, none⟩ (.int .i64 (k : Int))).alloc ob := ⟨_, rfl⟩
  rw [← hW3] at hl3 hlf3 ⊢
  simp [go_sem, hW3 ▸ (hk.cell hqb2 hqn).trans hq2, hl3, hlf3, bodyPostS, results, Tryz.results51, Array.replicate]
  exact ⟨ob, by rw [hW3]⟩
end Go.Proofs.YtdibkdgafidjgaaGreatDoor

