/-
  wal's ends: the log ends within the first of some segments, or ahead of it.
-/
import Derived.Test.YtdibkdgafidjgaaGreatDoorWa8
import Derived.Test.YtdibkdgafidjgaaGreatDoorWb1
import Derived.Deep.CutBlock
namespace Go.Proofs.YtdibkdgafidjgaaGreatDoor
open Go.RowKit Go.Mer
def failP (k : Int) : List PanicEntry := [{ v := .iface 130 (.agg #[.int .i64 k]), recovered := false }]
def GateP (k : Int) (e : Ending) : Prop := (k = 0 ∧ e = .returned (.tuple #[])) ∨ (k ≠ 0 ∧ e = .panicked (failP k))
theorem gate_any (k : Int) (h0 : 0 ≤ k) (h1 : k < 100) (w : World) : Calls Tryz.prog 45 #[.int .i64 k] w fun e w' => GateP k e ∧ w = w' := by
 obtain ⟨n, rfl⟩ := Int.eq_ofNat_of_zero_le h0
 rcases Nat.eq_zero_or_pos n with rfl | hn
 ·exact (gate_ok w).mono fun e w' h => ⟨.inl ⟨rfl, h.1⟩, h.2⟩
 ·exact (gate_bad n hn (by omega) w).mono fun e w' h => ⟨.inr ⟨by omega, h.1⟩, h.2⟩
theorem five_code {s : DSt} {ns : List ByteArray} {c : Int} {fs : Files} (h0 : 0 ≤ c) (h1 : c < 100) : 0 ≤ (five s ns c fs).1 ∧ (five s ns c fs).1 < 100 := by
 unfold five
 split
 ·show (0 : Int) ≤ 9 ∧ (9 : Int) < 100
  decide
 ·split
  ·split
   ·show (0 : Int) ≤ 0 ∧ (0 : Int) < 100
    decide
   ·exact ⟨h0, h1⟩
  ·show (0 : Int) ≤ 1 ∧ (1 : Int) < 100
   decide
theorem rm_code (s : DSt) (x : ByteArray) : 0 ≤ (rmS s x).1 ∧ (rmS s x).1 < 100 := by
 refine five_code ?_ ?_ <;> (unfold rmCode; split <;> decide)
theorem sy_code (s : DSt) (x : ByteArray) : 0 ≤ (syS s x).1 ∧ (syS s x).1 < 100 := by
 refine five_code ?_ ?_ <;> (unfold syCode; split <;> decide)
theorem wr_code (s : DSt) (x : ByteArray) (p : List UInt8) : 0 ≤ (wrS s x p).1 ∧ (wrS s x p).1 < 100 := by
 refine five_code ?_ ?_ <;> (unfold wrCode; split <;> decide)
theorem cu_code (s : DSt) (x : ByteArray) (n : Int) : 0 ≤ (cuS s x n).1 ∧ (cuS s x n).1 < 100 := by
 refine five_code ?_ ?_ <;> (unfold cuCode; split <;> (try split) <;> decide)
theorem rmAll_append (A B : List ByteArray) : ∀ s : DSt, rmAll s (A ++ B) = if (rmAll s A).1 = 0 then rmAll (rmAll s A).2 B else rmAll s A := by
 induction A with
 | nil => intro s; simp [rmAll]
 | cons x A ih =>
  intro s
  rw [List.cons_append, rmAll, rmAll]
  by_cases h : (rmS s x).1 = 0
  ·rw [if_pos h, if_pos h]
   exact ih _
  ·rw [if_neg h, if_neg h, if_neg h]
def EndP (w : World) (d : Nat) (F : Nat → Prop) (q : Int × DSt) (e : Ending) (w' : World) : Prop :=
 (∃ F', DiskAt w' d q.2 F' ∧ Foot F F' w ∧ Kp F w w') ∧ GateP q.1 e
def EnR (w wr : World) (d : Nat) (s : DSt) (F : Nat → Prop) (N : List ByteArray) (j : Nat) : Prop :=
 ∃ s' F', rmAll s (N.drop (j + 1)).reverse = (0, s') ∧ DiskAt wr d s' F' ∧ Foot F F' w ∧ Kp F w wr
theorem kp_foot {F F' : Nat → Prop} {w a b : World} (h : Kp F w a) (hF : Foot F F' w) (h' : Kp F' a b) : Kp F w b := h.trans h' fun i hi hf => by
 rcases hF i hf with h1 | h1
 ·exact h1
 ·omega
theorem drop_rev {N : List ByteArray} {j : Nat} {y : ByteArray} (hy : N[j]? = some y) : (N.drop j).reverse = (N.drop (j + 1)).reverse ++ [y] := by
 obtain ⟨hj, rfl⟩ := List.getElem?_eq_some_iff.1 hy
 rw [List.drop_eq_getElem_cons hj, List.reverse_cons]
theorem rm_next {s s' : DSt} {N : List ByteArray} {j : Nat} {y : ByteArray} (h : rmAll s (N.drop (j + 1)).reverse = (0, s')) (hy : N[j]? = some y) (h0 : (rmS s' y).1 = 0) : rmAll s (N.drop j).reverse = (0, (rmS s' y).2) := by
 rw [drop_rev hy, rmAll_append, h, if_pos rfl]
 simp only [rmAll, h0, if_true]
theorem rm_fail {s s' : DSt} {x : ByteArray} {r : List ByteArray} {j : Nat} {y : ByteArray} (h : rmAll s ((x :: r).drop (j + 1)).reverse = (0, s')) (hy : (x :: r)[j]? = some y) (hj : 0 < j) (h0 : (rmS s' y).1 ≠ 0) : rmAll s r.reverse = rmS s' y := by
 obtain ⟨i, rfl⟩ : ∃ i, j = i + 1 := ⟨j - 1, by omega⟩
 have e : r = r.take i ++ (x :: r).drop (i + 1) := by rw [List.drop_succ_cons, List.take_append_drop]
 have e2 : r.reverse = ((x :: r).drop (i + 1)).reverse ++ (r.take i).reverse := by
  conv => lhs; rw [e]
  rw [List.reverse_append]
 have e3 : rmAll s ((x :: r).drop (i + 1)).reverse = rmS s' y := by
  rw [drop_rev hy, rmAll_append, h, if_pos rfl]
  rw [rmAll, if_neg h0]
 rw [e2, rmAll_append, e3, if_neg h0]
theorem LogC.lastSeg {w : World} {l d : Nat} {P : ByteArray} {sv ev : Value} {S1 : List (Nat × Nat)} {z : Nat × Nat} {E : List Row} {synced : Nat} {dead : Bool} (h : LogC w l d P sv ev (S1 ++ [z]) E synced dead) :
  ∃ g off n cap, sv = .slice (some ⟨g, off, none⟩) n cap ∧ n = S1.length + 1 ∧ (n : Int) ≤ 9223372036854775807 ∧ g < w.heap.size ∧ (∀ i, w.frozen? ⟨g, i, none⟩ = false) ∧
   (∀ W, Kp No w W → W.cell? ⟨g, off + S1.length * 2, none⟩ = some (.string (bnm P z.1))) ∧ ∀ W, Kp No w W → W.cell? ⟨g, off + S1.length * 2 + 1, none⟩ = some (.int .i64 (z.2 : Int)) := by
 obtain ⟨sa, sc, rfl, hsc, hsr⟩ := h.segs.rd
 obtain ⟨g, off, rfl, hg, hfz⟩ := h.segs.place (by simp)
 obtain ⟨g', off', hg', hc⟩ := rd_chunk (segC_len P) (by decide) hsr (k := S1.length) (by simp)
 injection hg' with hg'
 injection hg' with e1 e2
 subst e1; subst e2
 have hget : (S1 ++ [z])[S1.length]'(by simp) = z := by simp
 rw [hget] at hc
 have hmx : (((S1 ++ [z]).length : Nat) : Int) ≤ 9223372036854775807 := by
  obtain ⟨_, a', cap', hv', q1, q2, _⟩ := h.segs
  simp only [maxLen] at q2
  omega
 refine ⟨g, off, _, sc, rfl, by simp, hmx, hg, hfz, fun W hW => ?_, fun W hW => hc W hW 1 _ rfl⟩
 have := hc W hW 0 _ rfl
 rwa [Nat.add_zero] at this
set_option maxRecDepth 100000 in
set_option maxHeartbeats 4000000 in
theorem ends_any (w : World) (l d : Nat) (P : ByteArray) (s : DSt) (st : LSt) (F G : Nat → Prop) (hD : DiskAt w d s F) (hL : LogAt w l d P st G) (hFG : ∀ k, F k → ¬ G k) (x : ByteArray) (r : List ByteArray) (na : Option Addr) (nc : Nat)
  (hN : ∀ W, Kp F w W → Rd W W.heap.size na ((x :: r).map Value.string)) (hr : r.length ≤ 100000) :
  Calls Tryz.prog 57 #[.pointer (some ⟨l, 0, none⟩), .slice na (r.length + 1) nc] w (EndP w d F (endS P s st.segs x r)) := by
 obtain ⟨n, hn⟩ : ∃ n, n = r.length + 1 := ⟨_, rfl⟩
 obtain ⟨m, hm⟩ : ∃ m, m = r.length := ⟨_, rfl⟩
 rw [← hn]
 have hw1 : wrap64 ((n : Int) - 1) = (m : Int) := by rw [IntWalk.wrap64_in _ (by omega)]; omega
 obtain ⟨N, hNe⟩ : ∃ N, N = x :: r := ⟨_, rfl⟩
 rw [← hNe] at hN
 have hNl : N.length = n := by rw [hNe, hn]; rfl
 have hmn : m < n := by omega
 have hm1 : m ≤ 100000 := by omega
 have HN := Lib.hid hN
 have HNE := Lib.hid hNe
 have HNL := Lib.hid hNl
 have HD := Lib.hid hD
 have HL := Lib.hid hL
 have HFG := Lib.hid hFG
 have HNN := Lib.hid hn
 have HMM := Lib.hid hm
 clear hD hL hFG hN hNe hNl hn hm
 go_enter Tryz.func57, Tryz.ntmps57
 go_wp2_with fail
 rename World => w0
 rw [hw1]
 go_loopw [4] (fun s4 wr => ∃ j : Nat, j ≤ m ∧ s4 = .int .i64 (j : Int) ∧ Hid (EnR w0 wr d s F N j)) (fun s4 _ => (intOf s4).toNat)
 case atStart => exact ⟨m, by omega, rfl, Lib.hid ⟨s, F, by rw [List.drop_of_length_le (by have := HNL.out; have := HNN.out; have := HMM.out; omega)]; rfl, HD.out, Foot.refl _ _, Kp.refl _ _⟩⟩
 case round =>
  obtain ⟨j, hj, rfl, HR⟩ := hrel
  obtain ⟨s', F', hrm, hD', hFt, hKp⟩ := HR.out
  clear HR
  have hLw := HL.out.keep hKp fun k hg hf => HFG.out k hf hg
  obtain ⟨sv, ev, E, hC, hE, hLF, hGl⟩ := hLw
  have hl0 : ∀ W, Kp No wr W → W.cell? ⟨l, 0, none⟩ = some (.pointer (some ⟨d, 0, none⟩)) := fun W hW => by
   rw [cell_at (hC.keep_no hW).cell]
   rfl
  have hll := get_lt hC.cell
  have hnr := HN.out wr hKp
  by_cases h0 : 0 < j
  ·have e1 : decide ((0 : Int) < (j : Int)) = true := by rw [decide_eq_true_iff]; omega
   have hjn : j < n := by omega
   obtain ⟨ng, noff, rfl, hng, _, hnc⟩ := hnr.at_ (i := j) (u := .string (N[j]'(by rw [HNL.out]; exact hjn))) (by simp)
   have hn2 : ∀ W, Kp No wr W → W.cell? ⟨ng, noff + j, none⟩ = some (.string (N[j]'(by rw [HNL.out]; exact hjn))) := fun W hW => (hW.cell (p := ⟨ng, noff + j, none⟩) hng (fun x => x)).trans hnc
   obtain ⟨y, hy⟩ : ∃ y, y = N[j]'(by rw [HNL.out]; exact hjn) := ⟨_, rfl⟩
   rw [← hy] at hn2 hnc
   have HRM := Lib.hid hrm
   have HD1 := Lib.hid hD'
   have HFT := Lib.hid hFt
   have HKP := Lib.hid hKp
   have HY := Lib.hid hy
   clear hrm hD' hFt hKp hC hE hLF hGl hnr hnc hy
   go_upto_region 3 with fail
   refine wp_region_fin (Kp No _) [0,0,0,0,0,0,0,0,2,2] [0,1,2,3,4,5,6,7] 8 [9] (by kernel_rfl) (by kernel_rfl) (fun _ n h => h.drewN n) (Kp.refl _ _) ?_
   repeat (first
    | (apply wpOrd_skip rfl (by decide) rfl; (focus (go_simp; rfl)))
    | (apply wpOrd_pure rfl rfl rfl; (focus (intro _ _; go_simp; (try go_ints); rfl)); (focus (go_simp; rfl)))
    | (apply wpOrd_read rfl rfl rfl; (focus (intro _; go_simp; (try go_ints); rfl)); (focus (go_simp; rfl))))
   refine fin_now (fun n1 => ?_)
   refine wpSeq_step rfl ?_
   have hc := Remove_any (wr.drewN n1) d s' F' (HD1.out.keep_no ((Kp.refl No wr).drewN n1)) y
   obtain ⟨q, hq⟩ : ∃ q, q = rmS s' y := ⟨_, rfl⟩
   have hqc := rm_code s' y
   rw [← hq] at hc hqc
   have HQ := Lib.hid hq
   clear hq
   go_wp2_with fail
   with_reducible refine hc.mono ?_
   rintro e w1 ⟨rfl, F1, hD1, hF1, hK1⟩
   clear hc
   obtain ⟨qc, hqe⟩ : ∃ qc, qc = q.1 := ⟨_, rfl⟩
   rw [← hqe] at hqc ⊢
   have hKall : Kp F w0 w1 := kp_foot HKP.out HFT.out hK1.of_drewN
   have hFall : Foot F F1 w0 := HFT.out.trans hF1 HKP.out.size
   have HD2 := Lib.hid hD1
   have HK2 := Lib.hid hKall
   have HF2 := Lib.hid hFall
   have HQE := Lib.hid hqe
   clear hD1 hF1 hK1 hKall hFall hqe
   go_wp2_with fail
   refine wpSeq_step rfl ?_
   have hg := gate_any qc hqc.1 hqc.2 w1
   have HQC := Lib.hid hqc
   clear hqc
   go_wp2_with fail
   with_reducible refine hg.mono ?_
   rintro e w' ⟨hgp, rfl⟩
   clear hg
   rcases hgp with ⟨hz, rfl⟩ | ⟨hz, rfl⟩
   ·skip
    go_wp2_with fail
    refine upto_done ?_
    obtain ⟨j1, hj1⟩ : ∃ j1, j = j1 + 1 := ⟨j - 1, by omega⟩
    have hw2 : wrap64 ((j : Int) - 1) = (j1 : Int) := by rw [IntWalk.wrap64_in _ (by omega)]; omega
    have hj1m : j1 ≤ m := by omega
    have hnew : EnR w0 w1 d s F N j1 := ⟨q.2, F1, by
     have hq0 : (rmS s' y).1 = 0 := by rw [← HQ.out, ← HQE.out]; exact hz
     have hjj : N[j]? = some y := by rw [HY.out]; exact List.getElem?_eq_getElem _
     have := rm_next HRM.out hjj hq0
     rw [HQ.out, ← hj1]
     exact this, HD2.out, HF2.out, HK2.out⟩
    have HNEW := Lib.hid hnew
    clear hnew hw2
    go_wp2_with fail
    go_roundw
    case rel => exact ⟨j1, hj1m, rfl, HNEW⟩
    case measure => simp [intOf]; omega
   ·have hjj : (x :: r)[j]? = some y := by rw [← HNE.out, HY.out]; exact List.getElem?_eq_getElem _
    have hq0 : (rmS s' y).1 ≠ 0 := by rw [← HQ.out, ← HQE.out]; exact hz
    have hall := rm_fail (by rw [← HNE.out]; exact HRM.out) hjj h0 hq0
    have hes : endS P s st.segs x r = rmS s' y := by
     unfold endS
     rw [hall, if_neg hq0]
    refine ⟨rfl, ?_⟩
    rw [hes, ← HQ.out]
    exact ⟨⟨F1, HD2.out, HF2.out, HK2.out⟩, .inr ⟨by rw [← HQE.out]; exact hz, by rw [← HQE.out]⟩⟩
  ·have hj0 : j = 0 := by omega
   subst hj0
   have hall : rmAll s r.reverse = (0, s') := by
    have := hrm
    rw [HNE.out] at this
    exact this
   have hes : endS P s st.segs x r = endOne P s' st.segs x := by
    unfold endS
    rw [hall, if_pos rfl]
   obtain ⟨ng, noff, rfl, hng, _, hnc⟩ := hnr.at_ (i := 0) (u := .string x) (by rw [HNE.out]; rfl)
   rw [Nat.add_zero] at hnc
   have hn2 : ∀ W, Kp No wr W → W.cell? ⟨ng, noff, none⟩ = some (.string x) := fun W hW => (hW.cell (p := ⟨ng, noff, none⟩) hng (fun x => x)).trans hnc
   have hn0 : 0 < n := by omega
   have HES := Lib.hid hes
   clear hes hall
   have HD1 := Lib.hid hD'
   have HFT := Lib.hid hFt
   have HKP := Lib.hid hKp
   rcases List.eq_nil_or_concat st.segs with hsg | ⟨S1, z, hsg⟩
   ·have hes2 : endOne P s' st.segs x = rmS s' x := by rw [hsg]; rfl
    obtain ⟨sa, sc, hsv, _⟩ := hC.segs.rd
    rw [hsg] at hsv
    have hl2 : ∀ W, Kp No wr W → W.cell? ⟨l, 2, none⟩ = some (.slice sa 0 sc) := fun W hW => by
     rw [cell_at (hC.keep_no hW).cell]
     exact congrArg some hsv
    have hl2w := hl2 wr (Kp.refl _ _)
    have hl0w := hl0 wr (Kp.refl _ _)
    clear hrm hD' hFt hKp hC hE hLF hGl hnr hsv hsg
    go_upto_region 5 with fail
    refine wp_region_held' (Kp No _) [0,0,0,0,0,0,0,0,0,0,0,0,0,0,0,0] [0,1,2,3,4,5,6,7,8,9,10,11,12,13,14,15] (by kernel_rfl) (by kernel_rfl) (fun _ n h => h.drewN n) (Kp.refl _ _) ?_
    repeat (first
     | (apply wpOrd_skip rfl (by decide) rfl; (focus (go_simp; rfl)))
     | (apply wpOrd_pure rfl rfl rfl; (focus (intro _ _; go_simp; (try go_ints); rfl)); (focus (go_simp; rfl)))
     | (apply wpOrd_read rfl rfl rfl; (focus (intro _; go_simp; (try go_ints); rfl)); (focus (go_simp; rfl))))
    refine wpOrd_nil (fun nq => ?_)
    go_upto_region 7 with fail
    have hkq : Kp No wr (wr.drewN nq) := (Kp.refl No wr).drewN nq
    obtain ⟨w9, hw9⟩ : ∃ W, W = (wr.drewN nq) := ⟨_, rfl⟩
    rw [← hw9] at hkq ⊢
    have HD9 := Lib.hid (HD1.out.keep_no hkq)
    have hl09 : ∀ W, Kp No w9 W → W.cell? ⟨l, 0, none⟩ = some (.pointer (some ⟨d, 0, none⟩)) := fun W hW => hl0 W (hkq.trans_same hW)
    have hn29 : ∀ W, Kp No w9 W → W.cell? ⟨ng, noff, none⟩ = some (.string x) := fun W hW => hn2 W (hkq.trans_same hW)
    have HKQ := Lib.hid hkq
    clear hkq hw9
    refine wp_region_fin (Kp No w9) [0,0,0,0,0,0,0,2,2] [0,1,2,3,4,5,6] 7 [8] (by kernel_rfl) (by kernel_rfl) (fun _ n h => h.drewN n) (Kp.refl _ _) ?_
    repeat (first
     | (apply wpOrd_skip rfl (by decide) rfl; (focus (go_simp; rfl)))
     | (apply wpOrd_pure rfl rfl rfl; (focus (intro _ _; go_simp; (try go_ints); rfl)); (focus (go_simp; rfl)))
     | (apply wpOrd_read rfl rfl rfl; (focus (intro _; go_simp; (try go_ints); rfl)); (focus (go_simp; rfl))))
    refine fin_now (fun n1 => ?_)
    refine wpSeq_step rfl ?_
    have hc := Remove_any (w9.drewN n1) d s' F' (HD9.out.keep_no ((Kp.refl No w9).drewN n1)) x
    obtain ⟨q, hq⟩ : ∃ q, q = rmS s' x := ⟨_, rfl⟩
    have hqc := rm_code s' x
    rw [← hq] at hc hqc hes2
    have HQ := Lib.hid hes2
    clear hq hes2
    go_wp2_with fail
    with_reducible refine hc.mono ?_
    rintro e w1 ⟨rfl, F1, hD1, hF1, hK1⟩
    clear hc
    obtain ⟨qc, hqe⟩ : ∃ qc, qc = q.1 := ⟨_, rfl⟩
    rw [← hqe] at hqc ⊢
    have hKall : Kp F w0 w1 := kp_foot (HKP.out.trans_no HKQ.out) HFT.out hK1.of_drewN
    have hFall : Foot F F1 w0 := HFT.out.trans hF1 (Nat.le_trans HKP.out.size HKQ.out.size)
    have HFIN := Lib.hid (show EndP w0 d F (endS P s st.segs x r) = fun e w' => (∃ F', DiskAt w' d q.2 F' ∧ Foot F F' w0 ∧ Kp F w0 w') ∧ GateP qc e from by
     unfold EndP
     rw [HES.out, HQ.out, hqe])
    have HD2 := Lib.hid (show ∃ F', DiskAt w1 d q.2 F' ∧ Foot F F' w0 ∧ Kp F w0 w1 from ⟨F1, hD1, hFall, hKall⟩)
    clear hD1 hF1 hK1 hKall hFall hqe
    go_wp2_with fail
    refine wpSeq_step rfl ?_
    have hg := gate_any qc hqc.1 hqc.2 w1
    have HQC := Lib.hid hqc
    clear hqc
    go_wp2_with fail
    with_reducible refine hg.mono ?_
    rintro e w' ⟨hgp, rfl⟩
    clear hg
    have HGP := Lib.hid hgp
    rcases hgp with ⟨hz, rfl⟩ | ⟨hz, rfl⟩
    ·go_wp2_with fail
     refine upto_done ?_
     go_wp2_with fail
     refine bodyPost_end (results_none rfl _ _ _) rfl ?_
     rw [HFIN.out]
     exact ⟨HD2.out, HGP.out⟩
    ·refine ⟨rfl, ?_⟩
     rw [HFIN.out]
     exact ⟨HD2.out, HGP.out⟩
   ·rw [List.concat_eq_append] at hsg
    obtain ⟨sg, soff, sn, sc, rfl, hsn, hsnc, hsgl, _, hsc0, hsc1⟩ := LogC.lastSeg (by rw [hsg] at hC; exact hC)
    obtain ⟨m2, hm2⟩ : ∃ m2, m2 = S1.length := ⟨_, rfl⟩
    rw [← hm2] at hsn hsc0 hsc1
    have hl2 : ∀ W, Kp No wr W → W.cell? ⟨l, 2, none⟩ = some (.slice (some ⟨sg, soff, none⟩) sn sc) := fun W hW => by
     rw [cell_at (hC.keep_no hW).cell]
     rfl
    have hl2w := hl2 wr (Kp.refl _ _)
    have hl0w := hl0 wr (Kp.refl _ _)
    have hms : m2 < sn := by omega
    have hw3 : (sn : Int) - 1 = (m2 : Int) := by omega
    obtain ⟨zn, hzn⟩ : ∃ zn, zn = bnm P z.1 := ⟨_, rfl⟩
    rw [← hzn] at hsc0
    have e4 : decide ((0 : Int) ≤ (m2 : Int)) = true := by rw [decide_eq_true_iff]; omega
    by_cases hzx : zn = x
    ·have hbq : (zn.toList == x.toList) = true := by rw [hzx]; exact beq_self_eq_true _
     have hes2 : endOne P s' st.segs x = cuS s' x (z.2 : Int) := by
      unfold endOne
      rw [hsg, List.getLast?_append]
      simp only [List.getLast?_singleton, Option.some_or]
      rw [if_pos (by rw [← hzn]; exact hzx)]
     clear hrm hD' hFt hKp hC hE hLF hGl hnr hm2 hsn hzx hsg hzn
     go_upto_region 5 with fail
     refine wp_region_held' (Kp No _) [0,0,0,0,0,0,0,0,0,0,0,0,0,0,0,0] [0,1,2,3,4,5,6,7,8,9,10,11,12,13,14,15] (by kernel_rfl) (by kernel_rfl) (fun _ n h => h.drewN n) (Kp.refl _ _) ?_
     repeat (first
      | (apply wpOrd_skip rfl (by decide) rfl; (focus (go_simp; rfl)))
      | (apply wpOrd_pure rfl rfl rfl; (focus (intro _ _; go_simp; (try go_ints); rfl)); (focus (go_simp; rfl)))
      | (apply wpOrd_read rfl rfl rfl; (focus (intro _; go_simp; (try go_ints); rfl)); (focus (go_simp; rfl))))
     refine wpOrd_nil (fun nq => ?_)
     go_upto_region 6 with fail
     have hkq : Kp No wr (wr.drewN nq) := (Kp.refl No wr).drewN nq
     obtain ⟨w9, hw9⟩ : ∃ W, W = wr.drewN nq := ⟨_, rfl⟩
     rw [← hw9] at hkq ⊢
     have HD9 := Lib.hid (HD1.out.keep_no hkq)
     have hl09 : ∀ W, Kp No w9 W → W.cell? ⟨l, 0, none⟩ = some (.pointer (some ⟨d, 0, none⟩)) := fun W hW => hl0 W (hkq.trans_same hW)
     have hl29 : ∀ W, Kp No w9 W → W.cell? ⟨l, 2, none⟩ = some (.slice (some ⟨sg, soff, none⟩) sn sc) := fun W hW => hl2 W (hkq.trans_same hW)
     have hsc19 : ∀ W, Kp No w9 W → W.cell? ⟨sg, soff + m2 * 2 + 1, none⟩ = some (.int .i64 (z.2 : Int)) := fun W hW => hsc1 W (hkq.trans_same hW)
     have hn29 : ∀ W, Kp No w9 W → W.cell? ⟨ng, noff, none⟩ = some (.string x) := fun W hW => hn2 W (hkq.trans_same hW)
     have HKQ := Lib.hid hkq
     clear hkq hw9
     obtain ⟨zb, hzb⟩ : ∃ zb, zb = z.2 := ⟨_, rfl⟩
     rw [← hzb] at hsc1 hsc19 hes2
     clear hzb
     refine wp_region_fin (Kp No w9) [0,0,0,0,0,0,0,0,0,0,0,0,0,0,0,2,2] [0,1,2,3,4,5,6,7,8,9,10,11,12,13,14] 15 [16] (by kernel_rfl) (by kernel_rfl) (fun _ n h => h.drewN n) (Kp.refl _ _) ?_
     repeat (first
      | (apply wpOrd_skip rfl (by decide) rfl; (focus (go_simp; rfl)))
      | (apply wpOrd_pure rfl rfl rfl; (focus (intro _ _; go_simp; (try go_ints); rfl)); (focus (go_simp; rfl)))
      | (apply wpOrd_read rfl rfl rfl; (focus (intro _; go_simp; (try go_ints); rfl)); (focus (go_simp; rfl))))
     refine fin_now (fun n1 => ?_)
     refine wpSeq_step rfl ?_
     have hc := Cut_any (w9.drewN n1) d s' F' (HD9.out.keep_no ((Kp.refl No w9).drewN n1)) x (zb : Int)
     obtain ⟨q, hq⟩ : ∃ q, q = cuS s' x (zb : Int) := ⟨_, rfl⟩
     have hqc := cu_code s' x (zb : Int)
     rw [← hq] at hc hqc hes2
     have HQ := Lib.hid hes2
     clear hq hes2
     go_wp2_with fail
     with_reducible refine hc.mono ?_
     rintro e w1 ⟨rfl, F1, hD1, hF1, hK1⟩
     clear hc
     obtain ⟨qc, hqe⟩ : ∃ qc, qc = q.1 := ⟨_, rfl⟩
     rw [← hqe] at hqc ⊢
     have hKall : Kp F w0 w1 := kp_foot (HKP.out.trans_no HKQ.out) HFT.out hK1.of_drewN
     have hFall : Foot F F1 w0 := HFT.out.trans hF1 (Nat.le_trans HKP.out.size HKQ.out.size)
     have HFIN := Lib.hid (show EndP w0 d F (endS P s st.segs x r) = fun e w' => (∃ F', DiskAt w' d q.2 F' ∧ Foot F F' w0 ∧ Kp F w0 w') ∧ GateP qc e from by
      unfold EndP
      rw [HES.out, HQ.out, hqe])
     have HD2 := Lib.hid (show ∃ F', DiskAt w1 d q.2 F' ∧ Foot F F' w0 ∧ Kp F w0 w1 from ⟨F1, hD1, hFall, hKall⟩)
     clear hD1 hF1 hK1 hKall hFall hqe
     go_wp2_with fail
     refine wpSeq_step rfl ?_
     have hg := gate_any qc hqc.1 hqc.2 w1
     have HQC := Lib.hid hqc
     clear hqc
     go_wp2_with fail
     with_reducible refine hg.mono ?_
     rintro e w' ⟨hgp, rfl⟩
     clear hg
     have HGP := Lib.hid hgp
     rcases hgp with ⟨hz, rfl⟩ | ⟨hz, rfl⟩
     ·go_wp2_with fail
      refine upto_done ?_
      go_wp2_with fail
      refine bodyPost_end (results_none rfl _ _ _) rfl ?_
      rw [HFIN.out]
      exact ⟨HD2.out, HGP.out⟩
     ·refine ⟨rfl, ?_⟩
      rw [HFIN.out]
      exact ⟨HD2.out, HGP.out⟩
    ·have hbq : (zn.toList == x.toList) = false := by rw [← beq_toListBytes]; exact beq_false_of_ne hzx
     have hes2 : endOne P s' st.segs x = rmS s' x := by
      unfold endOne
      rw [hsg, List.getLast?_append]
      simp only [List.getLast?_singleton, Option.some_or]
      rw [if_neg (by rw [← hzn]; exact hzx)]
     clear hrm hD' hFt hKp hC hE hLF hGl hnr hm2 hsn hsg hzn hzx
     go_upto_region 5 with fail
     refine wp_region_held' (Kp No _) [0,0,0,0,0,0,0,0,0,0,0,0,0,0,0,0] [0,1,2,3,4,5,6,7,8,9,10,11,12,13,14,15] (by kernel_rfl) (by kernel_rfl) (fun _ n h => h.drewN n) (Kp.refl _ _) ?_
     repeat (first
      | (apply wpOrd_skip rfl (by decide) rfl; (focus (go_simp; rfl)))
      | (apply wpOrd_pure rfl rfl rfl; (focus (intro _ _; go_simp; (try go_ints); rfl)); (focus (go_simp; rfl)))
      | (apply wpOrd_read rfl rfl rfl; (focus (intro _; go_simp; (try go_ints); rfl)); (focus (go_simp; rfl))))
     refine wpOrd_nil (fun nq => ?_)
     go_upto_region 7 with fail
     have hkq : Kp No wr (wr.drewN nq) := (Kp.refl No wr).drewN nq
     obtain ⟨w9, hw9⟩ : ∃ W, W = (wr.drewN nq) := ⟨_, rfl⟩
     rw [← hw9] at hkq ⊢
     have HD9 := Lib.hid (HD1.out.keep_no hkq)
     have hl09 : ∀ W, Kp No w9 W → W.cell? ⟨l, 0, none⟩ = some (.pointer (some ⟨d, 0, none⟩)) := fun W hW => hl0 W (hkq.trans_same hW)
     have hn29 : ∀ W, Kp No w9 W → W.cell? ⟨ng, noff, none⟩ = some (.string x) := fun W hW => hn2 W (hkq.trans_same hW)
     have HKQ := Lib.hid hkq
     clear hkq hw9
     refine wp_region_fin (Kp No w9) [0,0,0,0,0,0,0,2,2] [0,1,2,3,4,5,6] 7 [8] (by kernel_rfl) (by kernel_rfl) (fun _ n h => h.drewN n) (Kp.refl _ _) ?_
     repeat (first
      | (apply wpOrd_skip rfl (by decide) rfl; (focus (go_simp; rfl)))
      | (apply wpOrd_pure rfl rfl rfl; (focus (intro _ _; go_simp; (try go_ints); rfl)); (focus (go_simp; rfl)))
      | (apply wpOrd_read rfl rfl rfl; (focus (intro _; go_simp; (try go_ints); rfl)); (focus (go_simp; rfl))))
     refine fin_now (fun n1 => ?_)
     refine wpSeq_step rfl ?_
     have hc := Remove_any (w9.drewN n1) d s' F' (HD9.out.keep_no ((Kp.refl No w9).drewN n1)) x
     obtain ⟨q, hq⟩ : ∃ q, q = rmS s' x := ⟨_, rfl⟩
     have hqc := rm_code s' x
     rw [← hq] at hc hqc hes2
     have HQ := Lib.hid hes2
     clear hq hes2
     go_wp2_with fail
     with_reducible refine hc.mono ?_
     rintro e w1 ⟨rfl, F1, hD1, hF1, hK1⟩
     clear hc
     obtain ⟨qc, hqe⟩ : ∃ qc, qc = q.1 := ⟨_, rfl⟩
     rw [← hqe] at hqc ⊢
     have hKall : Kp F w0 w1 := kp_foot (HKP.out.trans_no HKQ.out) HFT.out hK1.of_drewN
     have hFall : Foot F F1 w0 := HFT.out.trans hF1 (Nat.le_trans HKP.out.size HKQ.out.size)
     have HFIN := Lib.hid (show EndP w0 d F (endS P s st.segs x r) = fun e w' => (∃ F', DiskAt w' d q.2 F' ∧ Foot F F' w0 ∧ Kp F w0 w') ∧ GateP qc e from by
      unfold EndP
      rw [HES.out, HQ.out, hqe])
     have HD2 := Lib.hid (show ∃ F', DiskAt w1 d q.2 F' ∧ Foot F F' w0 ∧ Kp F w0 w1 from ⟨F1, hD1, hFall, hKall⟩)
     clear hD1 hF1 hK1 hKall hFall hqe
     go_wp2_with fail
     refine wpSeq_step rfl ?_
     have hg := gate_any qc hqc.1 hqc.2 w1
     have HQC := Lib.hid hqc
     clear hqc
     go_wp2_with fail
     with_reducible refine hg.mono ?_
     rintro e w' ⟨hgp, rfl⟩
     clear hg
     have HGP := Lib.hid hgp
     rcases hgp with ⟨hz, rfl⟩ | ⟨hz, rfl⟩
     ·go_wp2_with fail
      refine upto_done ?_
      go_wp2_with fail
      refine bodyPost_end (results_none rfl _ _ _) rfl ?_
      rw [HFIN.out]
      exact ⟨HD2.out, HGP.out⟩
     ·refine ⟨rfl, ?_⟩
      rw [HFIN.out]
      exact ⟨HD2.out, HGP.out⟩
end Go.Proofs.YtdibkdgafidjgaaGreatDoor

