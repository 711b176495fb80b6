/-
  Texts laid together: RecAny, WSyncC, WSync, WAppP.
-/
import Derived.Orders
import Derived.Recover
import Derived.Test.YtgnkmjeoaoongaaGreatDoorSb1
import Derived.Test.YtgnkmjeoaoongaaGreatDoorSb3
namespace Go.Mer
open Go
def allLin (md : Region.Mode) (ops : Array Oper) : Nat → Array Bool → List (List Nat)
 | 0, _ => [[]]
 | fuel + 1, listed => if (Region.ready md ops listed).isEmpty then [[]] else (Region.ready md ops listed).flatMap fun i => (allLin md ops fuel (listed.setIfInBounds i true)).map (i :: ·)
theorem lin_mem (md : Region.Mode) (ops : Array Oper) : ∀ (fuel t : Nat) (listed : Array Bool), Region.linearise.go md ops fuel t listed [] ∈ allLin md ops fuel listed := by
 intro fuel
 induction fuel with
 | zero => intro t listed; simp [Region.linearise.go, allLin]
 | succ fuel ih =>
  intro t listed
  simp only [Region.linearise.go]
  change (match (Region.ready md ops listed)[t % (Region.ready md ops listed).length]? with
   | some i => Region.linearise.go md ops fuel (t / (Region.ready md ops listed).length) (listed.setIfInBounds i true) [i]
   | none => [].reverse) ∈ _
  unfold allLin
  cases hi : (Region.ready md ops listed)[t % (Region.ready md ops listed).length]? with
  | none =>
   have hnil : Region.ready md ops listed = [] := by
    cases hr : Region.ready md ops listed with
    | nil => rfl
    | cons x xs =>
     rw [hr] at hi
     have hlt : t % (x :: xs).length < (x :: xs).length := Nat.mod_lt _ (by simp)
     simp at hi
     simp at hlt
     omega
   rw [hnil]
   simp
  | some i =>
   simp only []
   have hm := List.mem_of_getElem? hi
   have hne : (Region.ready md ops listed).isEmpty = false := by
    cases hr : Region.ready md ops listed with
    | nil => rw [hr] at hm; cases hm
    | cons x xs => rfl
   rw [hne, linearise_go_acc, List.reverse_singleton, List.singleton_append]
   simp only [Bool.false_eq_true, if_false]
   exact List.mem_flatMap.2 ⟨i, hm, List.mem_map.2 ⟨_, ih _ _, rfl⟩⟩
theorem wpS_region_any {P : Program} {Q : Exit → Act → List Frame → World → Prop} {a : Act} {cs : List Frame} {w : World} {id : Nat} {ops : Array Oper} (L : List (List Nat)) (hm : P.follows .mixedOrders = true) (hL : allLin .any ops ops.size (Array.replicate ops.size false) = L)
  (h : ∀ l ∈ L, wpOpsS P ops Q l a cs { w with drawn := w.drawn + 1 }) : (Code.region id ops true).wpS P Q a cs w := by
 intro b k hb hr
 have hmem := lin_mem .any ops ops.size (w.tape w.drawn (.order b.fn id)) (Array.replicate ops.size false)
 rw [hL] at hmem
 obtain ⟨e, a', cs', w', q, r⟩ := wp_opsS _ a cs _ (h _ hmem) b k hb hr
 refine ⟨e, a', cs', w', q, .of_steps (.one ?_) r⟩
 have hs := step_region_draw (P := P) (b := b) (a := a) (k := k) (cs := cs) (w := w) (ops := ops) (id := id)
 simp only [Region.schedule, hm, Bool.true_or, if_true] at hs
 exact hs
end Go.Mer
namespace Go.Proofs.YtgnkmjeoaoongaaGreatDoor
open Go.RowKit Go.Mer
set_option maxRecDepth 100000 in
set_option maxHeartbeats 1000000 in
theorem sync_idle (p : Addr) (q : Addr) (l : Nat) (z : Value) (w : World) (hq : w.cell? q = some (.pointer (some ⟨l, 0, none⟩))) (hl : w.cell? ⟨l, 5, none⟩ = some z) (hlf : w.frozen? ⟨l, 5, none⟩ = false) :
  CallsD Tryz.prog 188 #[.pointer (some p), .pointer (some q)] .returning w fun e u' w' => e = .returned (.tuple #[]) ∧ u' = .returning ∧ w' = w.drew.setCell ⟨l, 5, none⟩ (.bool false) := by
 refine callsD_of_wpS Tryz.func188 rfl fun c₀ cs hu => ?_
 refine wpS_region_any [[0, 1, 2, 3, 4, 5], [1, 0, 2, 3, 4, 5], [1, 2, 0, 3, 4, 5]] (by kernel_rfl) (by kernel_rfl) ?_
 have hq2 : w.drew.cell? q = some (.pointer (some ⟨l, 0, none⟩)) := hq
 have hl2 : w.drew.cell? ⟨l, 5, none⟩ = some z := hl
 have hlf2 : w.drew.frozen? ⟨l, 5, none⟩ = false := hlf
 obtain ⟨W, hW⟩ : ∃ W, W = w.drew := ⟨_, rfl⟩
 rw [← hW] at hq2 hl2 hlf2 ⊢
 change ∀ l_1 ∈ _, wpOpsS _ _ _ l_1 _ _ w.drew
 rw [← hW]
 intro o ho
 simp only [List.mem_cons, List.not_mem_nil, or_false] at ho
 rcases ho with rfl | rfl | rfl
 ·skip
  simp [wpOpsS, go_sem, recoverD, hu, Tryz.ntmps188, hq2]
  refine (caught_nil p W).mono ?_
  rintro e w' ⟨rfl, rfl⟩
  simp [go_sem, hl2, hlf2, bodyPostS, results, Tryz.results188, Array.replicate]
  cases c₀
  simp_all
 ·skip
  simp [wpOpsS, go_sem, recoverD, hu, Tryz.ntmps188, hq2]
  refine (caught_nil p W).mono ?_
  rintro e w' ⟨rfl, rfl⟩
  simp [go_sem, hl2, hlf2, bodyPostS, results, Tryz.results188, Array.replicate]
  cases c₀
  simp_all
 ·skip
  simp [wpOpsS, go_sem, recoverD, hu, Tryz.ntmps188]
  refine (caught_nil p W).mono ?_
  rintro e w' ⟨rfl, rfl⟩
  simp [go_sem, hq2, hl2, hlf2, bodyPostS, results, Tryz.results188, Array.replicate]
  cases c₀
  simp_all
set_option maxRecDepth 100000 in
set_option maxHeartbeats 1000000 in
theorem sync_panic (b i k : Nat) (q : Addr) (l : Nat) (x z : Value) (older : List PanicEntry) (w : World) (hc : w.cell? ⟨b, i, none⟩ = some x) (hf : w.frozen? ⟨b, i, none⟩ = false) (hb : b < w.heap.size) (hq : w.cell? q = some (.pointer (some ⟨l, 0, none⟩))) (hqb : q.block < w.heap.size) (hqn : ¬ q.block = b)
  (hl : w.cell? ⟨l, 5, none⟩ = some z) (hlf : w.frozen? ⟨l, 5, none⟩ = false) (hlb : l < w.heap.size) (hln : ¬ l = b) :
  CallsD Tryz.prog 188 #[.pointer (some ⟨b, i, none⟩), .pointer (some q)] (.panicking ({ v := .iface 280 (.agg #[.int .i64 (k : Int)]), recovered := false } :: older)) w fun e u' w' =>
   e = .returned (.tuple #[]) ∧ u' = .panicking ({ v := .iface 280 (.agg #[.int .i64 (k : Int)]), recovered := true } :: older) ∧ ∃ o, w' = ((w.drew.setCell ⟨b, i, none⟩ (.int .i64 (k : Int))).alloc o).setCell ⟨l, 5, none⟩ (.bool true) := by
 refine callsD_of_wpS Tryz.func188 rfl fun c₀ cs hu => ?_
 refine wpS_region_any [[0, 1, 2, 3, 4, 5], [1, 0, 2, 3, 4, 5], [1, 2, 0, 3, 4, 5]] (by kernel_rfl) (by kernel_rfl) ?_
 have hc2 : w.drew.cell? ⟨b, i, none⟩ = some x := hc
 have hf2 : w.drew.frozen? ⟨b, i, none⟩ = false := hf
 have hb2 : b < w.drew.heap.size := hb
 have hq2 : w.drew.cell? q = some (.pointer (some ⟨l, 0, none⟩)) := hq
 have hqb2 : q.block < w.drew.heap.size := hqb
 have hl2 : w.drew.cell? ⟨l, 5, none⟩ = some z := hl
 have hlf2 : w.drew.frozen? ⟨l, 5, none⟩ = false := hlf
 have hlb2 : l < w.drew.heap.size := hlb
 obtain ⟨W, hW⟩ : ∃ W, W = w.drew := ⟨_, rfl⟩
 change ∀ l_1 ∈ _, wpOpsS _ _ _ l_1 _ _ w.drew
 rw [← hW] at hc2 hf2 hb2 hq2 hqb2 hl2 hlf2 hlb2 ⊢
 clear hW hc hf hb hq hqb hl hlf hlb
 have hnx : ∀ o, Kp (fun j => j = b) W ((W.setCell ⟨b, i, none⟩ (.int .i64 (k : Int))).alloc o) := fun o => ((Kp.refl (fun j => j = b) W).setCell (p := ⟨b, i, none⟩) (.inl rfl) _).alloc _
 intro o ho
 simp only [List.mem_cons, List.not_mem_nil, or_false] at ho
 rcases ho with rfl | rfl | rfl
 ·skip
  simp [wpOpsS, go_sem, recoverD, hu, Tryz.ntmps188, hq2]
  refine (caught_fail b i k x W hc2 hf2 hb2).mono ?_
  rintro e w' ⟨rfl, ob, rfl⟩
  have hk := hnx ob
  have hl3 := (hk.cell (p := ⟨l, 5, none⟩) hlb2 hln).trans hl2
  have hlf3 := (hk.frozen (p := ⟨l, 5, none⟩) hlb2 hln).trans hlf2
  obtain ⟨W3, hW3⟩ : ∃ W3, W3 = (W.setCell ⟨b, i, none⟩ (.int .i64 (k : Int))).alloc ob := ⟨_, rfl⟩
  rw [← hW3] at hl3 hlf3 ⊢
  simp [go_sem, hl3, hlf3, bodyPostS, results, Tryz.results188, Array.replicate]
  exact ⟨ob, by rw [hW3]⟩
 ·skip
  simp [wpOpsS, go_sem, recoverD, hu, Tryz.ntmps188, hq2]
  refine (caught_fail b i k x W hc2 hf2 hb2).mono ?_
  rintro e w' ⟨rfl, ob, rfl⟩
  have hk := hnx ob
  have hl3 := (hk.cell (p := ⟨l, 5, none⟩) hlb2 hln).trans hl2
  have hlf3 := (hk.frozen (p := ⟨l, 5, none⟩) hlb2 hln).trans hlf2
  obtain ⟨W3, hW3⟩ : ∃ W3, W3 = (W.setCell ⟨b, i, none⟩ (.int .i64 (k : Int))).alloc ob := ⟨_, rfl⟩
  rw [← hW3] at hl3 hlf3 ⊢
  simp [go_sem, hl3, hlf3, bodyPostS, results, Tryz.results188, Array.replicate]
  exact ⟨ob, by rw [hW3]⟩
 ·skip
  simp [wpOpsS, go_sem, recoverD, hu, Tryz.ntmps188]
  refine (caught_fail b i k x W hc2 hf2 hb2).mono ?_
  rintro e w' ⟨rfl, ob, rfl⟩
  have hk := hnx ob
  have hl3 := (hk.cell (p := ⟨l, 5, none⟩) hlb2 hln).trans hl2
  have hlf3 := (hk.frozen (p := ⟨l, 5, none⟩) hlb2 hln).trans hlf2
  obtain ⟨W3, hW3⟩ : ∃ W3, W3 = (W.setCell ⟨b, i, none⟩ (.int .i64 (k : Int))).alloc ob := ⟨_, rfl⟩
  rw [← hW3] at hl3 hlf3 ⊢
  simp [go_sem, hW3 ▸ (hk.cell hqb2 hqn).trans hq2, hl3, hlf3, bodyPostS, results, Tryz.results188, Array.replicate]
  exact ⟨ob, by rw [hW3]⟩
end Go.Proofs.YtgnkmjeoaoongaaGreatDoor
namespace Go.Proofs.YtgnkmjeoaoongaaGreatDoor
open Go.RowKit Go.Mer
theorem SaidW.dead {w W2 w3 w4 : World} {d l : Nat} {P : ByteArray} {F G T : Nat → Prop} {s' : DSt} {st' : LSt} (hF : ∀ k, F k → k < w.heap.size) (hG : ∀ k, G k → k < w.heap.size) (hS : SaidW W2 d l P F G s' st' w3) (hk0 : Kp No w W2) (hk : Kp T w3 w4) (hT : ∀ k, T k → w.heap.size ≤ k ∧ (k < W2.heap.size ∨ w3.heap.size ≤ k)) (b : Bool) :
  (∃ z, w4.cell? ⟨l, 5, none⟩ = some z) ∧ w4.frozen? ⟨l, 5, none⟩ = false ∧ l < w4.heap.size ∧ SaidW w d l P F G s' { st' with dead := b } (w4.setCell ⟨l, 5, none⟩ (.bool b)) := by
 obtain ⟨F', G', hW, hFF, hGG, hKK⟩ := hS
 have hs0 := hk0.size
 have hs1 := hKK.size
 have hfw : ∀ k, F' k → F k ∨ W2.heap.size ≤ k := hFF
 have hTF : ∀ k, F' k → ¬ T k := fun k hf ht => by
  have h1 := hT k ht
  have h2 := hW.disk.lt k hf
  rcases hFF k hf with h3 | h3
  ·have := hF k h3; omega
  ·omega
 have hTG : ∀ k, G' k → ¬ T k := fun k hg ht => by
  have h1 := hT k ht
  have h2 := hW.log.lt k hg
  rcases hGG k hg with h3 | h3
  ·have := hG k h3; omega
  ·omega
 have hD4 := hW.disk.keep hk hTF
 have hL4 := hW.log.keep hk hTG
 have hW4 : WAt w4 d l P s' st' F' G' := ⟨hD4, hL4, hW.sep⟩
 obtain ⟨sv, ev, E, hrun, hE, _⟩ := LRun.start hL4
 obtain ⟨_, _, _, _, _, c5, fr⟩ := hrun.c.cells
 have hll := get_lt hrun.c.cell
 have hcl := set_at hrun.c.cell 5 (.bool b)
 have hR2 := hrun.flag (synced' := st'.synced) (dead' := b) (W' := w4.setCell ⟨l, 5, none⟩ (.bool b)) ((Kp.refl (One l) _).setCell (p := ⟨l, 5, none⟩) (.inl rfl) _) (by simpa using hcl)
 obtain ⟨G2, hL2, hG2, hK2⟩ := hR2.stop
 rw [← hE] at hL2
 have hW5 := hW4.turnL hL2 hG2 hK2
 refine ⟨⟨_, c5 w4 (Kp.refl _ _)⟩, fr w4 (Kp.refl _ _) 5, hll, F', G2, hW5, fun k hk' => (hFF k hk').imp id fun h => Nat.le_trans hs0 h, fun k hk' => ?_, ?_⟩
 ·rcases hG2 k hk' with h | h
  ·exact (hGG k h).imp id fun h => Nat.le_trans hs0 h
  ·right
   have := hk.size
   omega
 ·have h1 : Kp (Both F G) w w3 := (Kp.of_no hk0).trans_same hKK
  have h2 : Kp (Both F G) w w4 := h1.trans hk fun i hi ht => by have := hT i ht; omega
  refine h2.trans hK2 fun i hi hg => ?_
  rcases hGG i hg with h | h
  ·exact .inr h
  ·omega
theorem SaidW.keep {w a b : World} {d l : Nat} {P : ByteArray} {F G : Nat → Prop} {s' : DSt} {st' : LSt} (h : SaidW w d l P F G s' st' a) (hk : Kp No a b) : SaidW w d l P F G s' st' b := by
 obtain ⟨F', G', h1, h2, h3, h4⟩ := h
 exact ⟨F', G', h1.no hk, h2, h3, h4.trans_no hk⟩
def SncP (w : World) (d l : Nat) (P : ByteArray) (F G : Nat → Prop) (r : Int × DSt × LSt) (e : Ending) (w' : World) : Prop := e = .returned (.int .i64 r.1) ∧ SaidW w d l P F G r.2.1 r.2.2 w'
theorem sy_nat {s : DSt} {x : ByteArray} : ∃ k : Nat, (syS s x).1 = (k : Int) := by
 obtain ⟨n, hn⟩ := Int.eq_ofNat_of_zero_le (sy_code s x).1
 exact ⟨n, hn⟩
theorem syncs_nat (P : ByteArray) (s : DSt) (st : LSt) : ∃ k : Nat, (syncsS P s st).1 = (k : Int) := by
 unfold syncsS
 split
 ·split
  ·exact ⟨0, rfl⟩
  ·exact sy_nat
 ·exact ⟨0, rfl⟩
set_option maxRecDepth 100000 in
set_option maxHeartbeats 4000000 in
theorem wSync_any (w : World) (d l : Nat) (P : ByteArray) (s : DSt) (st : LSt) (F G : Nat → Prop) (h : WAt w d l P s st F G) (hne : st.segs = [] → st.ents.length ≤ st.synced) :
  Calls Tryz.prog 113 #[.pointer (some ⟨l, 0, none⟩)] w (SncP w d l P F G (sncS P s st)) := by
 have hmf : ∀ (fn : Fn) (first cap : Array Value) (w : World), (Instr.makeFunc fn first cap).run Tryz.prog w = .ok (.func fn first cap) w := fun _ _ _ _ => rfl
 obtain ⟨sv, ev, E, hC, hE, hLF, hGl⟩ := h.log
 obtain ⟨_, _, _, _, _, c5, fr⟩ := hC.cells
 have hll := get_lt hC.cell
 have hFlt := h.disk.lt
 have hGlt := h.log.lt
 have HC5 := Lib.hid c5
 have H := Lib.hid h
 have HNE := Lib.hid hne
 have HFL := Lib.hid hFlt
 have HGL := Lib.hid hGlt
 clear h hE hLF hGl hC fr c5 hFlt hGlt hne
 cases hd : st.dead with
 | true =>
  have hq : sncS P s st = (9, s, st) := by unfold sncS; rw [if_pos hd]
  have HQ := Lib.hid hq
  have hk2 : Kp No w ((w.alloc (.cells #[.pointer (some ⟨l, 0, none⟩)] 127)).alloc (.cells #[.int .i64 0] 47)) := ((Kp.refl No w).alloc _).alloc _
  have c5w := HC5.out _ hk2
  rw [hd] at c5w
  clear hq hd hk2
  go_enter_defers Tryz.func113, Tryz.ntmps113
  go_wp2_with fail
  refine bodyD_none (v := .int .i64 9) rfl (by simp [results, Tryz.results113, go_sem]) ⟨by rw [HQ.out], ?_⟩
  rw [HQ.out]
  exact SaidW.here H.out (((Kp.refl No w).alloc _).alloc _)
 | false =>
  have hq : sncS P s st = ((syncsS P s st).1, (syncsS P s st).2.1, { (syncsS P s st).2.2 with dead := decide ((syncsS P s st).1 ≠ 0) }) := by
   unfold sncS
   rw [if_neg (by rw [hd]; decide)]
  have HQ := Lib.hid hq
  obtain ⟨W2, hW2⟩ : ∃ W, W = (w.alloc (.cells #[.pointer (some ⟨l, 0, none⟩)] 127)).alloc (.cells #[.int .i64 0] 47) := ⟨_, rfl⟩
  have hk2 : Kp No w W2 := by rw [hW2]; exact ((Kp.refl No w).alloc _).alloc _
  have c5w := HC5.out W2 hk2
  rw [hd] at c5w
  have b0c : W2.cell? ⟨w.heap.size, 0, none⟩ = some (.pointer (some ⟨l, 0, none⟩)) := by rw [hW2]; simp [go_sem]
  have b1c : W2.cell? ⟨w.heap.size + 1, 0, none⟩ = some (.int .i64 0) := by rw [hW2]; simp [go_sem]
  have b1f : W2.frozen? ⟨w.heap.size + 1, 0, none⟩ = false := by rw [hW2]; simp [go_sem]
  have hs2 : W2.heap.size = w.heap.size + 1 + 1 := by rw [hW2]; simp
  have hsy := syncs_any W2 d l P s st F G (H.out.no hk2) HNE.out
  obtain ⟨b0, hb0⟩ : ∃ b0, b0 = w.heap.size := ⟨_, rfl⟩
  have HSY := Lib.hid hsy
  have HK2 := Lib.hid hk2
  have HW2 := Lib.hid hW2
  have HB0 := Lib.hid hb0
  have c5x := c5w
  rw [hW2] at c5x
  rw [← hb0] at b0c b1c b1f hs2
  clear hq hd hk2 hsy c5w hW2
  go_enter_defers Tryz.func113, Tryz.ntmps113
  go_upto_region 6 with fail
  rw [← HW2.out, ← hb0]
  clear c5x hb0
  go_wp2_with fail
  have hc := HSY.out
  with_reducible refine hc.mono ?_
  rintro e w3 ⟨hs3, hgp⟩
  clear hc HSY
  obtain ⟨k, hk⟩ := syncs_nat P s st
  rw [hk] at hgp
  have hkb : Kp (Both F G) W2 w3 := by
   obtain ⟨_, _, _, _, _, hkk⟩ := hs3
   exact hkk
  have hbF : ∀ i, b0 ≤ i → ¬ Both F G i := fun i hi hb => by
   have h0 := HB0.out
   rcases hb with hb | hb
   ·have := HFL.out i hb; omega
   ·have := HGL.out i hb; omega
  have hln : l < b0 := by rw [HB0.out]; exact hll
  have g0 : w3.cell? ⟨b0, 0, none⟩ = some (.pointer (some ⟨l, 0, none⟩)) := (hkb.cell (p := ⟨b0, 0, none⟩) (by show b0 < _; omega) (hbF b0 (Nat.le_refl _))).trans b0c
  have g1 : w3.cell? ⟨b0 + 1, 0, none⟩ = some (.int .i64 0) := (hkb.cell (p := ⟨b0 + 1, 0, none⟩) (by show b0 + 1 < _; omega) (hbF (b0 + 1) (by omega))).trans b1c
  have f1 : w3.frozen? ⟨b0 + 1, 0, none⟩ = false := (hkb.frozen (p := ⟨b0 + 1, 0, none⟩) (by show b0 + 1 < _; omega) (hbF (b0 + 1) (by omega))).trans b1f
  have hl3 : b0 + 1 < w3.heap.size := by have := hkb.size; omega
  have hs3s := hkb.size
  have HS3 := Lib.hid hs3
  have HK := Lib.hid hk
  have hTs : ∀ i, i = b0 + 1 → w.heap.size ≤ i ∧ (i < W2.heap.size ∨ w3.heap.size ≤ i) := fun i hi => by have := HB0.out; omega
  have HTS := Lib.hid hTs
  rcases hgp with ⟨hz, rfl⟩ | ⟨hz, rfl⟩
  ·obtain ⟨w4, hw4⟩ : ∃ W, W = w3.setCell ⟨b0 + 1, 0, none⟩ (.int .i64 0) := ⟨_, rfl⟩
   have k4 : Kp (fun i => i = b0 + 1) w3 w4 := by rw [hw4]; exact (Kp.refl (fun i => i = b0 + 1) w3).setCell (p := ⟨b0 + 1, 0, none⟩) (.inl rfl) _
   obtain ⟨⟨z, hz5⟩, hf5, hl5, hfin⟩ := HS3.out.dead HFL.out HGL.out HK2.out k4.drew (by exact HTS.out) false
   have q0 : w4.cell? ⟨b0, 0, none⟩ = some (.pointer (some ⟨l, 0, none⟩)) := (k4.cell (p := ⟨b0, 0, none⟩) (by show b0 < _; omega) (by show ¬ b0 = b0 + 1; omega)).trans g0
   have q1 : w4.cell? ⟨b0 + 1, 0, none⟩ = some (.int .i64 0) := by rw [hw4]; simp [go_sem, g1]
   have hce := sync_idle ⟨b0 + 1, 0, none⟩ ⟨b0, 0, none⟩ l z w4 q0 hz5 hf5
   have HCE := Lib.hid hce
   have HFIN := Lib.hid hfin
   have HR1 := Lib.hid q1
   have HW4 := Lib.hid hw4
   clear hce hfin hw4 k4 q0 q1 hz5 hf5 hl5
   go_wp2_with fail
   rw [← HW4.out]
   refine leaves_cons (f := 188) (args := #[.pointer (some ⟨b0 + 1, 0, none⟩), .pointer (some ⟨b0, 0, none⟩)]) (by simp) (by simp [go_sem]) ?_
   refine HCE.out.mono ?_
   rintro e u' w'' ⟨rfl, rfl, rfl⟩
   refine ⟨.int .i64 0, ?_, ?_⟩
   ·simp [results, Tryz.results113, go_sem, HR1.out]
   ·refine ⟨?_, ?_⟩
    ·rw [HQ.out, HK.out, hz]
    ·rw [HQ.out, HK.out, hz]
     exact HFIN.out
  ·obtain ⟨⟨z, hz5⟩, hf5, hl5, _⟩ := HS3.out.dead HFL.out HGL.out HK2.out (Kp.refl (fun i => i = b0 + 1) w3) (by exact HTS.out) true
   have hce := sync_panic (b0 + 1) 0 k ⟨b0, 0, none⟩ l (.int .i64 0) z [] w3 g1 f1 hl3 g0 (by show b0 < _; omega) (by show ¬ b0 = b0 + 1; omega) hz5 hf5 hl5 (by omega)
   refine leaves_cons (f := 188) (args := #[.pointer (some ⟨b0 + 1, 0, none⟩), .pointer (some ⟨b0, 0, none⟩)]) (by simp) (by simp [go_sem]) ?_
   refine (show CallsD Tryz.prog 188 #[.pointer (some ⟨b0 + 1, 0, none⟩), .pointer (some ⟨b0, 0, none⟩)] (.panicking (failP (k : Int))) w3 _ from hce).mono ?_
   rintro e u' w'' ⟨rfl, rfl, o, rfl⟩
   have k4 : Kp (fun i => i = b0 + 1) w3 ((w3.drew.setCell ⟨b0 + 1, 0, none⟩ (.int .i64 (k : Int))).alloc o) := (((Kp.refl (fun i => i = b0 + 1) w3).drew).setCell (p := ⟨b0 + 1, 0, none⟩) (.inl rfl) _).alloc _
   have hno : Kp No (w3.drew.setCell ⟨b0 + 1, 0, none⟩ (.int .i64 (k : Int))) ((w3.drew.setCell ⟨b0 + 1, 0, none⟩ (.int .i64 (k : Int))).alloc o) := (Kp.refl _ _).alloc _
   have q1 : ((w3.drew.setCell ⟨b0 + 1, 0, none⟩ (.int .i64 (k : Int))).alloc o).cell? ⟨b0 + 1, 0, none⟩ = some (.int .i64 (k : Int)) := by
    rw [hno.cell (p := ⟨b0 + 1, 0, none⟩) (by simpa using hl3) (fun x => x)]
    simp [go_sem, g1]
   obtain ⟨_, _, _, hfin⟩ := HS3.out.dead HFL.out HGL.out HK2.out k4 (by exact HTS.out) true
   obtain ⟨w4, hw4⟩ : ∃ W, W = (w3.drew.setCell ⟨b0 + 1, 0, none⟩ (.int .i64 (k : Int))).alloc o := ⟨_, rfl⟩
   rw [← hw4] at q1 hfin ⊢
   refine ⟨.int .i64 (k : Int), ?_, ?_⟩
   ·simp [results, Tryz.results113, go_sem, q1]
   ·refine ⟨?_, ?_⟩
    ·rw [HQ.out, HK.out]
    ·rw [HQ.out, HK.out]
     have hkz : decide ((k : Int) ≠ 0) = true := decide_eq_true hz
     rw [hkz]
     exact hfin
end Go.Proofs.YtgnkmjeoaoongaaGreatDoor
namespace Go.Proofs.YtgnkmjeoaoongaaGreatDoor
open Go.RowKit Go.Mer
structure ApW (w W2 : World) (d l b0 : Nat) (F G : Nat → Prop) : Prop where
 k2 : Kp No w W2
 b0w : b0 = w.heap.size
 size : W2.heap.size = b0 + 3
 p0 : W2.cell? ⟨b0, 0, none⟩ = some (.pointer (some ⟨l, 0, none⟩))
 p1 : W2.cell? ⟨b0 + 1, 0, none⟩ = some (.int .i64 0)
 f1 : W2.frozen? ⟨b0 + 1, 0, none⟩ = false
 p2 : W2.cell? ⟨b0 + 2, 0, none⟩ = some (.int .i64 0)
 f2 : W2.frozen? ⟨b0 + 2, 0, none⟩ = false
 ll : l < b0
 hF : ∀ k, F k → k < w.heap.size
 hG : ∀ k, G k → k < w.heap.size
theorem ApW.cells {w W2 wx : World} {d l b0 : Nat} {F G : Nat → Prop} (h : ApW w W2 d l b0 F G) (hk : Kp (Both F G) W2 wx) :
  wx.cell? ⟨b0, 0, none⟩ = some (.pointer (some ⟨l, 0, none⟩)) ∧ wx.cell? ⟨b0 + 1, 0, none⟩ = some (.int .i64 0) ∧ wx.frozen? ⟨b0 + 1, 0, none⟩ = false ∧ wx.cell? ⟨b0 + 2, 0, none⟩ = some (.int .i64 0) ∧ wx.frozen? ⟨b0 + 2, 0, none⟩ = false ∧ b0 + 2 < wx.heap.size := by
 have h0 := h.b0w
 have hs := h.size
 have hn : ∀ k, b0 ≤ k → ¬ Both F G k := fun k hk hb => by
  rcases hb with hb | hb
  ·have := h.hF k hb; omega
  ·have := h.hG k hb; omega
 refine ⟨(hk.cell (p := ⟨b0, 0, none⟩) (by show b0 < _; omega) (hn _ (Nat.le_refl _))).trans h.p0, (hk.cell (p := ⟨b0 + 1, 0, none⟩) (by show b0 + 1 < _; omega) (hn _ (by show b0 ≤ b0 + 1; omega))).trans h.p1,
  (hk.frozen (p := ⟨b0 + 1, 0, none⟩) (by show b0 + 1 < _; omega) (hn _ (by show b0 ≤ b0 + 1; omega))).trans h.f1, (hk.cell (p := ⟨b0 + 2, 0, none⟩) (by show b0 + 2 < _; omega) (hn _ (by show b0 ≤ b0 + 2; omega))).trans h.p2,
  (hk.frozen (p := ⟨b0 + 2, 0, none⟩) (by show b0 + 2 < _; omega) (hn _ (by show b0 ≤ b0 + 2; omega))).trans h.f2, by have := hk.size; omega⟩
theorem SaidW.kp {w a : World} {d l : Nat} {P : ByteArray} {F G : Nat → Prop} {s' : DSt} {st' : LSt} (h : SaidW w d l P F G s' st' a) : Kp (Both F G) w a := by
 obtain ⟨_, _, _, _, _, h⟩ := h
 exact h
theorem SaidW.from {w W2 a : World} {d l : Nat} {P : ByteArray} {F G : Nat → Prop} {s' : DSt} {st' : LSt} (h : SaidW W2 d l P F G s' st' a) (hk : Kp No w W2) : SaidW w d l P F G s' st' a := by
 obtain ⟨F', G', h1, h2, h3, h4⟩ := h
 exact ⟨F', G', h1, fun k hk' => (h2 k hk').imp id fun h => Nat.le_trans hk.size h, fun k hk' => (h3 k hk').imp id fun h => Nat.le_trans hk.size h, (Kp.of_no hk).trans_same h4⟩
theorem app_leaves {w W2 wx : World} {d l b0 : Nat} {P : ByteArray} {F G : Nat → Prop} {s1 : DSt} {st1 : LSt} (h : ApW w W2 d l b0 F G) (hS : SaidW W2 d l P F G s1 st1 wx) (kn : Nat) (tmps : Array Value) (h4 : tmps.getD 4 undef = .pointer (some ⟨b0 + 1, 0, none⟩)) (h5 : tmps.getD 5 undef = .pointer (some ⟨b0 + 2, 0, none⟩)) (R : Ending → World → Prop)
  (hR : ∀ w'', SaidW w d l P F G s1 { st1 with dead := (kn : Int) != 6 } w'' → R (.returned (.tuple #[.int .i64 0, .int .i64 (kn : Int)])) w'') :
  Leaves Tryz.prog Tryz.f112 tmps R [{ target := .fn (.func 183) #[.pointer (some ⟨b0 + 2, 0, none⟩), .pointer (some ⟨b0 + 1, 0, none⟩), .pointer (some ⟨b0, 0, none⟩)], args := #[] }] (.panicking (failP (kn : Int))) wx := by
 obtain ⟨c0, c1, g1, c2, g2, hs⟩ := h.cells hS.kp
 have h0 := h.b0w
 have hll := h.ll
 have hsz := h.size
 have hT : ∀ i, (i = b0 + 1 ∨ i = b0 + 2) → w.heap.size ≤ i ∧ (i < W2.heap.size ∨ wx.heap.size ≤ i) := fun i hi => by omega
 obtain ⟨⟨z, hz5⟩, hf5, hl5, _⟩ := hS.dead h.hF h.hG h.k2 (Kp.refl (fun i => i = b0 + 1 ∨ i = b0 + 2) wx) hT true
 refine leaves_cons (f := 183) (args := #[.pointer (some ⟨b0 + 2, 0, none⟩), .pointer (some ⟨b0 + 1, 0, none⟩), .pointer (some ⟨b0, 0, none⟩)]) (by simp) (by simp [go_sem]) ?_
 refine (show CallsD Tryz.prog 183 #[.pointer (some ⟨b0 + 2, 0, none⟩), .pointer (some ⟨b0 + 1, 0, none⟩), .pointer (some ⟨b0, 0, none⟩)] (.panicking (failP (kn : Int))) wx _ from
  app_panic (b0 + 2) 0 kn l ⟨b0 + 1, 0, none⟩ ⟨b0, 0, none⟩ (.int .i64 0) (.int .i64 0) z [] wx c2 g2 hs c1 g1 (by show b0 + 1 < _; omega) (by show ¬ b0 + 1 = b0 + 2; omega) c0 (by show b0 < _; omega) (by show ¬ b0 = b0 + 2; omega) hz5 hf5 hl5 (by omega) (by show ¬ l = b0 + 1; omega)).mono ?_
 rintro e u' w'' ⟨rfl, rfl, o, rfl⟩
 have k1 : Kp (fun i => i = b0 + 1 ∨ i = b0 + 2) wx ((wx.setCell ⟨b0 + 2, 0, none⟩ (.int .i64 (kn : Int))).alloc o) := ((Kp.refl (fun i => i = b0 + 1 ∨ i = b0 + 2) wx).setCell (p := ⟨b0 + 2, 0, none⟩) (.inl (.inr rfl)) _).alloc _
 have hno : Kp No (wx.setCell ⟨b0 + 2, 0, none⟩ (.int .i64 (kn : Int))) ((wx.setCell ⟨b0 + 2, 0, none⟩ (.int .i64 (kn : Int))).alloc o) := (Kp.refl _ _).alloc _
 have q2 : ((wx.setCell ⟨b0 + 2, 0, none⟩ (.int .i64 (kn : Int))).alloc o).cell? ⟨b0 + 2, 0, none⟩ = some (.int .i64 (kn : Int)) := by
  rw [hno.cell (p := ⟨b0 + 2, 0, none⟩) (by simpa using hs) (fun x => x)]
  simp [go_sem, c2]
 have k1' : Kp (One (b0 + 2)) wx ((wx.setCell ⟨b0 + 2, 0, none⟩ (.int .i64 (kn : Int))).alloc o) := ((Kp.refl (One (b0 + 2)) wx).setCell (p := ⟨b0 + 2, 0, none⟩) (.inl rfl) _).alloc _
 have q1 : ((wx.setCell ⟨b0 + 2, 0, none⟩ (.int .i64 (kn : Int))).alloc o).cell? ⟨b0 + 1, 0, none⟩ = some (.int .i64 0) := (k1'.cell (p := ⟨b0 + 1, 0, none⟩) (by show b0 + 1 < _; omega) (by show ¬ b0 + 1 = b0 + 2; omega)).trans c1
 obtain ⟨w4, hw4⟩ : ∃ W, W = (wx.setCell ⟨b0 + 2, 0, none⟩ (.int .i64 (kn : Int))).alloc o := ⟨_, rfl⟩
 rw [← hw4] at q1 q2 k1 ⊢
 have k5 := k1.setCell (p := ⟨b0 + 1, 0, none⟩) (.inl (.inl rfl)) (.int .i64 0)
 obtain ⟨_, _, _, hfin⟩ := hS.dead h.hF h.hG h.k2 k5 hT ((kn : Int) != 6)
 have r1 : (w4.setCell ⟨b0 + 1, 0, none⟩ (.int .i64 0)).cell? ⟨b0 + 1, 0, none⟩ = some (.int .i64 0) := by simp [go_sem, q1]
 have r2 : (w4.setCell ⟨b0 + 1, 0, none⟩ (.int .i64 0)).cell? ⟨b0 + 2, 0, none⟩ = some (.int .i64 (kn : Int)) := by
  have hk := (Kp.refl (One (b0 + 1)) w4).setCell (p := ⟨b0 + 1, 0, none⟩) (.inl rfl) (.int .i64 0)
  rw [hk.cell (p := ⟨b0 + 2, 0, none⟩) (World.block_lt_of_cell? w4 _ q2) (by show ¬ b0 + 2 = b0 + 1; omega)]
  exact q2
 obtain ⟨w5, hw5⟩ : ∃ W, W = w4.setCell ⟨b0 + 1, 0, none⟩ (.int .i64 0) := ⟨_, rfl⟩
 rw [← hw5] at r1 r2 hfin ⊢
 have hkl := (Kp.refl (One l) w5).setCell (p := ⟨l, 5, none⟩) (.inl rfl) (.bool ((kn : Int) != 6))
 have t1 := (hkl.cell (p := ⟨b0 + 1, 0, none⟩) (World.block_lt_of_cell? w5 _ r1) (by show ¬ b0 + 1 = l; omega)).trans r1
 have t2 := (hkl.cell (p := ⟨b0 + 2, 0, none⟩) (World.block_lt_of_cell? w5 _ r2) (by show ¬ b0 + 2 = l; omega)).trans r2
 refine ⟨.tuple #[.int .i64 0, .int .i64 (kn : Int)], ?_, hR _ hfin⟩
 have h4' : tmps[4]?.getD undef = .pointer (some ⟨b0 + 1, 0, none⟩) := by rw [← h4, Array.getD_eq_getD_getElem?]
 have h5' : tmps[5]?.getD undef = .pointer (some ⟨b0 + 2, 0, none⟩) := by rw [← h5, Array.getD_eq_getD_getElem?]
 obtain ⟨w6, hw6⟩ : ∃ W, W = w5.setCell ⟨l, 5, none⟩ (.bool ((kn : Int) != 6)) := ⟨_, rfl⟩
 rw [← hw6] at t1 t2 ⊢
 simp [results, Tryz.results112, go_sem, h4', h5', t1, t2]
theorem app_done {wx : World} {b0 : Nat} {n : Int} (hp : wx.cell? ⟨b0 + 1, 0, none⟩ = some (.int .i64 n)) (he : wx.cell? ⟨b0 + 2, 0, none⟩ = some (.int .i64 0)) (tmps : Array Value) (h4 : tmps.getD 4 undef = .pointer (some ⟨b0 + 1, 0, none⟩)) (h5 : tmps.getD 5 undef = .pointer (some ⟨b0 + 2, 0, none⟩)) (R : Ending → World → Prop)
  (hR : R (.returned (.tuple #[.int .i64 n, .int .i64 0])) wx) :
  Leaves Tryz.prog Tryz.f112 tmps R [{ target := .fn (.func 183) #[.pointer (some ⟨b0 + 2, 0, none⟩), .pointer (some ⟨b0 + 1, 0, none⟩), .pointer (some ⟨b0, 0, none⟩)], args := #[] }] .returning wx := by
 refine leaves_cons (f := 183) (args := #[.pointer (some ⟨b0 + 2, 0, none⟩), .pointer (some ⟨b0 + 1, 0, none⟩), .pointer (some ⟨b0, 0, none⟩)]) (by simp) (by simp [go_sem]) ?_
 refine (app_idle ⟨b0 + 2, 0, none⟩ ⟨b0 + 1, 0, none⟩ ⟨b0, 0, none⟩ wx).mono ?_
 rintro e u' w'' ⟨rfl, rfl, rfl⟩
 refine ⟨.tuple #[.int .i64 n, .int .i64 0], ?_, hR⟩
 have h4' : tmps[4]?.getD undef = .pointer (some ⟨b0 + 1, 0, none⟩) := by rw [← h4, Array.getD_eq_getD_getElem?]
 have h5' : tmps[5]?.getD undef = .pointer (some ⟨b0 + 2, 0, none⟩) := by rw [← h5, Array.getD_eq_getD_getElem?]
 simp [results, Tryz.results112, go_sem, h4', h5', hp, he]
theorem LRun.rowS {w W W' : World} {l d : Nat} {P : ByteArray} {sv ev : Value} {S S' : List (Nat × Nat)} {E : List Row} {synced : Nat} {dead : Bool} {G : Nat → Prop} (h : LRun w W l d P sv ev S E synced dead G) (hk : Kp (fun k => sv.ownBlock = some k) W W') (ho : Own W' 243 2 sv S'.length (S'.flatMap (segC P))) :
  LRun w W' l d P sv ev S' E synced dead G := by
 have hc := h.c
 refine h.step hk (fun k hT => .inl (.inr (.inl hT))) ⟨hk.get hc.cell fun e => (hc.seg_ne e).1 rfl, ho, hc.ents.keep hk fun g hg hT => (hc.ent_ne hg).2.1 hT, fun q hq => (hc.each q hq).keep hk fun g hg hT => (hc.seg_ne hT).2.2 q hq hg⟩ fun _ x => .inl x
end Go.Proofs.YtgnkmjeoaoongaaGreatDoor

