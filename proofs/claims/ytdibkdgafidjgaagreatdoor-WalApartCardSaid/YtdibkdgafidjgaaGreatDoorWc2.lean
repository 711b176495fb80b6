/-
  Texts laid together: WNext, Roomy, WPair.
-/
import Derived.Test.YtdibkdgafidjgaaGreatDoorWc1
import Derived.Test.YtdibkdgafidjgaaGreatDoorWa2
import Derived.Test.YtdibkdgafidjgaaGreatDoorWa7
import Derived.Test.YtdibkdgafidjgaaGreatDoorWa9
import Derived.Test.YtdibkdgafidjgaaGreatDoorWa4
import Derived.Test.YtdibkdgafidjgaaGreatDoorWa3
import Derived.Deep.CutRange
namespace Go.Proofs.YtdibkdgafidjgaaGreatDoor
open Go.RowKit Go.Mer
theorem next_any (w : World) (l d : Nat) (P : ByteArray) (st : LSt) (G : Nat → Prop) (h : LogAt w l d P st G) (h1 : st.ents.length ≤ 1000000) (h2 : st.synced ≤ 1000000) :
  Calls Tryz.prog 22 #[.pointer (some ⟨l, 0, none⟩)] w fun e w' => e = .returned (.tuple #[.int .i64 ((st.ents.length + 1 : Nat) : Int), .int .i64 ((st.synced + 1 : Nat) : Int)]) ∧ Kp No w w' := by
 obtain ⟨sv, ev, E, hC, hE, hLF, hGl⟩ := h
 obtain ⟨ea, ec, rfl, hec, _⟩ := hC.ents.rd
 obtain ⟨_, _, _, c3, c4, _, _⟩ := hC.cells
 have hll := get_lt hC.cell
 have hn : st.ents.length = E.length := by rw [hE, List.length_map]
 rw [hn] at h1 ⊢
 obtain ⟨n, hn2⟩ : ∃ n, n = E.length := ⟨_, rfl⟩
 rw [← hn2] at h1 c3 ⊢
 obtain ⟨y, hy⟩ : ∃ y, y = st.synced := ⟨_, rfl⟩
 rw [← hy] at h2 c4 ⊢
 clear hC hE hLF hGl hn hn2 hy hec
 have c3n : ∀ m, (w.drewN m).cell? ⟨l, 3, none⟩ = some (.slice ea n ec) := fun m => c3 _ ((Kp.refl _ _).drewN m)
 have c4n : ∀ m, (w.drewN m).cell? ⟨l, 4, none⟩ = some (.int .i64 (y : Int)) := fun m => c4 _ ((Kp.refl _ _).drewN m)
 go_enter Tryz.func22, Tryz.ntmps22
 go_upto_region 1 with fail
 go_wp2_with fail
 refine wp_region_held' (Kp No _) [0,0,0,0,1,0,0,0,0,0,0,0,0] [0,1,2,3,6,7,8,9,10,4,5,11,12] (by kernel_rfl) (by kernel_rfl) (fun _ n h => h.drewN n) (Kp.refl _ _) ?_
 repeat (first
  | (apply wpOrd_skip rfl (by decide) rfl; (focus (go_simp; rfl)))
  | (apply wpOrd_pure rfl rfl rfl; (focus (intro _ _; go_simp; (try go_ints); rfl)); (focus (go_simp; rfl)))
  | (apply wpOrd_read rfl rfl rfl; (focus (intro _; go_simp; (try go_ints); rfl)); (focus (go_simp; rfl))))
 refine wpOrd_nil (fun nq => ?_)
 go_wp2_with fail
 go_ret2
 exact ⟨by rw [Int.natCast_add, Int.natCast_add]; rfl, (Kp.refl No w).drewN nq⟩
def entS (st : LSt) (n : Int) : List UInt8 × Int := if 1 ≤ n ∧ n ≤ (st.ents.length : Int) then (st.ents.getD (n.toNat - 1) [], 0) else ([], 7)
def EntP (w : World) (q : List UInt8 × Int) (e : Ending) (w' : World) : Prop :=
 ∃ v, e = .returned (.tuple #[v, .int .i64 q.2]) ∧ Own w' 5 1 v q.1.length (u8s q.1) ∧ Kp No w w' ∧ ∀ g, v.ownBlock = some g → w.heap.size ≤ g
theorem ent_no {st : LSt} {n : Int} (h : n < 1 ∨ (st.ents.length : Int) < n) : entS st n = ([], 7) := by
 unfold entS
 rw [if_neg (by omega)]
theorem ent_yes {st : LSt} {n : Int} {k : Nat} (hk : k < st.ents.length) (h : n = (k : Int) + 1) : entS st n = (st.ents[k], 0) := by
 unfold entS
 rw [if_pos (by omega), show n.toNat - 1 = k by omega, List.getD_eq_getElem?_getD, List.getElem?_eq_getElem hk]
 rfl
theorem EntP.none_ (w : World) : EntP w ([], 7) (.returned (.tuple #[.slice none 0 0, .int .i64 7])) w := ⟨_, rfl, Own.nil _ _ _, Kp.refl _ _, fun g h => by simp [Value.ownBlock] at h⟩
set_option maxRecDepth 100000 in
set_option maxHeartbeats 1000000 in
theorem Entry_any (w : World) (l d : Nat) (P : ByteArray) (st : LSt) (G : Nat → Prop) (h : LogAt w l d P st G) (n : Int) :
  Calls Tryz.prog 23 #[.pointer (some ⟨l, 0, none⟩), .int .i64 n] w (EntP w (entS st n)) := by
 obtain ⟨sv, ev, E, hC, hE, hLF, hGl⟩ := h
 obtain ⟨ea, ec, rfl, hec, her⟩ := hC.ents.rd
 obtain ⟨_, _, _, c3, _, _, _⟩ := hC.cells
 have hll := get_lt hC.cell
 have hn : st.ents.length = E.length := by rw [hE, List.length_map]
 obtain ⟨m, hm⟩ : ∃ m, m = E.length := ⟨_, rfl⟩
 rw [← hm] at c3 hn
 rcases Int.lt_or_le n 1 with h1 | h1
 ·have e1 : decide (n < 1) = true := decide_eq_true h1
  rw [ent_no (.inl h1)]
  clear hC hE hLF hGl her hec h1
  go_enter Tryz.func23, Tryz.ntmps23
  go_wp2_with fail
  go_ret2
  exact EntP.none_ w
 ·have e1 : decide (n < 1) = false := decide_eq_false (by omega)
  rcases Int.lt_or_le (m : Int) n with h2 | h2
  ·have e2 : decide ((m : Int) < n) = true := decide_eq_true h2
   have c30 := c3 w (Kp.refl _ _)
   rw [ent_no (.inr (by omega))]
   clear hC hE hLF hGl her hec h1 h2 hm hn c3
   go_enter Tryz.func23, Tryz.ntmps23
   go_wp2_with fail
   go_ret2
   exact EntP.none_ w
  ·have e2 : decide ((m : Int) < n) = false := decide_eq_false (by omega)
   obtain ⟨k, hk⟩ : ∃ k : Nat, n = (k : Int) + 1 := ⟨(n - 1).toNat, by omega⟩
   have hkm : k < m := by omega
   have hmx : m ≤ 9223372036854775807 := by
    obtain ⟨_, a', cap', hv', q1, q2, _⟩ := hC.ents
    simp only [maxLen] at q2
    omega
   have hkE : k < E.length := by omega
   obtain ⟨g, off, rfl, hc⟩ := rd_chunk rowC_len (by decide) her hkE
   have hck := fun W hW => hc W hW 0 _ rfl
   simp only [Nat.mul_one, Nat.add_zero] at hck
   have hok := hC.each E[k] (List.getElem_mem hkE)
   have hcl := clone_any E[k].a E[k].cap E[k].data w.heap.size w hok.1.rd' (by have := hok.2.2; omega)
   have hent : entS st n = (E[k].data, 0) := by
    rw [ent_yes (k := k) (by omega) hk]
    simp [hE]
   rw [hent]
   have hv : E[k].val = .slice E[k].a E[k].data.length E[k].cap := rfl
   obtain ⟨q, hq⟩ : ∃ q, q = E[k].data := ⟨_, rfl⟩
   obtain ⟨qa, hqa⟩ : ∃ q, q = E[k].a := ⟨_, rfl⟩
   obtain ⟨qc, hqc⟩ : ∃ q, q = E[k].cap := ⟨_, rfl⟩
   rw [hv] at hck
   rw [← hq, ← hqa, ← hqc] at hck hcl
   rw [← hq]
   have hg : g < w.heap.size := by
    have := hC.ents.rd'
    obtain ⟨g', off', h1, h2, _⟩ := her (by rw [chunk_len rowC 1 rowC_len]; omega)
    injection h1 with h1
    injection h1 with h1
    omega
   have hw : n - 1 = (k : Int) := by omega
   have hck0 := hck w (Kp.refl _ _)
   have c30 := c3 w (Kp.refl _ _)
   have HCL := Lib.hid hcl
   clear hC hE hLF hGl her hec hc hok hent hv hq hqa hqc hcl hck c3 hm hn
   subst hk
   clear hw
   go_enter Tryz.func23, Tryz.ntmps23
   go_wp2_with fail
   refine HCL.out.mono ?_
   rintro e w2 ⟨v, rfl, ho, hk, hb⟩
   have HO := Lib.hid (And.intro ho (And.intro hk hb))
   clear ho hk hb
   go_wp2_with fail
   go_ret2
   exact ⟨v, rfl, HO.out.1, HO.out.2.1, HO.out.2.2⟩
set_option maxRecDepth 100000 in
set_option maxHeartbeats 1000000 in
theorem xEntry_any (w : World) (l d : Nat) (P : ByteArray) (st : LSt) (G : Nat → Prop) (h : RLogAt w l d P st G) (n : Int) :
  Calls Tryz.prog 70 #[.pointer (some ⟨l, 0, none⟩), .int .i64 n] w (EntP w (entS st n)) := by
 obtain ⟨sv, ev, E, hC, hE, hLF, hGl⟩ := h
 obtain ⟨ea, ec, rfl, hec, her⟩ := hC.ents.rd
 obtain ⟨_, _, c3, _, _, _, _⟩ := hC.cells
 have hll := get_lt hC.cell
 have hn : st.ents.length = E.length := by rw [hE, List.length_map]
 obtain ⟨m, hm⟩ : ∃ m, m = E.length := ⟨_, rfl⟩
 rw [← hm] at c3 hn
 rcases Int.lt_or_le n 1 with h1 | h1
 ·have e1 : decide (n < 1) = true := decide_eq_true h1
  rw [ent_no (.inl h1)]
  clear hC hE hLF hGl her hec h1
  go_enter Tryz.func70, Tryz.ntmps70
  go_wp2_with fail
  go_ret2
  exact EntP.none_ w
 ·have e1 : decide (n < 1) = false := decide_eq_false (by omega)
  rcases Int.lt_or_le (m : Int) n with h2 | h2
  ·have e2 : decide ((m : Int) < n) = true := decide_eq_true h2
   have c30 := c3 w (Kp.refl _ _)
   rw [ent_no (.inr (by omega))]
   clear hC hE hLF hGl her hec h1 h2 hm hn c3
   go_enter Tryz.func70, Tryz.ntmps70
   go_wp2_with fail
   go_ret2
   exact EntP.none_ w
  ·have e2 : decide ((m : Int) < n) = false := decide_eq_false (by omega)
   obtain ⟨k, hk⟩ : ∃ k : Nat, n = (k : Int) + 1 := ⟨(n - 1).toNat, by omega⟩
   have hkm : k < m := by omega
   have hmx : m ≤ 9223372036854775807 := by
    obtain ⟨_, a', cap', hv', q1, q2, _⟩ := hC.ents
    simp only [maxLen] at q2
    omega
   have hkE : k < E.length := by omega
   obtain ⟨g, off, rfl, hc⟩ := rd_chunk rowC_len (by decide) her hkE
   have hck := fun W hW => hc W hW 0 _ rfl
   simp only [Nat.mul_one, Nat.add_zero] at hck
   have hok := hC.each E[k] (List.getElem_mem hkE)
   obtain ⟨a', c', w', hrun, ho, hkp, hb⟩ := cpy_bytes w E[k].data E[k].a E[k].cap hok.1.rd' (by have := hok.2.2; omega)
   have hent : entS st n = (E[k].data, 0) := by
    rw [ent_yes (k := k) (by omega) hk]
    simp [hE]
   rw [hent]
   have hv : E[k].val = .slice E[k].a E[k].data.length E[k].cap := rfl
   obtain ⟨q, hq⟩ : ∃ q, q = E[k].data := ⟨_, rfl⟩
   obtain ⟨qa, hqa⟩ : ∃ q, q = E[k].a := ⟨_, rfl⟩
   obtain ⟨qc, hqc⟩ : ∃ q, q = E[k].cap := ⟨_, rfl⟩
   rw [hv] at hck
   rw [← hq, ← hqa, ← hqc] at hck hrun
   rw [← hq] at ho hb ⊢
   have hg : g < w.heap.size := by
    obtain ⟨g', off', h1, h2, _⟩ := her (by rw [chunk_len rowC 1 rowC_len]; omega)
    injection h1 with h1
    injection h1 with h1
    omega
   have hw : n - 1 = (k : Int) := by omega
   have hka : Kp No w (w.alloc (.cells #[] 5)) := (Kp.refl _ _).alloc _
   have hck0 := hck _ hka
   have c30 := c3 w (Kp.refl _ _)
   have c31 := c3 _ hka
   have HR := Lib.hid hrun
   have HO := Lib.hid (And.intro ho (And.intro hkp hb))
   clear hC hE hLF hGl her hec hc hok hent hv hq hqa hqc hck c3 hm hn hrun ho hkp hb hka
   subst hk
   clear hw
   go_enter Tryz.func70, Tryz.ntmps70
   go_wp2_with (at_builtin; refine wpList_append_run rfl rfl rfl rfl HR.out ?_)
   go_ret2
   exact ⟨_, rfl, HO.out.1, HO.out.2.1, HO.out.2.2⟩
theorem xrows {w : World} {x r : Nat} {P : ByteArray} {st : LSt} {K : Nat → Prop} (h : RLogAt w x r P st K) : ∃ ea ec, x < w.heap.size ∧ st.ents.length ≤ ec ∧ (∀ V, Kp No w V → V.cell? ⟨x, 2, none⟩ = some (.slice ea st.ents.length ec)) ∧ (∀ V, Kp No w V → V.cell? ⟨x, 4, none⟩ = some (.int .i64 ((st.synced + 1 : Nat) : Int))) ∧
  ∀ i (hi : i < st.ents.length), ∃ g off a c, ea = some ⟨g, off, none⟩ ∧ g < w.heap.size ∧ (∀ V, Kp No w V → V.cell? ⟨g, off + i, none⟩ = some (.slice a (st.ents[i]).length c)) ∧ (∀ V, Kp No w V → Rd V V.heap.size a (u8s st.ents[i])) := by
 obtain ⟨sv, ev, E, hC, hE, hLF, hGl⟩ := h
 obtain ⟨ea, ec, rfl, hec, her⟩ := hC.ents.rd
 have hn : st.ents.length = E.length := by rw [hE, List.length_map]
 rw [← hn] at hec
 refine ⟨ea, ec, get_lt hC.cell, hec, fun V hV => ?_, fun V hV => ?_, fun i hi => ?_⟩
 ·rw [cell_at (hV.get hC.cell fun x => x), hn]; rfl
 ·rw [cell_at (hV.get hC.cell fun x => x)]; rfl
 ·have hiE : i < E.length := by omega
  obtain ⟨g, off, rfl, hsc⟩ := rd_chunk rowC_len (by decide) her (k := i) hiE
  have hEe := hC.each _ (List.getElem_mem hiE)
  obtain ⟨a, c, hv, hcl, _⟩ := hEe.1.rd
  have hd : st.ents[i] = (E[i]).data := by simp only [hE, List.getElem_map]
  have hg0 := hsc w (Kp.refl _ _) 0 _ rfl
  refine ⟨g, off, a, c, rfl, World.block_lt_of_cell? w _ hg0, fun V hV => ?_, fun V hV => ?_⟩
  ·have h1 := hsc V hV 0 _ rfl
   rw [Nat.mul_one, Nat.add_zero, hv] at h1
   rw [hd]
   exact h1
  ·rw [hd]
   have h1 := hEe.1.keep hV fun _ _ x => x
   rw [hv] at h1
   exact h1.rd'
theorem entS_len {w : World} {l d : Nat} {P : ByteArray} {st : LSt} {G : Nat → Prop} (h : LogAt w l d P st G) (n : Int) : (entS st n).1.length ≤ 1073741824 := by
 obtain ⟨sv, ev, E, hC, hE, _, _⟩ := h
 unfold entS
 split
 ·next hn =>
  have hk : n.toNat - 1 < st.ents.length := by omega
  simp only [List.getD_eq_getElem?_getD, List.getElem?_eq_getElem hk, Option.getD_some]
  have hk2 : n.toNat - 1 < E.length := by rw [hE, List.length_map] at hk; exact hk
  have h1 := (hC.each _ (List.getElem_mem hk2)).2.2
  have h2 : st.ents[n.toNat - 1] = (E[n.toNat - 1]).data := by simp only [hE, List.getElem_map]
  rw [h2]
  omega
 ·simp
end Go.Proofs.YtdibkdgafidjgaaGreatDoor
namespace Go.Proofs.YtdibkdgafidjgaaGreatDoor
open Go.RowKit Go.Mer
theorem own_take {W : World} {e : TypeId} {a : Option Addr} {n cap : Nat} {xs : List Value} (h : Own W e 1 (.slice a n cap) n xs) (k : Nat) (hk : k ≤ n) : Own W e 1 (.slice a k cap) k (xs.take k) := by
 obtain ⟨hl, a', cap', hv, h1, h2, h3, h4⟩ := h
 injection hv with hv1 hv2 hv3
 subst hv1; subst hv3
 refine ⟨by rw [List.length_take, hl]; omega, a, cap, rfl, by omega, h2, h3, fun ad had => ?_⟩
 obtain ⟨g, off, cur, rfl, hg, hfit, hx⟩ := h4 ad had
 refine ⟨g, off, cur, rfl, hg, hfit, ?_⟩
 rw [← hx, List.take_take, Nat.mul_one, Nat.mul_one, Nat.min_eq_left hk]
set_option maxHeartbeats 1000000 in
theorem roomy_any (w : World) (xs : List UInt8) (a : Option Addr) (c : Nat) (hx : Rd w w.heap.size a (u8s xs)) (hl : xs.length ≤ 1073741824) :
  Calls Tryz.prog 65 #[.slice a xs.length c] w fun e w' => ∃ a' c', e = .returned (.slice a' (xs.length + 1) c') ∧ Own w' 5 1 (.slice a' (xs.length + 1) c') (xs.length + 1) (u8s (xs ++ [171])) ∧ xs.length + 2 ≤ c' ∧ Kp No w w' ∧ ∀ g, (Value.slice a' (xs.length + 1) c').ownBlock = some g → w.heap.size ≤ g := by
 obtain ⟨a1, c1, w1, r1, o1, k1, b1⟩ := cpy_bytes w xs a c hx (by omega)
 obtain ⟨W2, hW2⟩ : ∃ W, W = w1.alloc (.cells #[.int .u8 171] 5) := ⟨_, rfl⟩
 have k2 : Kp No w1 W2 := by rw [hW2]; exact (Kp.refl _ _).alloc _
 have b2 : W2.heap[w1.heap.size]? = some (.cells #[.int .u8 171] 5 (0, 0)) := by rw [hW2]; exact heap_alloc_new w1 _
 have d2 : Rd W2 W2.heap.size (some ⟨w1.heap.size, 0, none⟩) (u8s [171]) := Rd.row (n := 1) b2 rfl (get_lt b2) (Nat.le_refl _)
 obtain ⟨a3, c3, w3, r3, o3, k3, b3⟩ := app_bytes W2 (.slice a1 xs.length c1) xs [171] (o1.keep k2 fun _ _ x => x) (some ⟨w1.heap.size, 0, none⟩) 1 d2 (by simp; omega)
 have b3' : ∀ g, (Value.slice a3 (xs ++ [171]).length c3).ownBlock = some g → w.heap.size ≤ g := fun g hg => by
  rcases b3 with h | ⟨g', h, h'⟩
  ·rw [h] at hg; exact b1 g hg
  ·rw [h] at hg
   injection hg with hg
   have := k1.size
   have := k2.size
   omega
 have kw3 : Kp No w w3 := (k1.trans_same k2).trans k3 fun i hi hs => by have := b1 i hs; omega
 obtain ⟨W4, hW4⟩ : ∃ W, W = w3.alloc (.cells #[.int .u8 171] 5) := ⟨_, rfl⟩
 have k4 : Kp No w3 W4 := by rw [hW4]; exact (Kp.refl _ _).alloc _
 have b4 : W4.heap[w3.heap.size]? = some (.cells #[.int .u8 171] 5 (0, 0)) := by rw [hW4]; exact heap_alloc_new w3 _
 have d4 : Rd W4 W4.heap.size (some ⟨w3.heap.size, 0, none⟩) (u8s [171]) := Rd.row (n := 1) b4 rfl (get_lt b4) (Nat.le_refl _)
 obtain ⟨a5, c5, w5, r5, o5, k5, b5⟩ := app_bytes W4 (.slice a3 (xs ++ [171]).length c3) (xs ++ [171]) [171] (o3.keep k4 fun _ _ x => x) (some ⟨w3.heap.size, 0, none⟩) 1 d4 (by simp; omega)
 have b5' : ∀ g, (Value.slice a5 ((xs ++ [171]) ++ [171]).length c5).ownBlock = some g → w.heap.size ≤ g := fun g hg => by
  rcases b5 with h | ⟨g', h, h'⟩
  ·rw [h] at hg; exact b3' g hg
  ·rw [h] at hg
   injection hg with hg
   have := kw3.size
   have := k4.size
   omega
 have kw5 : Kp No w w5 := (kw3.trans_same k4).trans k5 fun i hi hs => by have := b3' i hs; omega
 have e3 : (xs ++ [171]).length = xs.length + 1 := by simp
 have e5 : ((xs ++ [171]) ++ [171]).length = xs.length + 2 := by simp
 rw [e3] at r3
 rw [e5, e3] at r5
 simp only [List.length_singleton] at r3 r5
 have ht := own_take (k := xs.length + 1) o5 (by rw [e5]; omega)
 have etk : List.take (xs.length + 1) ((xs ++ [171]) ++ [171]) = xs ++ [171] := by
  rw [← e3]
  exact List.take_left
 rw [u8s_take, etk] at ht
 have hc5 : xs.length + 2 ≤ c5 := by
  obtain ⟨_, c9, hv, hle, _⟩ := o5.rd
  injection hv with _ _ h3
  rw [h3, ← e5]
  exact hle
 rw [hW2] at r3
 rw [hW4] at r5
 have H1 := Lib.hid r1
 have H3 := Lib.hid r3
 have H5 := Lib.hid r5
 have HT := Lib.hid ht
 have HK := Lib.hid kw5
 have HB := Lib.hid (show ∀ g, (Value.slice a5 (xs.length + 1) c5).ownBlock = some g → w.heap.size ≤ g from fun g hg => b5' g (by rw [← hg]; cases a5 <;> rfl))
 have hc51 : xs.length + 1 ≤ c5 := by omega
 obtain ⟨n, hn⟩ : ∃ n, n = xs.length := ⟨_, rfl⟩
 rw [← hn] at H1 H3 H5 hc5 hc51 hl HT HB ⊢
 obtain ⟨n1, hn1⟩ : ∃ n1, n1 = n + 1 := ⟨_, rfl⟩
 obtain ⟨n2, hn2⟩ : ∃ n2, n2 = n + 2 := ⟨_, rfl⟩
 have hn1i : (n : Int) + 1 = (n1 : Int) := by omega
 rw [← hn1] at H3 H5 hc51 HT HB ⊢
 rw [← hn2] at H5 hc5 ⊢
 have hl1 : n1 ≤ 1073741825 := by omega
 have hl2 : n1 ≤ n2 := by omega
 clear r1 o1 k1 b1 hW2 k2 b2 d2 r3 o3 k3 b3 b3' kw3 hW4 k4 b4 d4 r5 o5 k5 b5 b5' kw5 e3 e5 ht hx hn hn1 hn2
 go_enter Tryz.func65, Tryz.ntmps65
 go_wp2_with (first | (at_builtin; refine wpList_append_run rfl rfl rfl rfl H1.out ?_; clear H1) | (at_builtin; refine wpList_append_run rfl rfl rfl rfl H3.out ?_; clear H3) | (at_builtin; refine wpList_append_run rfl rfl rfl rfl H5.out ?_; clear H5))
 go_ret
 exact ⟨a5, c5, rfl, HT.out, hc5, HK.out, HB.out⟩
set_option maxHeartbeats 1000000 in
theorem stands_any (w : World) (xs : List UInt8) (a b : Option Addr) (c e : Nat) (ha : Own w 5 1 (.slice a (xs.length + 1) c) (xs.length + 1) (u8s (xs ++ [171]))) (hb : Rd w w.heap.size b (u8s xs)) (hl : xs.length ≤ 1073741824) :
  Calls Tryz.prog 66 #[.slice a (xs.length + 1) c, .slice b xs.length e] w fun e w' => e = .returned (.bool true) ∧ Kp No w w' := by
 have hrd := ha.rd'
 have hc : xs.length + 1 ≤ c := by
  obtain ⟨_, c9, hv, hle, _⟩ := ha.rd
  injection hv with _ _ h3
  rw [h3]
  exact hle
 obtain ⟨g, off, rfl, hg, _, hcell⟩ := hrd.byte (i := xs.length) (by simp)
 have hy : (xs ++ [171])[xs.length]'(by simp) = (171 : UInt8) := by simp
 rw [hy] at hcell
 have hpre : Rd w w.heap.size (some ⟨g, off, none⟩) (u8s xs) := by
  have := hrd.take xs.length
  rwa [u8s_take, List.take_left] at this
 have HS := Lib.hid (same_any (some ⟨g, off, none⟩) b c e w.heap.size w.heap.size xs xs w hpre hb (by omega))
 have HCL := Lib.hid (show ∀ n, (w.drewN n).cell? ⟨g, off + xs.length, none⟩ = some (.int .u8 171) from fun _ => hcell)
 have HG := Lib.hid hg
 obtain ⟨n, hn⟩ : ∃ n, n = xs.length := ⟨_, rfl⟩
 rw [← hn] at HS hc hl HCL ⊢
 have hni : (n : Int) + 1 = ((n + 1 : Nat) : Int) := by omega
 obtain ⟨n1, hn1⟩ : ∃ n1, n1 = n + 1 := ⟨_, rfl⟩
 rw [← hn1] at hni hc ⊢
 have hnn : n < n1 := by omega
 have hnc : n ≤ c := by omega
 clear ha hb hrd hcell hy hpre hg hn hn1
 go_enter Tryz.func66, Tryz.ntmps66
 go_wp2_with fail
 refine HS.out.mono ?_
 rintro e w2 ⟨rfl, n2, rfl⟩
 have hc2 := HCL.out n2
 have hg2 : g < (w.drewN n2).heap.size := HG.out
 have HK := Lib.hid (show Kp No w (w.drewN n2) from (Kp.refl _ _).drewN n2)
 obtain ⟨W2, hW2⟩ : ∃ W, W = w.drewN n2 := ⟨_, rfl⟩
 rw [← hW2] at hc2 hg2 HK ⊢
 simp only [decide_true]
 clear hW2
 go_wp2_with fail
 go_ret
 exact ⟨rfl, HK.out⟩
set_option maxHeartbeats 1000000 in
theorem spoil_any (w : World) (xs : List UInt8) (a : Option Addr) (c : Nat) (ha : Own w 5 1 (.slice a xs.length c) xs.length (u8s xs)) (hl : xs.length ≤ 1073741825) :
  Calls Tryz.prog 67 #[.slice a xs.length c] w fun e w' => e = .returned (.tuple #[]) ∧ Kp (fun k => (Value.slice a xs.length c).ownBlock = some k) w w' := by
 obtain ⟨W2, hW2⟩ : ∃ W, W = w.alloc (.cells #[.int .u8 99] 5) := ⟨_, rfl⟩
 have k2 : Kp No w W2 := by rw [hW2]; exact (Kp.refl _ _).alloc _
 have b2 : W2.heap[w.heap.size]? = some (.cells #[.int .u8 99] 5 (0, 0)) := by rw [hW2]; exact heap_alloc_new w _
 have d2 : Rd W2 W2.heap.size (some ⟨w.heap.size, 0, none⟩) (u8s [99]) := Rd.row (n := 1) b2 rfl (get_lt b2) (Nat.le_refl _)
 obtain ⟨a3, c3, w3, r3, o3, k3, b3⟩ := app_bytes W2 (.slice a xs.length c) xs [99] (ha.keep k2 fun _ _ x => x) (some ⟨w.heap.size, 0, none⟩) 1 d2 (by simp; omega)
 have kw3 : Kp (fun k => (Value.slice a xs.length c).ownBlock = some k) w w3 := (Kp.of_no k2).trans_same k3
 have HOB := Lib.hid (show ∀ g, (Value.slice a3 (xs ++ [99]).length c3).ownBlock = some g → (Value.slice a xs.length c).ownBlock = some g ∨ w.heap.size ≤ g from fun g hg => by
  rcases b3 with h | ⟨g', h, h'⟩
  ·rw [h] at hg; exact .inl hg
  ·rw [h] at hg
   injection hg with hg
   have := k2.size
   exact .inr (by omega))
 have HK3 := Lib.hid kw3
 have HO3 := Lib.hid o3
 rw [hW2] at r3
 simp only [List.length_singleton] at r3
 have HX := Lib.hid r3
 obtain ⟨n, hn⟩ : ∃ n, n = (xs ++ [99]).length := ⟨_, rfl⟩
 have hnb : n ≤ 1073741826 := by rw [hn]; simp; omega
 obtain ⟨S, hS⟩ : ∃ S : Nat → Prop, S = fun k => (Value.slice a xs.length c).ownBlock = some k := ⟨_, rfl⟩
 have HS := Lib.hid hS
 rw [← hS] at HK3 ⊢
 rw [← hn] at HX HO3 HOB
 obtain ⟨n0, hn0⟩ : ∃ n0, n0 = xs.length := ⟨_, rfl⟩
 rw [← hn0] at HX ⊢
 clear k2 b2 d2 r3 o3 k3 b3 kw3 ha hW2 hS hn hn0
 go_enter Tryz.func67, Tryz.ntmps67
 go_wp2_with (at_builtin; refine wpList_append_run rfl rfl rfl rfl HX.out ?_)
 clear HX
 go_loopw [3] (fun i wr => ∃ (k : Nat) (ys : List Value), k ≤ n ∧ i = .int .i64 (k : Int) ∧ Hid (Own wr 5 1 (.slice a3 n c3) n ys) ∧ Hid (Kp S w wr)) (fun i _ => n - (intOf i).toNat)
 case atStart => exact ⟨0, _, Nat.zero_le _, rfl, HO3, HK3⟩
 case round =>
  obtain ⟨k, ys, hk, rfl, HO, HK⟩ := hrel
  by_cases hlt : k < n
  ·obtain ⟨g, off, hga, hgl, hfz⟩ := HO.out.place (by omega)
   subst hga
   have hrd := HO.out.rd'
   have hyl : k < ys.length := by have := HO.out.1; omega
   obtain ⟨g', off', hg', _, _, hcell⟩ := hrd.at_ (i := k) (u := ys[k]) (List.getElem?_eq_getElem hyl)
   injection hg' with hg'
   injection hg' with e1 e2
   subst e1; subst e2
   have fz := hfz (off + k)
   have ho2 := own_store HO.out k hlt (.int .u8 98)
   have HO2 := Lib.hid ho2
   have HK2 := Lib.hid (show Kp S w (wr.setCell ⟨g, off + k, none⟩ (.int .u8 98)) from HK.out.setCell (p := ⟨g, off + k, none⟩) (by
    rcases HOB.out g rfl with h | h
    ·exact .inl (by rw [HS.out]; exact h)
    ·exact .inr h) _)
   clear hfz hrd ho2
   go_wp2_with fail
   go_roundw
   case rel => exact ⟨k + 1, _, by omega, by go_num, HO2, HK2⟩
   case measure => simp [intOf]; omega
  ·obtain rfl : k = n := by omega
   clear hlt
   go_wp2_with fail
   go_end0
   exact ⟨rfl, HK.out⟩
end Go.Proofs.YtdibkdgafidjgaaGreatDoor
namespace Go.Proofs.YtdibkdgafidjgaaGreatDoor
open Go.RowKit Go.Mer
structure Duo (w W : World) (p : Nat) (A B : Nat → Prop) : Prop where
 kp : Kp No w W
 an : ∀ k, A k → w.heap.size ≤ k
 bn : ∀ k, B k → w.heap.size ≤ k
 pn : w.heap.size ≤ p
 dis : ∀ k, A k → ¬ B k
 pa : ¬ A p
 pb : ¬ B p
 al : ∀ k, A k → k < W.heap.size
 bl : ∀ k, B k → k < W.heap.size
 pl : p < W.heap.size
def ZZ (p : Nat) (A B : Nat → Prop) : Nat → Prop := fun k => k = p ∨ A k ∨ B k
section
variable {w W W' : World} {p : Nat} {A A' B B' : Nat → Prop}
theorem Duo.no (h : Duo w W p A B) (hk : Kp No W W') : Duo w W' p A B :=
 ⟨h.kp.trans_same hk, h.an, h.bn, h.pn, h.dis, h.pa, h.pb, fun k hk' => hk.lt (h.al k hk'), fun k hk' => hk.lt (h.bl k hk'), hk.lt h.pl⟩
theorem Duo.left (h : Duo w W p A B) (hF : Foot A A' W) (hk : Kp A W W') (hl : ∀ k, A' k → k < W'.heap.size) : Duo w W' p A' B ∧ Foot (ZZ p A B) (ZZ p A' B) W ∧ Kp (ZZ p A B) W W' :=
 ⟨⟨h.kp.trans hk fun i hi hA => by have := h.an i hA; omega, fun k hk' => (hF k hk').elim (h.an k) fun x => Nat.le_trans h.kp.size x, h.bn, h.pn, fun k hk' hb => by
  rcases hF k hk' with x | x
  ·exact h.dis k x hb
  ·have := h.bl k hb; omega, fun hp => by
  rcases hF p hp with x | x
  ·exact h.pa x
  ·have := h.pl; omega, h.pb, hl, fun k hb => hk.lt (h.bl k hb), hk.lt h.pl⟩, fun k hk' => by
  rcases hk' with x | x | x
  ·exact .inl (.inl x)
  ·exact (hF k x).imp (fun y => .inr (.inl y)) id
  ·exact .inl (.inr (.inr x)), hk.mono fun i _ x => .inr (.inl x)⟩
theorem Duo.right (h : Duo w W p A B) (hF : Foot B B' W) (hk : Kp B W W') (hl : ∀ k, B' k → k < W'.heap.size) : Duo w W' p A B' ∧ Foot (ZZ p A B) (ZZ p A B') W ∧ Kp (ZZ p A B) W W' :=
 ⟨⟨h.kp.trans hk fun i hi hA => by have := h.bn i hA; omega, h.an, fun k hk' => (hF k hk').elim (h.bn k) fun x => Nat.le_trans h.kp.size x, h.pn, fun k ha hk' => by
  rcases hF k hk' with x | x
  ·exact h.dis k ha x
  ·have := h.al k ha; omega, h.pa, fun hp => by
  rcases hF p hp with x | x
  ·exact h.pb x
  ·have := h.pl; omega, fun k hb => hk.lt (h.al k hb), hl, hk.lt h.pl⟩, fun k hk' => by
  rcases hk' with x | x | x
  ·exact .inl (.inl x)
  ·exact .inl (.inr (.inl x))
  ·exact (hF k x).imp (fun y => .inr (.inr y)) id, hk.mono fun i _ x => .inr (.inr x)⟩
theorem Duo.own (h : Duo w W p A B) (u : Value) (i : Nat) : Duo w (W.setCell ⟨p, i, none⟩ u) p A B ∧ Kp (One p) W (W.setCell ⟨p, i, none⟩ u) := by
 have hk : Kp (One p) W (W.setCell ⟨p, i, none⟩ u) := (Kp.refl (One p) _).setCell (p := ⟨p, i, none⟩) (.inl rfl) _
 refine ⟨⟨h.kp.trans hk fun j hj hp => ?_, h.an, h.bn, h.pn, h.dis, h.pa, h.pb, fun k hk' => hk.lt (h.al k hk'), fun k hk' => hk.lt (h.bl k hk'), hk.lt h.pl⟩, hk⟩
 have e : j = p := hp
 have := h.pn
 omega
theorem Duo.zn (h : Duo w W p A B) : ∀ k, ZZ p A B k → w.heap.size ≤ k ∧ k < W.heap.size := by
 rintro k (rfl | x | x)
 ·exact ⟨h.pn, h.pl⟩
 ·exact ⟨h.an k x, h.al k x⟩
 ·exact ⟨h.bn k x, h.bl k x⟩
end
theorem foot_out {F F' : Nat → Prop} {W : World} {g : Nat} (hf : Foot F F' W) (hg : g < W.heap.size) (hn : ¬ F g) : ¬ F' g := fun h => by
 rcases hf g h with h1 | h1
 ·exact hn h1
 ·omega
def cellP (d r : Nat) (lv xv : Value) : Obj := .cells #[.pointer (some ⟨d, 0, none⟩), .pointer (some ⟨r, 0, none⟩), lv, xv] 33 (0, 0)
def ptrV (l : Nat) : Value := .pointer (some ⟨l, 0, none⟩)
def PD (w W : World) (p d r : Nat) (lv xv : Value) (s1 s2 : DSt) (Z : Nat → Prop) : Prop :=
 ∃ F H, W.heap[p]? = some (cellP d r lv xv) ∧ DiskAt W d s1 F ∧ RAt W r s2 H ∧ Duo w W p F H ∧ Z = ZZ p F H
def PL (w W : World) (p d r l x : Nat) (P : ByteArray) (s1 : DSt) (st1 : LSt) (s2 : DSt) (st2 : LSt) (Z : Nat → Prop) : Prop :=
 ∃ F G H K, W.heap[p]? = some (cellP d r (ptrV l) (ptrV x)) ∧ WAt W d l P s1 st1 F G ∧ XAt W r x P s2 st2 H K ∧ Duo w W p (Both F G) (Both H K) ∧ Z = ZZ p (Both F G) (Both H K)
section
variable {w W W' : World} {p d r l x : Nat} {lv xv : Value} {P : ByteArray} {s1 s2 s' : DSt} {st1 st2 st' : LSt} {Z : Nat → Prop}
theorem PD.no (h : PD w W p d r lv xv s1 s2 Z) (hk : Kp No W W') : PD w W' p d r lv xv s1 s2 Z := by
 obtain ⟨F, H, h1, h2, h3, h4, h5⟩ := h
 exact ⟨F, H, hk.get h1 (fun x => x), h2.keep_no hk, h3.keep_no hk, h4.no hk, h5⟩
theorem PL.no (h : PL w W p d r l x P s1 st1 s2 st2 Z) (hk : Kp No W W') : PL w W' p d r l x P s1 st1 s2 st2 Z := by
 obtain ⟨F, G, H, K, h1, h2, h3, h4, h5⟩ := h
 exact ⟨F, G, H, K, hk.get h1 (fun x => x), h2.no hk, h3.no hk, h4.no hk, h5⟩
theorem PL.kp (h : PL w W p d r l x P s1 st1 s2 st2 Z) : Kp No w W := by
 obtain ⟨_, _, _, _, _, _, _, h4, _⟩ := h
 exact h4.kp
theorem PD.kp (h : PD w W p d r lv xv s1 s2 Z) : Kp No w W := by
 obtain ⟨_, _, _, _, _, h4, _⟩ := h
 exact h4.kp
theorem PL.zn (h : PL w W p d r l x P s1 st1 s2 st2 Z) : ∀ k, Z k → w.heap.size ≤ k ∧ k < W.heap.size := by
 obtain ⟨_, _, _, _, _, _, _, h4, rfl⟩ := h
 exact h4.zn
theorem PD.zn (h : PD w W p d r lv xv s1 s2 Z) : ∀ k, Z k → w.heap.size ≤ k ∧ k < W.heap.size := by
 obtain ⟨_, _, _, _, _, h4, rfl⟩ := h
 exact h4.zn
theorem PL.other {T : Nat → Prop} (h : PL w W p d r l x P s1 st1 s2 st2 Z) (hk : Kp T W W') (hT : ∀ k, T k → ¬ Z k ∧ w.heap.size ≤ k) : PL w W' p d r l x P s1 st1 s2 st2 Z := by
 obtain ⟨F, G, H, K, h1, h2, h3, h4, rfl⟩ := h
 refine ⟨F, G, H, K, hk.get h1 (fun ht => (hT _ ht).1 (.inl rfl)), ⟨h2.disk.keep hk fun k a b => (hT _ b).1 (.inr (.inl (.inl a))), h2.log.keep hk fun k a b => (hT _ b).1 (.inr (.inl (.inr a))), h2.sep⟩,
  ⟨h3.disk.keep hk fun k a b => (hT _ b).1 (.inr (.inr (.inl a))), h3.log.keep hk fun k a b => (hT _ b).1 (.inr (.inr (.inr a))), h3.sep⟩,
  ⟨h4.kp.trans hk fun i hi ht => by have := (hT i ht).2; omega, h4.an, h4.bn, h4.pn, h4.dis, h4.pa, h4.pb, fun k a => hk.lt (h4.al k a), fun k a => hk.lt (h4.bl k a), hk.lt h4.pl⟩, rfl⟩
theorem PL.wal (h : PL w W p d r l x P s1 st1 s2 st2 Z) : ∃ F G, WAt W d l P s1 st1 F G ∧ (∀ k, Both F G k → w.heap.size ≤ k ∧ Z k) ∧ ¬ Both F G p ∧
  ∀ W' s' st', SaidW W d l P F G s' st' W' → ∃ Z', PL w W' p d r l x P s' st' s2 st2 Z' ∧ Foot Z Z' W ∧ Kp Z W W' := by
 obtain ⟨F, G, H, K, h1, h2, h3, h4, rfl⟩ := h
 refine ⟨F, G, h2, fun k hk => ⟨h4.an k hk, .inr (.inl hk)⟩, h4.pa, ?_⟩
 rintro W' s' st' ⟨F', G', k1, k2, k3, k4⟩
 have hF : Foot (Both F G) (Both F' G') W := fun k hk => by
  rcases hk with hk | hk
  ·exact (k2 k hk).imp .inl id
  ·exact (k3 k hk).imp .inr id
 obtain ⟨t1, t2, t3⟩ := h4.left hF k4 (fun k hk => hk.elim (k1.disk.lt k) (k1.log.lt k))
 exact ⟨_, ⟨F', G', H, K, k4.get h1 h4.pa, k1, ⟨h3.disk.keep k4 fun k hk hf => h4.dis k hf (.inl hk), h3.log.keep k4 fun k hk hf => h4.dis k hf (.inr hk), h3.sep⟩, t1, rfl⟩, t2, t3⟩
theorem PL.ref (h : PL w W p d r l x P s1 st1 s2 st2 Z) : ∃ H K, XAt W r x P s2 st2 H K ∧ (∀ k, Both H K k → w.heap.size ≤ k ∧ Z k) ∧ ¬ Both H K p ∧
  ∀ W' s' st', SaidX W r x P H K s' st' W' → ∃ Z', PL w W' p d r l x P s1 st1 s' st' Z' ∧ Foot Z Z' W ∧ Kp Z W W' := by
 obtain ⟨F, G, H, K, h1, h2, h3, h4, rfl⟩ := h
 refine ⟨H, K, h3, fun k hk => ⟨h4.bn k hk, .inr (.inr hk)⟩, h4.pb, ?_⟩
 rintro W' s' st' ⟨F', G', k1, k2, k3, k4⟩
 have hF : Foot (Both H K) (Both F' G') W := fun k hk => by
  rcases hk with hk | hk
  ·exact (k2 k hk).imp .inl id
  ·exact (k3 k hk).imp .inr id
 obtain ⟨t1, t2, t3⟩ := h4.right hF k4 (fun k hk => hk.elim (k1.disk.lt k) (k1.log.lt k))
 exact ⟨_, ⟨F, G, F', G', k4.get h1 h4.pb, ⟨h2.disk.keep k4 fun k hk hf => h4.dis k (.inl hk) hf, h2.log.keep k4 fun k hk hf => h4.dis k (.inr hk) hf, h2.sep⟩, k1, t1, rfl⟩, t2, t3⟩
theorem PL.disk (h : PL w W p d r l x P s1 st1 s2 st2 Z) : ∃ F, DiskAt W d s1 F ∧ ¬ F p ∧
  ∀ W' s' F', DiskAt W' d s' F' → Foot F F' W → Kp F W W' → ∃ Z', PL w W' p d r l x P s' st1 s2 st2 Z' ∧ Foot Z Z' W ∧ Kp Z W W' := by
 obtain ⟨F, G, H, K, h1, h2, h3, h4, rfl⟩ := h
 refine ⟨F, h2.disk, fun hp => h4.pa (.inl hp), fun W' s' F' k1 k2 k3 => ?_⟩
 have h2' := h2.turnD k1 k2 k3
 have k3' : Kp (Both F G) W W' := k3.mono fun _ _ x => .inl x
 obtain ⟨t1, t2, t3⟩ := h4.left (A' := Both F' G) (fun k hk => hk.elim (fun y => (k2 k y).imp .inl id) fun y => .inl (.inr y)) k3' (fun k hk => hk.elim (h2'.disk.lt k) (h2'.log.lt k))
 exact ⟨_, ⟨F', G, H, K, k3'.get h1 h4.pa, h2', ⟨h3.disk.keep k3' fun k hk hf => h4.dis k hf (.inl hk), h3.log.keep k3' fun k hk hf => h4.dis k hf (.inr hk), h3.sep⟩, t1, rfl⟩, t2, t3⟩
theorem PL.rdisk (h : PL w W p d r l x P s1 st1 s2 st2 Z) : ∃ H, RAt W r s2 H ∧ ¬ H p ∧
  ∀ W' s' H', RAt W' r s' H' → Foot H H' W → Kp H W W' → ∃ Z', PL w W' p d r l x P s1 st1 s' st2 Z' ∧ Foot Z Z' W ∧ Kp Z W W' := by
 obtain ⟨F, G, H, K, h1, h2, h3, h4, rfl⟩ := h
 refine ⟨H, h3.disk, fun hp => h4.pb (.inl hp), fun W' s' H' k1 k2 k3 => ?_⟩
 have h3' := h3.turnD k1 k2 k3
 have k3' : Kp (Both H K) W W' := k3.mono fun _ _ x => .inl x
 obtain ⟨t1, t2, t3⟩ := h4.right (B' := Both H' K) (fun k hk => hk.elim (fun y => (k2 k y).imp .inl id) fun y => .inl (.inr y)) k3' (fun k hk => hk.elim (h3'.disk.lt k) (h3'.log.lt k))
 exact ⟨_, ⟨F, G, H', K, k3'.get h1 h4.pb, ⟨h2.disk.keep k3' fun k hk hf => h4.dis k (.inl hk) hf, h2.log.keep k3' fun k hk hf => h4.dis k (.inr hk) hf, h2.sep⟩, h3', t1, rfl⟩, t2, t3⟩
theorem PL.forget (h : PL w W p d r l x P s1 st1 s2 st2 Z) : ∃ Z', PD w W p d r (ptrV l) (ptrV x) s1 s2 Z' ∧ ∀ k, Z' k → Z k := by
 obtain ⟨F, G, H, K, h1, h2, h3, h4, rfl⟩ := h
 refine ⟨_, ⟨F, H, h1, h2.disk, h3.disk, ⟨h4.kp, fun k hk => h4.an k (.inl hk), fun k hk => h4.bn k (.inl hk), h4.pn, fun k hf hh => h4.dis k (.inl hf) (.inl hh), fun hp => h4.pa (.inl hp), fun hp => h4.pb (.inl hp), fun k hk => h4.al k (.inl hk), fun k hk => h4.bl k (.inl hk), h4.pl⟩, rfl⟩, ?_⟩
 rintro k (hk | hk | hk)
 ·exact .inl hk
 ·exact .inr (.inl (.inl hk))
 ·exact .inr (.inr (.inl hk))
theorem PD.disk (h : PD w W p d r lv xv s1 s2 Z) : ∃ F, DiskAt W d s1 F ∧ (∀ k, F k → w.heap.size ≤ k ∧ Z k) ∧ ¬ F p ∧
  ∀ W' s' F', DiskAt W' d s' F' → Foot F F' W → Kp F W W' → ∃ Z', PD w W' p d r lv xv s' s2 Z' ∧ Foot Z Z' W ∧ Kp Z W W' := by
 obtain ⟨F, H, h1, h2, h3, h4, rfl⟩ := h
 refine ⟨F, h2, fun k hk => ⟨h4.an k hk, .inr (.inl hk)⟩, h4.pa, fun W' s' F' k1 k2 k3 => ?_⟩
 obtain ⟨t1, t2, t3⟩ := h4.left k2 k3 k1.lt
 exact ⟨_, ⟨F', H, k3.get h1 h4.pa, k1, h3.keep k3 fun k hk hf => h4.dis k hf hk, t1, rfl⟩, t2, t3⟩
theorem PD.rdisk (h : PD w W p d r lv xv s1 s2 Z) : ∃ H, RAt W r s2 H ∧ (∀ k, H k → w.heap.size ≤ k ∧ Z k) ∧ ¬ H p ∧
  ∀ W' s' H', RAt W' r s' H' → Foot H H' W → Kp H W W' → ∃ Z', PD w W' p d r lv xv s1 s' Z' ∧ Foot Z Z' W ∧ Kp Z W W' := by
 obtain ⟨F, H, h1, h2, h3, h4, rfl⟩ := h
 refine ⟨H, h3, fun k hk => ⟨h4.bn k hk, .inr (.inr hk)⟩, h4.pb, fun W' s' H' k1 k2 k3 => ?_⟩
 obtain ⟨t1, t2, t3⟩ := h4.right k2 k3 k1.lt
 exact ⟨_, ⟨F, H', k3.get h1 h4.pb, h2.keep k3 fun k hk hf => h4.dis k hk hf, k1, t1, rfl⟩, t2, t3⟩
theorem PL.cells (h : PL w W p d r l x P s1 st1 s2 st2 Z) (T : Nat → Prop) (hT : ¬ T p) : p < W.heap.size ∧ ∀ W', Kp T W W' → W'.cell? ⟨p, 0, none⟩ = some (ptrV d) ∧ W'.cell? ⟨p, 1, none⟩ = some (ptrV r) ∧ W'.cell? ⟨p, 2, none⟩ = some (ptrV l) ∧ W'.cell? ⟨p, 3, none⟩ = some (ptrV x) := by
 obtain ⟨F, G, H, K, h1, h2, h3, h4, rfl⟩ := h
 refine ⟨h4.pl, fun W' hk => ?_⟩
 have h1' := hk.get h1 hT
 exact ⟨by rw [cell_at h1']; rfl, by rw [cell_at h1']; rfl, by rw [cell_at h1']; rfl, by rw [cell_at h1']; rfl⟩
theorem PD.cells (h : PD w W p d r lv xv s1 s2 Z) (T : Nat → Prop) (hT : ¬ T p) : p < W.heap.size ∧ ∀ W', Kp T W W' → W'.cell? ⟨p, 0, none⟩ = some (ptrV d) ∧ W'.cell? ⟨p, 1, none⟩ = some (ptrV r) := by
 obtain ⟨F, H, h1, h2, h3, h4, rfl⟩ := h
 refine ⟨h4.pl, fun W' hk => ?_⟩
 have h1' := hk.get h1 hT
 exact ⟨by rw [cell_at h1']; rfl, by rw [cell_at h1']; rfl⟩
end
theorem PD.opened {w W W1 W2 : World} {p d r l x : Nat} {lv xv : Value} {P : ByteArray} {s s' : DSt} {st' : LSt} {Z : Nat → Prop} (h : PD w W p d r lv xv s s Z) {F F' G' H H' K' : Nat → Prop} (hZ : Z = ZZ p F H)
  (h1 : W.heap[p]? = some (cellP d r lv xv)) (hT : Duo w W p F H)
  (hw : WAt W1 d l P s' st' F' G') (hf : Foot F F' W) (hg : ∀ k, G' k → W.heap.size ≤ k) (hk : Kp F W W1)
  (hx : XAt W2 r x P s' st' H' K') (hf2 : Foot H H' W1) (hg2 : ∀ k, K' k → W1.heap.size ≤ k) (hk2 : Kp H W1 W2) :
  W2.heap[p]? = some (cellP d r lv xv) ∧ (∃ z, W2.cell? ⟨p, 2, none⟩ = some z) ∧ W2.frozen? ⟨p, 2, none⟩ = false ∧ (∃ z, (W2.setCell ⟨p, 2, none⟩ (ptrV l)).cell? ⟨p, 3, none⟩ = some z) ∧ (W2.setCell ⟨p, 2, none⟩ (ptrV l)).frozen? ⟨p, 3, none⟩ = false ∧
   ∃ Z', PL w ((W2.setCell ⟨p, 2, none⟩ (ptrV l)).setCell ⟨p, 3, none⟩ (ptrV x)) p d r l x P s' st' s' st' Z' ∧ Foot Z Z' W ∧ Kp Z W ((W2.setCell ⟨p, 2, none⟩ (ptrV l)).setCell ⟨p, 3, none⟩ (ptrV x)) := by
 subst hZ
 have hFl : ∀ k, F k → k < W.heap.size := hT.al
 have hs1 := hk.size
 have hA : Foot F (Both F' G') W := fun k hk' => hk'.elim (hf k) fun y => .inr (hg k y)
 obtain ⟨t1, t2, t3⟩ := hT.left hA hk (fun k hk' => hk'.elim (hw.disk.lt k) (hw.log.lt k))
 have hB : Foot H (Both H' K') W1 := fun k hk' => hk'.elim (hf2 k) fun y => .inr (hg2 k y)
 obtain ⟨u1, u2, u3⟩ := t1.right hB hk2 (fun k hk' => hk'.elim (hx.disk.lt k) (hx.log.lt k))
 have c2 : W2.heap[p]? = some (cellP d r lv xv) := hk2.get (hk.get h1 hT.pa) t1.pb
 have hw2 : WAt W2 d l P s' st' F' G' := ⟨hw.disk.keep hk2 fun k a b => t1.dis k (.inl a) b, hw.log.keep hk2 fun k a b => t1.dis k (.inr a) b, hw.sep⟩
 obtain ⟨v1, q1⟩ := u1.own (ptrV l) 2
 obtain ⟨v2, q2⟩ := v1.own (ptrV x) 3
 have c3 : (W2.setCell ⟨p, 2, none⟩ (ptrV l)).heap[p]? = some (cellP d r (ptrV l) xv) := by
  have := set_at c2 2 (ptrV l)
  simpa [cellP] using this
 have c4 : ((W2.setCell ⟨p, 2, none⟩ (ptrV l)).setCell ⟨p, 3, none⟩ (ptrV x)).heap[p]? = some (cellP d r (ptrV l) (ptrV x)) := by
  have := set_at c3 3 (ptrV x)
  simpa [cellP] using this
 have q3 : Kp (One p) W2 ((W2.setCell ⟨p, 2, none⟩ (ptrV l)).setCell ⟨p, 3, none⟩ (ptrV x)) := q1.trans_same q2
 have hno : ∀ k, One p k → ¬ Both F' G' k ∧ ¬ Both H' K' k := fun k (e : k = p) => e ▸ ⟨u1.pa, u1.pb⟩
 refine ⟨c2, ⟨_, by rw [cell_at c2]; rfl⟩, free_at c2 2, ⟨_, by rw [cell_at c3]; rfl⟩, free_at c3 3, _, ⟨F', G', H', K', c4, ?_, ?_, v2, rfl⟩, t2.trans u2 hk.size, (t3.trans u3 fun i hi a => ?_).trans q3 fun i hi (e : i = p) => .inl e⟩
 ·exact ⟨hw2.disk.keep q3 fun k a b => (hno k b).1 (.inl a), hw2.log.keep q3 fun k a b => (hno k b).1 (.inr a), hw2.sep⟩
 ·exact ⟨hx.disk.keep q3 fun k a b => (hno k b).2 (.inl a), hx.log.keep q3 fun k a b => (hno k b).2 (.inr a), hx.sep⟩
 ·rcases t2 i a with y | y
  ·exact y
  ·omega
set_option maxRecDepth 100000 in
set_option maxHeartbeats 1000000 in
theorem open_pair (w W : World) (p d r : Nat) (lv xv : Value) (s : DSt) (Z : Nat → Prop) (h : PD w W p d r lv xv s s Z) (hpow : Pow w) (hfree : Free s) (hroom : s.room ≤ 1048576) :
  Calls Tryz.prog 32 #[.pointer (some ⟨p, 0, none⟩)] W fun e w' => e = .returned (.bool true) ∧ ∃ l x s' st' Z', openS ⟨#[97]⟩ s (nmS s.files) = (0, s', st') ∧ Opened ⟨#[97]⟩ s s' st' ∧ Fit 0 ⟨#[97]⟩ s' st' ∧
   PL w w' p d r l x ⟨#[97]⟩ s' st' s' st' Z' ∧ Foot Z Z' W ∧ Kp Z W w' := by
 have HPD := Lib.hid h
 obtain ⟨F, H, h1, h2, h3, h4, hZ⟩ := h
 obtain ⟨hpl, hcell⟩ := HPD.out.cells No (fun h => h)
 obtain ⟨few, nod, tot⟩ := h2.few
 obtain ⟨s', st', ho, hop⟩ := open_free ⟨#[97]⟩ hfree
 have hfit := hop.fit hroom few nod tot
 have hps := hpow.lt
 have hw1 := open_any W d ⟨#[97]⟩ s F h2 hfree.ok (hpow.keepS h4.kp (fun x => x)) (fun hf => by have := h4.an _ hf; omega) (by decide) (by decide) hroom
 have c0 := (hcell W (Kp.refl _ _)).1
 have HW := Lib.hid (And.intro hw1 (And.intro h1 (And.intro h2 (And.intro h3 (And.intro h4 hZ)))))
 have HO := Lib.hid ho
 have HX := Lib.hid (And.intro hop hfit)
 have HS := Lib.hid (And.intro few (And.intro nod (And.intro tot (And.intro hfree hroom))))
 obtain ⟨P, hP⟩ : ∃ P : ByteArray, P = ⟨#[97]⟩ := ⟨_, rfl⟩
 clear hw1 h1 h2 h3 h4 hZ ho hop hfit few nod tot hfree hroom hpow hps
 unfold ptrV at c0
 go_enter Tryz.func32, Tryz.ntmps32
 go_wp2_with fail
 refine HW.out.1.mono ?_
 intro e w1 hq
 unfold OpnP at hq
 rw [HO.out] at hq
 rcases hq with ⟨_, l, F', G', rfl, q1, q2, q3, q4⟩ | ⟨hq, _⟩
 ·simp only at q1
  have hT := HW.out.2.2.2.2.1
  have c1 : w1.cell? ⟨p, 1, none⟩ = some (.pointer (some ⟨r, 0, none⟩)) := by
   rw [cell_at (q4.get HW.out.2.1 hT.pa)]
   rfl
  have hpl1 := q4.lt hpl
  have hx1 := xopen_any w1 r ⟨#[97]⟩ s H (HW.out.2.2.2.1.keep q4 fun k a b => hT.dis k b a) HS.out.1 HS.out.2.1 HS.out.2.2.1 HS.out.2.2.2.1.ok (by decide) (by decide) HS.out.2.2.2.2
  have HX1 := Lib.hid hx1
  have HQ := Lib.hid (And.intro q1 (And.intro q2 (And.intro q3 q4)))
  clear hx1 q1 q2 q3 q4 hT c0
  go_wp2_with fail
  refine HX1.out.mono ?_
  intro e w2 hq
  unfold OpxP at hq
  rw [HO.out] at hq
  rcases hq with ⟨_, x, H', K', rfl, q1, q2, q3, q4⟩ | ⟨hq, _⟩
  ·simp only at q1
   obtain ⟨d1, ⟨z2, d2⟩, d3, ⟨z3, d4⟩, d5, Z', d6, d7, d8⟩ := HPD.out.opened HW.out.2.2.2.2.2 HW.out.2.1 HW.out.2.2.2.2.1 HQ.out.1 HQ.out.2.1 HQ.out.2.2.1 HQ.out.2.2.2 q1 q2 q3 q4
   have hpl2 := get_lt d1
   have HD := Lib.hid (And.intro d6 (And.intro d7 d8))
   unfold ptrV at d4 d5
   clear q1 q2 q3 q4 d1 d6 d7 d8 c1
   go_wp2_with fail
   go_ret
   exact ⟨rfl, l, x, s', st', Z', HO.out, HX.out.1, HX.out.2, HD.out.1, HD.out.2.1, HD.out.2.2⟩
  ·exact absurd rfl hq
 ·exact absurd rfl hq
end Go.Proofs.YtdibkdgafidjgaaGreatDoor

