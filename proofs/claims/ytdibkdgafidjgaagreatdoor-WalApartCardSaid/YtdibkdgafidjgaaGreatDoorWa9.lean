/-
  Texts laid together: RD1, RD2, RD5, Last, RWalk.
-/
import Derived.Test.YtdibkdgafidjgaaGreatDoorWa8
import Derived.Test.YtdibkdgafidjgaaGreatDoorWa3
import Derived.WalkKit
import Derived.WalkSpells
import Derived.WalkLawsBesides
import Derived.Outline
import Derived.Test.YtdibkdgafidjgaaGreatDoorWa1
import Derived.Test.YtdibkdgafidjgaaGreatDoorWa7
namespace Go.Proofs.YtdibkdgafidjgaaGreatDoor
open Go.RowKit Go.Mer
set_option maxRecDepth 100000 in
set_option maxHeartbeats 1000000 in
theorem rmay_any (w : World) (r room : Nat) (left : Int) (rv : Value) (L : List RFile) (h : RC w r room left rv L) (na : Option Addr) (nc : Nat) (ns : List ByteArray) (hns : Rd w w.heap.size na (ns.map Value.string)) (hnl : ns.length ≤ 1000) :
  Calls Tryz.prog 74 #[.pointer (some ⟨r, 0, none⟩), .slice na ns.length nc] w fun e w' => e = .returned (.int .i64 (if left = 0 then 9 else if ns.all nameOk = true then 0 else 1)) ∧ Kp No w w' := by
 obtain ⟨ra, rcap, rfl, hrc, hrd⟩ := h.row.rd
 have c0 := cell_at h.cell 0
 have c1 := cell_at h.cell 1
 have c2 := cell_at h.cell 2
 have hrl := get_lt h.cell
 simp at c0 c1 c2
 have HN := Lib.hid hns
 clear h hns c0 c1 hrd hrc
 obtain ⟨q, hq⟩ : ∃ q : Int, q = if left = 0 then 9 else if ns.all nameOk = true then 0 else 1 := ⟨_, rfl⟩
 rw [← hq]
 by_cases h0 : left = 0
 ·subst h0
  have HE := Lib.hid hq
  clear hq
  go_enter Tryz.func74, Tryz.ntmps74
  go_wp2_with fail
  go_ret
  exact ⟨by rw [HE.out]; rfl, Kp.refl _ _⟩
 ·have f0 : (left == 0) = false := by simpa using h0
  rw [if_neg h0] at hq
  have HE := Lib.hid hq
  clear h0 hq
  go_enter Tryz.func74, Tryz.ntmps74
  go_wp2_with fail
  rename World => w0
  go_loopw [5] (fun i wr => ∃ k : Nat, k ≤ ns.length ∧ i = .int .i64 (k : Int) ∧ Hid ((ns.take k).all nameOk = true) ∧ Hid (Kp No w0 wr)) (fun i _ => ns.length - (intOf i).toNat)
  case atStart => exact ⟨0, Nat.zero_le _, rfl, Lib.hid (by simp), Lib.hid (Kp.refl _ _)⟩
  case round =>
   obtain ⟨k, hk, rfl, HA, HKP⟩ := hrel
   by_cases hlt : k < ns.length
   ·obtain ⟨g, off, rfl, hg, _, hc⟩ := (HN.out.keep HKP.out fun _ _ x => x).at_ (i := k) (u := .string ns[k]) (by simp [hlt])
    have hgl : g < wr.heap.size := Nat.lt_of_lt_of_le hg HKP.out.size
    have HT := Lib.hid (List.take_succ_eq_append_getElem hlt)
    have HNM := Lib.hid (show ns[k] ∈ ns from List.getElem_mem hlt)
    by_cases h1 : ns[k].size < 1
    ·have hno : ns.all nameOk = false := by
      rw [List.all_eq_false]
      exact ⟨ns[k], HNM.out, by simp [nameOk]; omega⟩
     have HNO := Lib.hid hno
     clear hno HT HA
     go_wp2_with fail
     go_ret
     exact ⟨by rw [HE.out, HNO.out]; rfl, HKP.out⟩
    ·by_cases h2 : 64 < ns[k].size
     ·have hno : ns.all nameOk = false := by
       rw [List.all_eq_false]
       exact ⟨ns[k], HNM.out, by simp [nameOk]; omega⟩
      have HNO := Lib.hid hno
      clear hno
      go_wp2_with fail
      go_ret
      exact ⟨by rw [HE.out, HNO.out]; rfl, HKP.out⟩
     ·have HA2 : Hid ((ns.take (k + 1)).all nameOk = true) := Lib.hid (by
       rw [HT.out, List.all_append, HA.out]
       simp [nameOk]
       omega)
      go_wp2_with fail
      go_roundw
      case rel => exact ⟨k + 1, by omega, by go_num, HA2, HKP⟩
      case measure => simp [intOf]; omega
   ·obtain rfl : k = ns.length := by omega
    have hal := HA.out
    rw [List.take_length] at hal
    have HAL := Lib.hid hal
    clear hal hlt
    go_wp2_with fail
    go_ret
    exact ⟨by rw [HE.out, HAL.out]; rfl, HKP.out⟩
theorem left_next {f : Option Nat} (hf : f ≠ some 0) : leftOf (f.map (· - 1)) = if 0 < leftOf f then leftOf f - 1 else leftOf f := by
 cases f with
 | none => rfl
 | some n =>
  show ((n - 1 : Nat) : Int) = if 0 < (n : Int) then (n : Int) - 1 else (n : Int)
  have : 0 < n := by
   rcases Nat.eq_zero_or_pos n with rfl | h
   ·exact absurd rfl hf
   ·exact h
  rw [if_pos (by omega)]
  omega
set_option maxHeartbeats 400000 in
theorem rdid_any (w : World) (r room : Nat) (left : Int) (rv : Value) (L : List RFile) (h : RC w r room left rv L) :
  Calls Tryz.prog 77 #[.pointer (some ⟨r, 0, none⟩)] w fun e w' => e = .returned (.int .i64 0) ∧ RC w' r room (if 0 < left then left - 1 else left) rv L ∧ Kp (One r) w w' := by
 have hrow := h.row.rd
 obtain ⟨ra, rcap, rfl, _, _⟩ := hrow
 have c2 := cell_at h.cell 2
 have f2 := free_at h.cell 2
 have hrl := get_lt h.cell
 simp at c2
 have hl0 := h.left0
 have hlM := h.leftM
 by_cases h0 : 0 < left
 ·have hk : Kp (One r) w (w.setCell ⟨r, 2, none⟩ (.int .i64 (left - 1))) := (Kp.refl (One r) _).setCell (p := ⟨r, 2, none⟩) (.inl rfl) _
  have h2 := h.setLeft (left - 1) (by omega) (by omega) hk (by have := set_at h.cell 2 (.int .i64 (left - 1)); simpa using this)
  have H2 := Lib.hid h2
  have HK := Lib.hid hk
  clear h h2 hk
  go_enter Tryz.func77, Tryz.ntmps77
  go_wp2_with fail
  go_ret
  exact ⟨rfl, H2.out, HK.out⟩
 ·have H2 := Lib.hid h
  clear h
  go_enter Tryz.func77, Tryz.ntmps77
  go_wp2_with fail
  go_ret
  exact ⟨rfl, H2.out, Kp.refl _ _⟩
end Go.Proofs.YtdibkdgafidjgaaGreatDoor
namespace Go.Proofs.YtdibkdgafidjgaaGreatDoor
open Go.RowKit Go.Mer
theorem totF_take (L : List RFile) {j : Nat} (h : j < L.length) : totF (absR (L.take (j + 1))) = totF (absR (L.take j)) + L[j].data.length := by
 rw [List.take_succ_eq_append_getElem h]
 unfold absR
 rw [List.map_append, totF_append]
 rfl
theorem totF_le (L : List RFile) (j : Nat) : totF (absR (L.take j)) ≤ totF (absR L) := by
 conv => rhs; rw [← List.take_append_drop j L]
 unfold absR
 rw [List.map_append, totF_append]
 omega
set_option maxHeartbeats 1000000 in
theorem rUsed_any (w : World) (r room : Nat) (left : Int) (rv : Value) (L : List RFile) (h : RC w r room left rv L) :
  Calls Tryz.prog 76 #[.pointer (some ⟨r, 0, none⟩)] w fun e w' => e = .returned (.int .i64 (totF (absR L) : Int)) ∧ Kp No w w' := by
 obtain ⟨ra, rcap, rfl, hrc, hrd⟩ := h.row.rd
 have HC1 := Lib.hid (show ∀ W, Kp No w W → W.cell? ⟨r, 1, none⟩ = some (.slice ra L.length rcap) ∧ r < W.heap.size from fun W hW => ⟨by rw [cell_at (hW.get h.cell fun x => x)]; rfl, get_lt (hW.get h.cell fun x => x)⟩)
 have HRD := Lib.hid hrd
 have HB := Lib.hid (show totF (absR L) ≤ 1073741824 from Nat.le_trans h.fits h.roomy)
 have hfew := h.few
 obtain ⟨T, hT⟩ : ∃ T, T = totF (absR L) := ⟨_, rfl⟩
 rw [← hT]
 have HT := Lib.hid hT
 clear h hrd hT
 go_enter Tryz.func76, Tryz.ntmps76
 go_wp2_with fail
 rename World => w0
 go_loopw [3, 4] (fun s i wr => ∃ j N : Nat, j ≤ L.length ∧ i = .int .i64 (j : Int) ∧ s = .int .i64 (N : Int) ∧ Hid (N = totF (absR (L.take j))) ∧ Hid (Kp No w0 wr)) (fun _ i _ => L.length - (intOf i).toNat)
 case atStart => exact ⟨0, 0, Nat.zero_le _, rfl, rfl, Lib.hid rfl, Lib.hid (Kp.refl _ _)⟩
 case round =>
  obtain ⟨j, N, hj, rfl, rfl, HN, HKP⟩ := hrel
  obtain ⟨c1, hrl⟩ := HC1.out _ HKP.out
  by_cases hlt : j < L.length
  ·obtain ⟨g, off, rfl, l0⟩ := rd_chunk (f := RFile.cells) (c := 3) RFile.cells_len (by decide) HRD.out hlt
   have d1 := l0 _ HKP.out 1 _ rfl
   have hgl : g < wr.heap.size := World.block_lt_of_cell? wr _ d1
   have hst := totF_take L hlt
   have hle := totF_le L (j + 1)
   have hb := HB.out
   obtain ⟨n, hn⟩ : ∃ n, n = L[j].data.length := ⟨_, rfl⟩
   rw [← hn] at d1 hst
   have HN2 : Hid (N + n = totF (absR (L.take (j + 1)))) := Lib.hid (by have := HN.out; omega)
   have hsm : N + n ≤ 1073741824 := by have := HN.out; omega
   clear l0 hst hle hb hn
   go_wp2_with fail
   go_roundw
   case rel => exact ⟨j + 1, N + n, by omega, by go_num, by go_num, HN2, HKP⟩
   case measure => simp [intOf]; omega
  ·obtain rfl : j = L.length := by omega
   have hN := HN.out
   rw [List.take_length, ← HT.out] at hN
   subst hN
   clear hlt
   go_wp2_with fail
   go_ret
   exact ⟨rfl, HKP.out⟩
end Go.Proofs.YtdibkdgafidjgaaGreatDoor
namespace Go.Proofs.YtdibkdgafidjgaaGreatDoor
open Go.RowKit Go.Mer
set_option maxRecDepth 100000 in
set_option maxHeartbeats 1000000 in
theorem rspot_any (w : World) (r room : Nat) (left : Int) (rv : Value) (L : List RFile) (h : RC w r room left rv L) (k : ByteArray) :
  Calls Tryz.prog 75 #[.pointer (some ⟨r, 0, none⟩), .string k] w fun e w' => ∃ (i : Nat) (b : Bool), e = .returned (.tuple #[.int .i64 (i : Int), .bool b]) ∧ Spot L k i b ∧ Kp No w w' := by
 obtain ⟨ra, rcap, rfl, hrc, hrd⟩ := h.row.rd
 have HC1 := Lib.hid (show ∀ W, Kp No w W → W.cell? ⟨r, 1, none⟩ = some (.slice ra L.length rcap) ∧ r < W.heap.size from fun W hW => ⟨by rw [cell_at (hW.get h.cell fun x => x)]; rfl, get_lt (hW.get h.cell fun x => x)⟩)
 have HRD := Lib.hid hrd
 have HS := Lib.hid h.sorted
 have hfew := h.few
 clear h hrd
 go_enter Tryz.func75, Tryz.ntmps75
 go_wp2_with fail
 rename World => w0
 go_loopw [6] (fun i wr => ∃ j : Nat, j ≤ L.length ∧ i = .int .i64 (j : Int) ∧ Hid (∀ f ∈ L.take j, NLt f.name k) ∧ Hid (Kp No w0 wr)) (fun i _ => L.length - (intOf i).toNat)
 case atStart => exact ⟨0, Nat.zero_le _, rfl, Lib.hid (by simp), Lib.hid (Kp.refl _ _)⟩
 case round =>
  obtain ⟨j, hj, rfl, HL, HKP⟩ := hrel
  obtain ⟨c1, hrl⟩ := HC1.out _ HKP.out
  by_cases hlt : j < L.length
  ·obtain ⟨g, off, rfl, l0⟩ := rd_chunk (f := RFile.cells) (c := 3) RFile.cells_len (by decide) HRD.out hlt
   have d0 := l0 _ HKP.out 0 _ rfl
   rw [Nat.add_zero] at d0
   have hgl : g < wr.heap.size := World.block_lt_of_cell? wr _ d0
   have HT := Lib.hid (List.take_succ_eq_append_getElem hlt)
   rcases nlt_tri L[j].name k with hn | hn | hn
   ·have f1 := less_yes hn
    have HL2 : Hid (∀ f ∈ L.take (j + 1), NLt f.name k) := Lib.hid fun f hf => by
     rw [HT.out, List.mem_append, List.mem_singleton] at hf
     rcases hf with hf | rfl
     ·exact HL.out f hf
     ·exact hn
    clear l0 hn
    go_wp2_with fail
    go_roundw
    case rel => exact ⟨j + 1, by omega, by go_num, HL2, HKP⟩
    case measure => simp [intOf]; omega
   ·have f1 := less_no (by rw [hn]; exact nlt_irr k : ¬ NLt L[j].name k)
    have f2 : (L[j].name.toList == k.toList) = true := by rw [hn]; exact beq_self_eq_true _
    have HSP := Lib.hid (spot_is hlt hn)
    clear l0 hn
    go_wp2_with fail
    refine wp_region_ord [0,0,0,0,0,1,1,0,0,0,0,0,1,0,0,0,1,0,0,0,0,0] [0,1,2,3,4,5,6,7,8,9,10,11,13,17,20,12,14,15,16,18,19,21] (by kernel_rfl) (by kernel_rfl) ?_
    repeat (first
     | (apply wpOrd_skip rfl (by decide) rfl; (focus (go_simp; rfl)))
     | (apply wpOrd_pure rfl rfl rfl; (focus (intro _ _; go_simp; (try go_ints); rfl)); (focus (go_simp; rfl)))
     | (apply wpOrd_read rfl rfl rfl; (focus (intro _; go_simp; (try go_ints); rfl)); (focus (go_simp; rfl))))
    refine wpOrd_nil (fun nq => ?_)
    have HK2 := Lib.hid (HKP.out.drewN nq)
    go_wp2_with fail
    go_ret2
    exact ⟨j, true, rfl, HSP.out, HK2.out⟩
   ·have f1 := less_no (fun h => nlt_irr _ (nlt_trans h hn) : ¬ NLt L[j].name k)
    have f2 : (L[j].name.toList == k.toList) = false := by
     rw [← beq_toListBytes]
     exact beq_false_of_ne (fun e => by rw [e] at hn; exact nlt_irr _ hn)
    have HSP := Lib.hid (spot_no HS.out hj HL.out (fun _ => hn))
    clear l0 hn
    go_wp2_with fail
    refine wp_region_ord [0,0,0,0,0,1,1,0,0,0,0,0,1,0,0,0,1,0,0,0,0,0] [0,1,2,3,4,5,6,7,8,9,10,11,13,17,20,12,14,15,16,18,19,21] (by kernel_rfl) (by kernel_rfl) ?_
    repeat (first
     | (apply wpOrd_skip rfl (by decide) rfl; (focus (go_simp; rfl)))
     | (apply wpOrd_pure rfl rfl rfl; (focus (intro _ _; go_simp; (try go_ints); rfl)); (focus (go_simp; rfl)))
     | (apply wpOrd_read rfl rfl rfl; (focus (intro _; go_simp; (try go_ints); rfl)); (focus (go_simp; rfl))))
    refine wpOrd_nil (fun nq => ?_)
    have HK2 := Lib.hid (HKP.out.drewN nq)
    go_wp2_with fail
    go_ret2
    exact ⟨j, false, rfl, HSP.out, HK2.out⟩
  ·obtain rfl : j = L.length := by omega
   have HSP := Lib.hid (spot_no HS.out hj HL.out (fun h => absurd h hlt))
   clear hlt
   go_wp2_with fail
   refine wp_region_ord [0,0,0,0,0,1,1,0,0,0,0,0,1,0,0,0,1,0,0,0,0,0] [0,1,2,3,4,5,6,7,8,9,10,11,13,17,20,12,14,15,16,18,19,21] (by kernel_rfl) (by kernel_rfl) ?_
   repeat (first
    | (apply wpOrd_skip rfl (by decide) rfl; (focus (go_simp; rfl)))
    | (apply wpOrd_pure rfl rfl rfl; (focus (intro _ _; go_simp; (try go_ints); rfl)); (focus (go_simp; rfl)))
    | (apply wpOrd_read rfl rfl rfl; (focus (intro _; go_simp; (try go_ints); rfl)); (focus (go_simp; rfl))))
   refine wpOrd_nil (fun nq => ?_)
   have HK2 := Lib.hid (HKP.out.drewN nq)
   go_wp2_with fail
   go_ret2
   exact ⟨L.length, false, rfl, HSP.out, HK2.out⟩
end Go.Proofs.YtdibkdgafidjgaaGreatDoor
namespace Go.Mer
open Go
def WaitsFor (ops : Array Oper) (z i : Nat) : Prop := ∀ o, ops[z]? = some o → ∃ e ∈ o.after, Region.binds .any e = true ∧ e.on = i
def waitsB (ops : Array Oper) (z i : Nat) : Bool := match ops[z]? with
 | some o => o.after.any fun e => Region.binds .any e && e.on == i
 | none => true
theorem waitsB_spec {ops : Array Oper} {z i : Nat} (h : waitsB ops z i = true) : WaitsFor ops z i := fun o ho => by
 unfold waitsB at h
 rw [ho] at h
 obtain ⟨e, he, hb⟩ := Array.any_eq_true'.1 h
 simp only [Bool.and_eq_true, beq_iff_eq] at hb
 exact ⟨e, he, hb.1, hb.2⟩
theorem push_fold (f : Array Bool → Nat → Bool) : ∀ (l : List Nat) (acc : Array Bool), (l.foldl (fun acc j => acc.push (f acc j)) acc).size = acc.size + l.length
 | [], acc => by simp
 | x :: l, acc => by
  rw [List.foldl_cons, push_fold f l, Array.size_push, List.length_cons]
  omega
theorem depsOn_size (ops : Array Oper) (i : Nat) : (depsOn ops i).size = ops.size := by
 have h := push_fold (fun acc j => match ops[j]? with
  | some o => o.after.any fun e => Region.binds .any e && (e.on == i || acc.getD e.on false)
  | none => false) (List.range ops.size) #[]
 simp only [List.length_range, List.size_toArray, List.length_nil, Nat.zero_add] at h
 exact h
section
variable {P : Program} {ops : Array Oper} {Q : Exit → Act → World → Prop} {S : World → Prop} {ks : List Nat} {z : Nat}
def anyL (P : Program) (ops : Array Oper) (ks : List Nat) (z : Nat) (S : World → Prop) (Q : Exit → Act → World → Prop) : Nat → Array Bool → Act → World → Prop
 | 0, listed, a, w => Region.ready .any ops listed = [] ∧ ∀ n, Q .normal a (w.drewN n)
 | fuel + 1, listed, a, w =>
  (Region.ready .any ops listed = [] → ∀ n, Q .normal a (w.drewN n)) ∧
  ∀ i ∈ Region.ready .any ops listed, ∀ o, ops[i]? = some o →
   if ks.getD i 2 = 2 then ∀ n, wpOp P ops Q i (fun a' w' => (i = z ∨ S w') ∧ anyL P ops ks z S Q fuel (listed.setIfInBounds i true) a' w') a (w.drewN n)
   else ∃ v, YieldsIn P ops (Dr w) o v a ∧ anyL P ops ks z S Q fuel (listed.setIfInBounds i true) (a.put o.dst v) w
theorem wpAny_of_anyL : ∀ (fuel : Nat) (listed : Array Bool) (a : Act) (w : World) (n : Nat), anyL P ops ks z S Q fuel listed a w → wpAny P .any ops Q fuel listed a (w.drewN n)
 | 0, _, _, _, n, h => ⟨h.1, h.2 n⟩
 | fuel + 1, listed, a, w, n, h => by
  refine ⟨fun h0 => h.1 h0 n, fun i hi => ?_⟩
  obtain ⟨_, o, ho, _⟩ := mem_ready.1 hi
  have h2 := h.2 i hi o ho
  split at h2
  ·exact wpOp_mono (fun a w hh => wpAny_of_anyL fuel _ a w 0 hh.2) (h2 n)
  ·obtain ⟨v, hy, hk⟩ := h2
   exact wpOp_of_qOp (C := Dr w) (K := fun a => anyL P ops ks z S Q fuel (listed.setIfInBounds i true) a w) ⟨n, rfl⟩ (fun a' w' ⟨m, hw'⟩ hh => by subst hw'; exact wpAny_of_anyL fuel _ a' w m hh) (hy.qOp ho hk)
theorem anyL_held {i : Nat} {oi : Oper} {v : Value} (hz : WaitsFor ops z i) (hSd : ∀ w n, S w → S (w.drewN n)) (hi : ops[i]? = some oi) (hki : ks.getD i 2 ≠ 2) (hsel : ∀ (j : Nat) (o : Oper) cs b, ops[j]? = some o → o.op ≠ .select cs b)
  (hQ : ∀ c a w, Q (.panic c) (a.put oi.dst v) w → Q (.panic c) a w) :
  ∀ (fuel : Nat) (listed : Array Bool) (a : Act) (w : World), S w →
   (∀ j oj, ops[j]? = some oj → j ≠ i → listed.getD j true = false → (∀ e ∈ oj.after, Region.binds .any e = true → e.on ≠ i) → oi.apart ops oj = true) →
   i ∈ Region.ready .any ops listed → YieldsIf P ops S oi v a →
   anyL P ops ks z S Q fuel (listed.setIfInBounds i true) (a.put oi.dst v) w → anyL P ops ks z S Q (fuel + 1) listed a w := by
 intro fuel
 induction fuel with
 | zero =>
  intro listed a w hS _ hr hy H
  refine ⟨fun h => (by rw [h] at hr; cases hr), fun j hj o ho => ?_⟩
  by_cases hji : j = i
  ·subst hji
   rw [hi] at ho; injection ho with ho; subst ho
   rw [if_neg hki]
   exact ⟨v, yieldsIn_of_if (fun n => hSd w n hS) hy, H⟩
  ·have := ready_mono hj hji
   rw [H.1] at this
   cases this
 | succ fuel ih =>
  intro listed a w hS hfree hr hy H
  refine ⟨fun h => (by rw [h] at hr; cases hr), fun j hj o ho => ?_⟩
  by_cases hji : j = i
  ·subst hji
   rw [hi] at ho; injection ho with ho; subst ho
   rw [if_neg hki]
   exact ⟨v, yieldsIn_of_if (fun n => hSd w n hS) hy, H⟩
  ·have h1 := H.2 j (ready_mono hj hji) o ho
   obtain ⟨hjun, oj, hoj, hall⟩ := mem_ready.1 hj
   rw [ho] at hoj; injection hoj with hoj; subst hoj
   have hnot : ∀ e ∈ o.after, Region.binds .any e = true → e.on ≠ i := fun e he hb heq => by
    have h1 := hall e he hb
    have h0 := (mem_ready.1 hr).1
    rw [heq] at h1
    rcases Nat.lt_or_ge i listed.size with h' | h'
    ·simp [h'] at h0 h1; rw [h0] at h1; cases h1
    ·simp [Array.getElem?_eq_none h'] at h1
   have hjz : j ≠ z := fun e => by
    subst e
    obtain ⟨e, he, hb, hon⟩ := hz o ho
    exact hnot e he hb hon
   have hap := hfree j o ho hji hjun hnot
   have hfree' : ∀ k ok, ops[k]? = some ok → k ≠ i → (listed.setIfInBounds j true).getD k true = false →
     (∀ e ∈ ok.after, Region.binds .any e = true → e.on ≠ i) → oi.apart ops ok = true := fun k ok hk hki hun hno => by
    refine hfree k ok hk hki ?_ hno
    by_cases hjk : j = k
    ·subst hjk; exact hjun
    ·rw [getD_set_ne true hjk] at hun; exact hun
   have hcm : (listed.setIfInBounds i true).setIfInBounds j true = (listed.setIfInBounds j true).setIfInBounds i true := Array.setIfInBounds_comm _ _ (fun e => hji e.symm)
   by_cases hk2 : ks.getD j 2 = 2
   ·rw [if_pos hk2] at h1 ⊢
    intro n
    have h2 := wpOp_putIf ho hap (fun cs b => hsel i oi cs b hi) (fun cs b => hsel j o cs b ho) hQ hy (h1 n)
    refine wpOp_mono (fun a' w' h3 => ⟨h3.2.1, ih (listed.setIfInBounds j true) a' w' (h3.2.1.resolve_left hjz) hfree' (ready_mono hr (Ne.symm hji)) h3.1 ?_⟩) h2
    rw [← hcm]
    exact h3.2.2
   ·rw [if_neg hk2] at h1 ⊢
    obtain ⟨u, hu, hK⟩ := h1
    obtain ⟨a1, a2, a3⟩ := Oper.apart_spec hap
    refine ⟨u, hu.of_same (execOp_put o (fun cs b => hsel j o cs b ho) a oi.dst v a1).symm (wanted_put o a oi.dst v a1).symm, ?_⟩
    refine ih (listed.setIfInBounds j true) _ w hS hfree' (ready_mono hr (Ne.symm hji))
     (hy.of_same (execOp_put oi (fun cs b => hsel i oi cs b hi) a o.dst u a3) (wanted_put oi a o.dst u a3)) ?_
    rw [← hcm, ← Act.put_comm a v u a2]
    exact hK
theorem anyL_held2 {i : Nat} {oi : Oper} {v : Value} {dep : Array Bool} (hz : dep.getD z false = true) (hSd : ∀ w n, S w → S (w.drewN n)) (hi : ops[i]? = some oi) (hki : ks.getD i 2 ≠ 2) (hsel : ∀ (j : Nat) (o : Oper) cs b, ops[j]? = some o → o.op ≠ .select cs b)
  (hQ : ∀ c a w, Q (.panic c) (a.put oi.dst v) w → Q (.panic c) a w) :
  ∀ (fuel : Nat) (listed : Array Bool) (a : Act) (w : World), S w →
   (∀ j oj, ops[j]? = some oj → j ≠ i → listed.getD j true = false → (∀ e ∈ oj.after, Region.binds .any e = true → e.on ≠ i) → oi.apart ops oj = true) →
   (∀ j, dep.getD j false = true → j ≠ i ∧ listed.getD j true = false ∧ ∃ o, ops[j]? = some o ∧ ∃ e ∈ o.after, Region.binds .any e = true ∧ (e.on = i ∨ dep.getD e.on false = true)) →
   i ∈ Region.ready .any ops listed → YieldsIf P ops S oi v a →
   anyL P ops ks z S Q fuel (listed.setIfInBounds i true) (a.put oi.dst v) w → anyL P ops ks z S Q (fuel + 1) listed a w := by
 intro fuel
 induction fuel with
 | zero =>
  intro listed a w hS _ _ hr hy H
  refine ⟨fun h => (by rw [h] at hr; cases hr), fun j hj o ho => ?_⟩
  by_cases hji : j = i
  ·subst hji
   rw [hi] at ho; injection ho with ho; subst ho
   rw [if_neg hki]
   exact ⟨v, yieldsIn_of_if (fun n => hSd w n hS) hy, H⟩
  ·have := ready_mono hj hji
   rw [H.1] at this
   cases this
 | succ fuel ih =>
  intro listed a w hS hfree hdep hr hy H
  refine ⟨fun h => (by rw [h] at hr; cases hr), fun j hj o ho => ?_⟩
  by_cases hji : j = i
  ·subst hji
   rw [hi] at ho; injection ho with ho; subst ho
   rw [if_neg hki]
   exact ⟨v, yieldsIn_of_if (fun n => hSd w n hS) hy, H⟩
  ·have h1 := H.2 j (ready_mono hj hji) o ho
   obtain ⟨hjun, oj, hoj, hall⟩ := mem_ready.1 hj
   rw [ho] at hoj; injection hoj with hoj; subst hoj
   have hnot : ∀ e ∈ o.after, Region.binds .any e = true → e.on ≠ i := fun e he hb heq => by
    have h1 := hall e he hb
    have h0 := (mem_ready.1 hr).1
    rw [heq] at h1
    rcases Nat.lt_or_ge i listed.size with h' | h'
    ·simp [h'] at h0 h1; rw [h0] at h1; cases h1
    ·simp [Array.getElem?_eq_none h'] at h1
   have unl : ∀ k, listed.getD k true = false → listed.getD k false = true → False := fun k h0 h1 => by
    rcases Nat.lt_or_ge k listed.size with h' | h'
    ·simp [h'] at h0 h1; rw [h0] at h1; cases h1
    ·simp [Array.getElem?_eq_none h'] at h1
   have hnd : dep.getD j false = false := by
    cases hd : dep.getD j false with
    | false => rfl
    | true =>
     obtain ⟨_, _, o', ho', e, he, hb, h⟩ := hdep j hd
     rw [ho] at ho'; injection ho' with ho'; subst ho'
     rcases h with h | h
     ·exact absurd h (hnot e he hb)
     ·exact (unl e.on (hdep e.on h).2.1 (hall e he hb)).elim
   have hjz : j ≠ z := fun e => by
    subst e
    rw [hz] at hnd
    cases hnd
   have hdep' : ∀ k, dep.getD k false = true → k ≠ i ∧ (listed.setIfInBounds j true).getD k true = false ∧ ∃ o, ops[k]? = some o ∧ ∃ e ∈ o.after, Region.binds .any e = true ∧ (e.on = i ∨ dep.getD e.on false = true) := fun k hk => by
    obtain ⟨k1, k2, k3⟩ := hdep k hk
    refine ⟨k1, ?_, k3⟩
    rw [getD_set_ne true (fun e => by subst e; rw [hnd] at hk; cases hk)]
    exact k2
   have hap := hfree j o ho hji hjun hnot
   have hfree' : ∀ k ok, ops[k]? = some ok → k ≠ i → (listed.setIfInBounds j true).getD k true = false →
     (∀ e ∈ ok.after, Region.binds .any e = true → e.on ≠ i) → oi.apart ops ok = true := fun k ok hk hki hun hno => by
    refine hfree k ok hk hki ?_ hno
    by_cases hjk : j = k
    ·subst hjk; exact hjun
    ·rw [getD_set_ne true hjk] at hun; exact hun
   have hcm : (listed.setIfInBounds i true).setIfInBounds j true = (listed.setIfInBounds j true).setIfInBounds i true := Array.setIfInBounds_comm _ _ (fun e => hji e.symm)
   by_cases hk2 : ks.getD j 2 = 2
   ·rw [if_pos hk2] at h1 ⊢
    intro n
    have h2 := wpOp_putIf ho hap (fun cs b => hsel i oi cs b hi) (fun cs b => hsel j o cs b ho) hQ hy (h1 n)
    refine wpOp_mono (fun a' w' h3 => ⟨h3.2.1, ih (listed.setIfInBounds j true) a' w' (h3.2.1.resolve_left hjz) hfree' hdep' (ready_mono hr (Ne.symm hji)) h3.1 ?_⟩) h2
    rw [← hcm]
    exact h3.2.2
   ·rw [if_neg hk2] at h1 ⊢
    obtain ⟨u, hu, hK⟩ := h1
    obtain ⟨a1, a2, a3⟩ := Oper.apart_spec hap
    refine ⟨u, hu.of_same (execOp_put o (fun cs b => hsel j o cs b ho) a oi.dst v a1).symm (wanted_put o a oi.dst v a1).symm, ?_⟩
    refine ih (listed.setIfInBounds j true) _ w hS hfree' hdep' (ready_mono hr (Ne.symm hji))
     (hy.of_same (execOp_put oi (fun cs b => hsel i oi cs b hi) a o.dst u a3) (wanted_put oi a o.dst u a3)) ?_
    rw [← hcm, ← Act.put_comm a v u a2]
    exact hK
theorem anyL_quiet {w : World} {i : Nat} {oi : Oper} {v : Value} {dep : Array Bool} (hi : ops[i]? = some oi) (hki : ks.getD i 2 ≠ 2) (hsel : ∀ (j : Nat) (o : Oper) cs b, ops[j]? = some o → o.op ≠ .select cs b) :
  ∀ (fuel : Nat) (listed : Array Bool) (a : Act),
   (∀ j oj, ops[j]? = some oj → j ≠ i → listed.getD j true = false → (∀ e ∈ oj.after, Region.binds .any e = true → e.on ≠ i) → oi.apart ops oj = true) →
   (∀ j, dep.getD j false = true → j ≠ i ∧ listed.getD j true = false ∧ ∃ o, ops[j]? = some o ∧ ∃ e ∈ o.after, Region.binds .any e = true ∧ (e.on = i ∨ dep.getD e.on false = true)) →
   (∀ j oj, ops[j]? = some oj → dep.getD j false = false → j ≠ i → listed.getD j true = false → ks.getD j 2 ≠ 2) →
   i ∈ Region.ready .any ops listed → YieldsIn P ops (Dr w) oi v a →
   anyL P ops ks z S Q fuel (listed.setIfInBounds i true) (a.put oi.dst v) w → anyL P ops ks z S Q (fuel + 1) listed a w := by
 intro fuel
 induction fuel with
 | zero =>
  intro listed a _ _ _ hr hy H
  refine ⟨fun h => (by rw [h] at hr; cases hr), fun j hj o ho => ?_⟩
  by_cases hji : j = i
  ·subst hji
   rw [hi] at ho; injection ho with ho; subst ho
   rw [if_neg hki]
   exact ⟨v, hy, H⟩
  ·have := ready_mono hj hji
   rw [H.1] at this
   cases this
 | succ fuel ih =>
  intro listed a hfree hdep hkind hr hy H
  refine ⟨fun h => (by rw [h] at hr; cases hr), fun j hj o ho => ?_⟩
  by_cases hji : j = i
  ·subst hji
   rw [hi] at ho; injection ho with ho; subst ho
   rw [if_neg hki]
   exact ⟨v, hy, H⟩
  ·have h1 := H.2 j (ready_mono hj hji) o ho
   obtain ⟨hjun, oj, hoj, hall⟩ := mem_ready.1 hj
   rw [ho] at hoj; injection hoj with hoj; subst hoj
   have unl : ∀ k, listed.getD k true = false → listed.getD k false = true → False := fun k h0 h1 => by
    rcases Nat.lt_or_ge k listed.size with h' | h'
    ·simp [h'] at h0 h1; rw [h0] at h1; cases h1
    ·simp [Array.getElem?_eq_none h'] at h1
   have hnot : ∀ e ∈ o.after, Region.binds .any e = true → e.on ≠ i := fun e he hb heq =>
    unl i (mem_ready.1 hr).1 (heq ▸ hall e he hb)
   have hnd : dep.getD j false = false := by
    cases hd : dep.getD j false with
    | false => rfl
    | true =>
     obtain ⟨_, _, o', ho', e, he, hb, h⟩ := hdep j hd
     rw [ho] at ho'; injection ho' with ho'; subst ho'
     rcases h with h | h
     ·exact absurd h (hnot e he hb)
     ·exact (unl e.on (hdep e.on h).2.1 (hall e he hb)).elim
   have hap := hfree j o ho hji hjun hnot
   have hset : ∀ k, (listed.setIfInBounds j true).getD k true = false → listed.getD k true = false := fun k hun => by
    by_cases hjk : j = k
    ·subst hjk; exact hjun
    ·rw [getD_set_ne true hjk] at hun; exact hun
   have hfree' : ∀ k ok, ops[k]? = some ok → k ≠ i → (listed.setIfInBounds j true).getD k true = false →
     (∀ e ∈ ok.after, Region.binds .any e = true → e.on ≠ i) → oi.apart ops ok = true := fun k ok hk hki hun hno => hfree k ok hk hki (hset k hun) hno
   have hcm : (listed.setIfInBounds i true).setIfInBounds j true = (listed.setIfInBounds j true).setIfInBounds i true := Array.setIfInBounds_comm _ _ (fun e => hji e.symm)
   have hk2 := hkind j o ho hnd hji hjun
   rw [if_neg hk2] at h1 ⊢
   obtain ⟨u, hu, hK⟩ := h1
   obtain ⟨a1, a2, a3⟩ := Oper.apart_spec hap
   refine ⟨u, hu.of_same (execOp_put o (fun cs b => hsel j o cs b ho) a oi.dst v a1).symm (wanted_put o a oi.dst v a1).symm, ?_⟩
   refine ih (listed.setIfInBounds j true) _ hfree' (fun k hk => ?_) (fun k ok hk h1 h2 h3 => hkind k ok hk h1 h2 (hset k h3)) (ready_mono hr (Ne.symm hji))
    (hy.of_same (execOp_put oi (fun cs b => hsel i oi cs b hi) a o.dst u a3) (wanted_put oi a o.dst u a3)) ?_
   ·obtain ⟨k1, k2, k3⟩ := hdep k hk
    refine ⟨k1, ?_, k3⟩
    rw [getD_set_ne true (fun e => by subst e; rw [hnd] at hk; cases hk)]
    exact k2
   ·rw [← hcm, ← Act.put_comm a v u a2]
    exact hK
def depsHold (ops : Array Oper) (listed dep : Array Bool) (i z : Nat) : Bool :=
 dep.getD z false && (List.range ops.size).all fun j =>
  !dep.getD j false || (j != i && !listed.getD j true && match ops[j]? with
   | some o => o.after.any fun e => Region.binds .any e && (e.on == i || dep.getD e.on false)
   | none => false)
theorem depsHold_spec {listed : Array Bool} {i : Nat} (hk : depsHold ops listed (depsOn ops i) i z = true) : (depsOn ops i).getD z false = true ∧
  ∀ j, (depsOn ops i).getD j false = true → j ≠ i ∧ listed.getD j true = false ∧ ∃ o, ops[j]? = some o ∧ ∃ e ∈ o.after, Region.binds .any e = true ∧ (e.on = i ∨ (depsOn ops i).getD e.on false = true) := by
 simp only [depsHold, Bool.and_eq_true, List.all_eq_true, List.mem_range] at hk
 refine ⟨hk.1, fun j hj => ?_⟩
 have hjs : j < ops.size := by
  rcases Nat.lt_or_ge j (depsOn ops i).size with h' | h'
  ·have := depsOn_size ops i
   omega
  ·simp [Array.getElem?_eq_none h'] at hj
 have h1 := hk.2 j hjs
 rw [hj] at h1
 simp only [Bool.not_true, Bool.false_or, Bool.and_eq_true, bne_iff_ne, Bool.not_eq_true'] at h1
 obtain ⟨⟨h1, h2⟩, h3⟩ := h1
 refine ⟨h1, h2, ?_⟩
 split at h3
 ·rename_i oj hoj
  obtain ⟨e, he, hb⟩ := Array.any_eq_true'.1 h3
  simp only [Bool.and_eq_true, Bool.or_eq_true, beq_iff_eq] at hb
  exact ⟨oj, hoj, e, he, hb.1, hb.2⟩
 ·cases h3
def ordPre (ops : Array Oper) (ks : List Nat) (z : Nat) : List Nat → Array Bool → Bool
 | [], listed => Region.ready .any ops listed == [z] && ks.getD z 2 == 2 && (Region.ready .any ops (listed.setIfInBounds z true)).isEmpty
 | i :: rest, listed =>
  (Region.ready .any ops listed).contains i && Region.free .any ops listed i && i != z &&
  (match ks.getD i 2 with
   | 0 => waitsB ops z i || Region.ready .any ops listed == [i] || depsHold ops listed (depsOn ops i) i z
   | 1 => depsOk ops ks listed (depsOn ops i) i
   | 2 => Region.ready .any ops listed == [i]
   | _ => false) &&
  ordPre ops ks z rest (listed.setIfInBounds i true)
def lastOk (ops : Array Oper) (ks : List Nat) (z : Nat) (pre : List Nat) : Bool := Region.noSelect ops && pre.length + 1 == ops.size && ordPre ops ks z pre (Array.replicate ops.size false)
def onward (K : Act → World → Prop) : Exit → Act → World → Prop
 | .normal, a, w => K a w
 | _, _, _ => False
theorem wp_only2 {Q1 Q2 : Exit → Act → World → Prop} {o : Oper} {a : Act} {w : World} {K : Act → World → Prop} (h : o.wp P a w K (only Q1)) : o.wp P a w K Q2 := by
 unfold Oper.wp at *
 generalize (execOp a.eval o).run P w = r at *
 cases r with
 | ok n w' =>
  cases n <;> simp only [Oper.upon] at h ⊢
  case value => exact h
  case skip => exact h
  case defer => exact h
  case row => exact h
  case enter f args =>
   refine Calls.mono h fun e w'' he => ?_
   cases e with
   | returned v => exact he
   | panicked c => exact he.elim
   | outgrown => obtain ⟨_, _, h⟩ := he; exact h.elim
 | halt x w' => cases x <;> simp only [Oper.upon] at h ⊢; exact h.elim
theorem wpOp_only2 {Q1 Q2 : Exit → Act → World → Prop} {i : Nat} {K : Act → World → Prop} {a : Act} {w : World} (h : wpOp P ops (only Q1) i K a w) : wpOp P ops (only Q2) i K a w := by
 unfold wpOp at *
 split
 ·rename_i hn; simp only [hn] at h; exact h
 ·rename_i o ho
  simp only [ho] at h
  split
  ·rename_i hw
   simp only [hw, if_true] at h
   exact .inl (h.elim wp_only2 fun ⟨_, _, _, hh⟩ => hh.elim)
  ·rename_i hw; simp only [hw] at h; exact h
abbrev lastQ (P : Program) (ops : Array Oper) (ks : List Nat) (Q : Exit → Act → World → Prop) (z : Nat) : Exit → Act → World → Prop := onward fun a w => wpOrd P ops ks (fun _ => True) Q [z] a w
theorem anyL_of_pre (hSd : ∀ w n, S w → S (w.drewN n)) (hs : Region.noSelect ops = true) : ∀ (pre : List Nat) (listed : Array Bool) (a : Act) (w : World), S w →
  ordPre ops ks z pre listed = true → wpOrd P ops ks S (lastQ P ops ks Q z) pre a w → anyL P ops ks z S (only Q) (pre.length + 1) listed a w
 | [], listed, a, w, _, hB, h => by
  simp only [ordPre, Bool.and_eq_true, beq_iff_eq, List.isEmpty_iff] at hB
  obtain ⟨⟨hr, hk⟩, hB'⟩ := hB
  obtain ⟨o, ho, h⟩ := h 0
  rw [hk] at h
  refine ⟨fun h0 => (by rw [h0] at hr; cases hr), fun j hj oj hoj => ?_⟩
  rw [hr] at hj
  simp only [List.mem_singleton] at hj
  subst hj
  rw [ho] at hoj; injection hoj with hoj; subst hoj
  rw [if_pos hk]
  exact fun n => wpOp_mono (fun a w hh => ⟨.inl rfl, hB', hh.2⟩) (show wpOp P ops (only Q) j (fun a' w' => True ∧ wpOrd P ops ks (fun _ => True) Q [] a' w') a (w.drewN n) from h n)
 | i :: rest, listed, a, w, hS, hB, h => by
  obtain ⟨o, ho, h⟩ := h
  simp only [ordPre, Bool.and_eq_true] at hB
  obtain ⟨⟨⟨⟨hr, hf⟩, hiz⟩, hk⟩, hB'⟩ := hB
  have hready : i ∈ Region.ready .any ops listed := by simpa using hr
  have hko : ks.getD i 2 = 0 ∨ ks.getD i 2 = 1 ∨ ks.getD i 2 = 2 := by
   split at hk
   ·rename_i h; exact .inl h
   ·rename_i h; exact .inr (.inl h)
   ·rename_i h; exact .inr (.inr h)
   ·cases hk
  rcases hko with hko | hko | hko
  ·rw [hko] at h
   obtain ⟨v, hy, hK⟩ := h
   rw [hko] at hk
   simp only [Bool.or_eq_true, beq_iff_eq] at hk
   rcases hk with (hk | hk) | hk
   ·exact anyL_held (waitsB_spec hk) hSd ho (by omega) (Region.noSelect_spec hs) (fun _ _ _ h => h.elim) (rest.length + 1) listed a w hS (Region.free_spec ho hf) hready hy (anyL_of_pre hSd hs rest _ _ _ hS hB' hK)
   ·refine ⟨fun h0 => (by rw [h0] at hk; cases hk), fun j hj oj hoj => ?_⟩
    rw [hk] at hj
    simp only [List.mem_singleton] at hj
    subst hj
    rw [ho] at hoj; injection hoj with hoj; subst hoj
    rw [if_neg (by omega)]
    exact ⟨v, yieldsIn_of_if (fun n => hSd w n hS) hy, anyL_of_pre hSd hs rest _ _ _ hS hB' hK⟩
   ·exact anyL_held2 (depsHold_spec hk).1 hSd ho (by omega) (Region.noSelect_spec hs) (fun _ _ _ h => h.elim) (rest.length + 1) listed a w hS (Region.free_spec ho hf) (depsHold_spec hk).2 hready hy (anyL_of_pre hSd hs rest _ _ _ hS hB' hK)
  ·rw [hko] at h hk
   obtain ⟨v, hy, hK⟩ := h
   simp only [depsOk, List.all_eq_true, List.mem_range, Bool.and_eq_true] at hk
   have hlt : ∀ j oj, ops[j]? = some oj → j < ops.size := fun j oj h => (Array.getElem?_eq_some_iff.1 h).1
   refine anyL_quiet (dep := depsOn ops i) ho (by omega) (Region.noSelect_spec hs) (rest.length + 1) listed a (Region.free_spec ho hf) (fun j hj => ?_) (fun j oj hoj hd hne hun => ?_) hready hy (anyL_of_pre hSd hs rest _ _ _ hS hB' hK)
   ·have hjs : j < ops.size := by
     rcases Nat.lt_or_ge j (depsOn ops i).size with h' | h'
     ·have := depsOn_size ops i
      omega
     ·simp [Array.getElem?_eq_none h'] at hj
    have h1 := (hk j hjs).1
    rw [hj] at h1
    simp only [Bool.not_true, Bool.false_or, Bool.and_eq_true, bne_iff_ne, Bool.not_eq_true'] at h1
    obtain ⟨⟨h1, h2⟩, h3⟩ := h1
    refine ⟨h1, h2, ?_⟩
    split at h3
    ·rename_i oj hoj
     obtain ⟨e, he, hb⟩ := Array.any_eq_true'.1 h3
     simp only [Bool.and_eq_true, Bool.or_eq_true, beq_iff_eq] at hb
     exact ⟨oj, hoj, e, he, hb.1, hb.2⟩
    ·cases h3
   ·have h1 := (hk j (hlt j oj hoj)).2
    rw [hd] at h1
    simp only [Bool.false_or, Bool.or_eq_true, beq_iff_eq, bne_iff_ne] at h1
    rcases h1 with (h1 | h1) | h1
    ·exact absurd h1 hne
    ·rw [hun] at h1; cases h1
    ·exact h1
  ·rw [hko] at h hk
   have hk' : Region.ready .any ops listed = [i] := by simpa using hk
   refine ⟨fun h0 => (by rw [h0] at hk'; cases hk'), fun j hj oj hoj => ?_⟩
   rw [hk'] at hj
   simp only [List.mem_singleton] at hj
   subst hj
   rw [ho] at hoj; injection hoj with hoj; subst hoj
   rw [if_pos hko]
   exact fun n => wpOp_mono (fun a w hh => ⟨.inr hh.1, anyL_of_pre hSd hs rest _ a w hh.1 hB' hh.2⟩) (wpOp_only2 (h n))
theorem wp_region_last {id : Nat} {a : Act} {w : World} {l : List Oper} (S : World → Prop) (ks pre : List Nat) (z : Nat) (hm : P.follows .mixedOrders = true) (hB : lastOk l.toArray ks z pre = true)
  (hSd : ∀ w n, S w → S (w.drewN n)) (hS : S w) (h : wpOrd P l.toArray ks S (lastQ P l.toArray ks Q z) pre a w) : (Code.region id l.toArray true).wp P Q a w := by
 simp only [lastOk, Bool.and_eq_true, beq_iff_eq] at hB
 refine wp_region_any hm (wpAny_only _ _ _ _ ?_)
 have := wpAny_of_anyL _ (Array.replicate l.toArray.size false) a w 1 (anyL_of_pre hSd hB.1.1 pre _ a _ hS hB.2 h)
 rw [hB.1.2] at this
 exact this
theorem last_now {a : Act} {w : World} (h : ∀ n, wpOrd P ops ks (fun _ => True) Q [z] a (w.drewN n)) : wpOrd P ops ks S (lastQ P ops ks Q z) [] a w := h
end
end Go.Mer
namespace Go.Proofs.YtdibkdgafidjgaaGreatDoor
open Go.RowKit Go.Mer
structure RRun (w W : World) (r room : Nat) (left : Int) (rv : Value) (L : List RFile) (G : Nat → Prop) : Prop where
 c : RC W r room left rv L
 foot : ∀ k, RFP r rv L k → G k ∨ w.heap.size ≤ k
 kp : Kp G w W
section
variable {w W W' : World} {r room : Nat} {left left' : Int} {rv rv' : Value} {L L' L1 L2 : List RFile} {G : Nat → Prop} {f f' : RFile}
theorem RRun.step {S : Nat → Prop} (h : RRun w W r room left rv L G) (hk : Kp S W W') (hS : ∀ k, S k → RFP r rv L k ∨ W.heap.size ≤ k) (hc : RC W' r room left' rv' L') (hf : ∀ k, RFP r rv' L' k → RFP r rv L k ∨ W.heap.size ≤ k) : RRun w W' r room left' rv' L' G := by
 have hsz := h.kp.size
 refine ⟨hc, fun k hk' => ?_, h.kp.trans hk fun i hi hs => ?_⟩
 ·rcases hf k hk' with h1 | h1
  ·exact h.foot k h1
  ·exact .inr (Nat.le_trans hsz h1)
 ·rcases hS i hs with h1 | h1
  ·rcases h.foot i h1 with h2 | h2
   ·exact h2
   ·omega
  ·omega
theorem RRun.step2 {S : Nat → Prop} (h : RRun w W r room left rv L G) (hk : Kp S W W') (hS : ∀ k, S k → RFP r rv L k ∨ W.heap.size ≤ k) (hc : RC W' r room left' rv' L') (hf : ∀ k, RFP r rv' L' k → G k ∨ w.heap.size ≤ k) : RRun w W' r room left' rv' L' G := by
 have hsz := h.kp.size
 refine ⟨hc, hf, h.kp.trans hk fun i hi hs => ?_⟩
 rcases hS i hs with h1 | h1
 ·rcases h.foot i h1 with h2 | h2
  ·exact h2
  ·omega
 ·omega
theorem RRun.no (h : RRun w W r room left rv L G) (hk : Kp No W W') : RRun w W' r room left rv L G := h.step hk (fun _ x => x.elim) (h.c.keep_no hk) (fun _ x => .inl x)
theorem RRun.start {s : DSt} (h : RAt w r s G) : ∃ rv L, RRun w w r s.room (leftOf s.fuse) rv L G ∧ (absR L).Perm s.files ∧ ∀ k, G k → k < w.heap.size := by
 obtain ⟨rv, L, h1, h2, h3, h4⟩ := h
 exact ⟨rv, L, ⟨h1, fun k hk => .inl (h3 k hk), Kp.refl _ _⟩, h2, h4⟩
theorem RRun.stop {q : Int} {s : DSt} (h : RRun w W r s.room (leftOf s.fuse) rv L G) (hp : (absR L).Perm s.files) : SaidR w r G (q, s) (.returned (.int .i64 q)) W :=
 ⟨rfl, RFP r rv L, ⟨rv, L, h.c, hp, fun _ x => x, h.c.lt⟩, h.foot, h.kp⟩
theorem RRun.setLeft (h : RRun w W r room left rv L G) (hc : RC W' r room left' rv L) (hk : Kp (One r) W W') : RRun w W' r room left' rv L G :=
 h.step hk (fun k (e : k = r) => .inl (.inl e)) hc (fun _ x => .inl x)
theorem RRun.turn (h : RRun w W r room left rv (L1 ++ f :: L2) G) (hn : f'.name = f.name) (hk : Kp (fun k => rv.ownBlock = some k) W W') (hrow : Own W' 108 3 rv (L1 ++ f' :: L2).length ((L1 ++ f' :: L2).flatMap RFile.cells)) (hok : RFileOk W' f')
  (hfo : ∀ g, f'.val.ownBlock = some g → f.val.ownBlock = some g ∨ W.heap.size ≤ g) (hfit : totF (absR (L1 ++ f' :: L2)) ≤ room) : RRun w W' r room left rv (L1 ++ f' :: L2) G := by
 have hc := h.c
 have hlen : (L1 ++ f' :: L2).length = (L1 ++ f :: L2).length := by simp
 have hother : ∀ g, g ∈ L1 ∨ g ∈ L2 → RFileOk W' g := fun g hg => by
  have hg' : g ∈ L1 ++ f :: L2 := by rcases hg with hg | hg <;> simp [hg]
  exact (hc.files g hg').keep hk fun k hk1 hk2 => (hc.data_ne hg' hk1).2 hk2
 refine h.step hk (fun k hk' => .inl (.inr (.inl hk'))) ⟨hk.get hc.cell fun hr => hc.row_ne hr rfl, hrow, fun g hg => ?_, sorted_turn hc.sorted hn, hfit, hc.roomy, by rw [hlen]; exact hc.few, hc.left0, hc.leftM⟩ fun k hk' => ?_
 ·rcases List.mem_append.1 hg with hg | hg
  ·exact hother g (.inl hg)
  ·rcases List.mem_cons.1 hg with rfl | hg
   ·exact hok
   ·exact hother g (.inr hg)
 ·rcases hk' with hk' | hk' | ⟨g, hg, hk'⟩
  ·exact .inl (.inl hk')
  ·exact .inl (.inr (.inl hk'))
  ·rcases List.mem_append.1 hg with hg | hg
   ·exact .inl (.inr (.inr ⟨g, by simp [hg], hk'⟩))
   ·rcases List.mem_cons.1 hg with rfl | hg
    ·rcases hfo k hk' with h1 | h1
     ·exact .inl (.inr (.inr ⟨f, by simp, h1⟩))
     ·exact .inr h1
    ·exact .inl (.inr (.inr ⟨g, by simp [hg], hk'⟩))
theorem RRun.row (h : RRun w W r room left rv L G) (hk : Kp (One r) W W') (hcell : W'.heap[r]? = some (.cells #[.int .i64 (room : Int), rv', .int .i64 left] 83 (0, 0))) (hrow : Own W' 108 3 rv' L'.length (L'.flatMap RFile.cells))
  (hfresh : ∀ g, rv'.ownBlock = some g → RFP r rv L g ∨ W.heap.size ≤ g) (hfiles : ∀ f ∈ L', f ∈ L ∨ (RFileOk W' f ∧ ∀ g, f.val.ownBlock = some g → G g ∨ w.heap.size ≤ g)) (hs : SortedR L') (hfit : totF (absR L') ≤ room) (hfew : L'.length ≤ 4096) :
  RRun w W' r room left rv' L' G := by
 have hc := h.c
 refine h.step2 hk (fun k (e : k = r) => .inl (.inl e)) ⟨hcell, hrow, fun g hg => ?_, hs, hfit, hc.roomy, hfew, hc.left0, hc.leftM⟩ fun k hk' => ?_
 ·rcases hfiles g hg with h1 | ⟨h1, _⟩
  ·exact (hc.files g h1).keep hk fun k hk1 (e : k = r) => (hc.data_ne h1 hk1).1 e
  ·exact h1
 ·rcases hk' with hk' | hk' | ⟨g, hg, hk'⟩
  ·exact h.foot k (.inl hk')
  ·rcases hfresh k hk' with h1 | h1
   ·exact h.foot k h1
   ·exact .inr (Nat.le_trans h.kp.size h1)
  ·rcases hfiles g hg with h1 | ⟨_, h1⟩
   ·exact h.foot k (.inr (.inr ⟨g, h1, hk'⟩))
   ·exact h1 k hk'
theorem absR_append (L1 L2 : List RFile) : absR (L1 ++ L2) = absR L1 ++ absR L2 := by simp [absR]
theorem absR_cons (f : RFile) (L : List RFile) : absR (f :: L) = (f.name, ⟨f.data, f.lasts⟩) :: absR L := rfl
theorem totF_mid (L1 : List RFile) (f : RFile) (L2 : List RFile) : totF (absR (L1 ++ f :: L2)) = totF (absR (L1 ++ L2)) + f.data.length := by
 rw [absR_append, absR_cons, totF_append, totF_cons, absR_append, totF_append]
 simp only
 omega
theorem perm_turn {S : Files} (hs : SortedR (L1 ++ f :: L2)) (hp : (absR (L1 ++ f :: L2)).Perm S) (hn : f'.name = f.name) : (absR (L1 ++ f' :: L2)).Perm (gset S f.name ⟨f'.data, f'.lasts⟩) := by
 have h1 := gset_perm hp f.name (⟨f'.data, f'.lasts⟩ : FileS)
 have hk := hs.keys
 rw [absR_append, absR_cons] at h1 hk
 rw [gset_split hk] at h1
 rw [absR_append, absR_cons, hn]
 exact h1
theorem perm_put {S : Files} (hs : SortedR (L1 ++ f :: L2)) (hp : (absR (L1 ++ L2)).Perm S) : (absR (L1 ++ f :: L2)).Perm (gset S f.name ⟨f.data, f.lasts⟩) := by
 refine List.Perm.trans ?_ (gset_perm hp f.name (⟨f.data, f.lasts⟩ : FileS))
 have hk := hs.keys
 rw [absR_append, absR_cons] at hk ⊢
 rw [absR_append]
 refine gset_mid _ fun hm => ?_
 rw [List.map_append, List.map_cons, List.nodup_append] at hk
 rw [List.map_append] at hm
 rcases List.mem_append.1 hm with hm | hm
 ·exact hk.2.2 _ hm _ (List.mem_cons_self ..) rfl
 ·exact (List.nodup_cons.1 hk.2.1).1 hm
end
theorem infoRFile : (Tryz.prog.info? 108).map (fun i => ((i.zero.map fun z => z.cells.size), i.size, i.bytes)) = some (some 3, 3, 48) := by kernel_rfl
theorem row_set {W : World} {g off n cap : Nat} {L1 L2 : List RFile} {f f' : RFile} {j : Nat} {u : Value} (h : Own W 108 3 (.slice (some ⟨g, off, none⟩) n cap) n ((L1 ++ f :: L2).flatMap RFile.cells)) (hn : n = (L1 ++ f :: L2).length) (hj : j < 3) (hu : f.cells.set j u = f'.cells) :
  Own (W.setCell ⟨g, off + L1.length * 3 + j, none⟩ u) 108 3 (.slice (some ⟨g, off, none⟩) n cap) (L1 ++ f' :: L2).length ((L1 ++ f' :: L2).flatMap RFile.cells) := by
 have hlt : L1.length < (L1 ++ f :: L2).length := by simp
 have h1 := own_set h (L1.length * 3 + j) (by rw [hn]; simp; omega) u
 have hget : (L1 ++ f :: L2)[L1.length] = f := by simp
 rw [chunk_set RFile.cells 3 RFile.cells_len _ hlt hj (x := f') (by rw [hget]; exact hu)] at h1
 have hs : (L1 ++ f :: L2).set L1.length f' = L1 ++ f' :: L2 := by simp
 rw [hs] at h1
 rw [Nat.add_assoc]
 have e : n = (L1 ++ f' :: L2).length := by rw [hn]; simp
 rw [← e]
 exact h1
section
variable {w V W : World} {r room n rcap g off : Nat} {left : Int} {rv : Value} {L1 L2 : List RFile} {G : Nat → Prop} {f f' : RFile}
structure RCells (W : World) (r g off n rcap : Nat) (i : Nat) (f : RFile) : Prop where
 c1 : W.cell? ⟨r, 1, none⟩ = some (.slice (some ⟨g, off, none⟩) n rcap)
 d0 : W.cell? ⟨g, off + i * 3, none⟩ = some (.string f.name)
 d1 : W.cell? ⟨g, off + i * 3 + 1, none⟩ = some (.slice f.a f.data.length f.cap)
 d2 : W.cell? ⟨g, off + i * 3 + 2, none⟩ = some (.int .i64 (f.lasts : Int))
 fr : ∀ o, W.frozen? ⟨r, o, none⟩ = false
 fg : ∀ o, W.frozen? ⟨g, o, none⟩ = false
 rl : r < W.heap.size
 gl : g < W.heap.size
theorem RC.at_ (h : RC V r room left rv (L1 ++ f :: L2)) : ∃ g off rcap n, n = (L1 ++ f :: L2).length ∧ L1.length < n ∧ n ≤ rcap ∧ g ≠ r ∧ rv = .slice (some ⟨g, off, none⟩) n rcap ∧ ∀ W, Kp No V W → RCells W r g off n rcap L1.length f := by
 obtain ⟨ra, rcap, rfl, hrc, hrd⟩ := h.row.rd
 obtain ⟨g, off, rfl, hgl, _⟩ := h.row.place (by simp; omega)
 have hlt : L1.length < (L1 ++ f :: L2).length := by simp
 have hget : (L1 ++ f :: L2)[L1.length] = f := by simp
 obtain ⟨g', off', hg', hc⟩ := rd_chunk (f := RFile.cells) (c := 3) RFile.cells_len (by decide) hrd hlt
 injection hg' with hg'
 injection hg' with e1 e2
 subst e1; subst e2
 rw [hget] at hc
 refine ⟨g, off, rcap, _, rfl, hlt, hrc, h.row_ne rfl, rfl, fun W hW => ?_⟩
 have hC := h.keep_no hW
 obtain ⟨_, _, hgg, hgl2, hfz⟩ := hC.row.place (by simp; omega)
 injection hgg with hgg
 injection hgg with e1 _
 subst e1
 refine ⟨by rw [cell_at hC.cell]; rfl, ?_, hc W hW 1 _ rfl, hc W hW 2 _ rfl, fun o => free_at hC.cell o, hfz, get_lt hC.cell, hgl2⟩
 have := hc W hW 0 _ rfl
 rwa [Nat.add_zero] at this
theorem RRun.setAt (h : RRun w V r room left (.slice (some ⟨g, off, none⟩) n rcap) (L1 ++ f :: L2) G) (hn : n = (L1 ++ f :: L2).length) (hW : Kp No V W) (j : Nat) (u : Value) (hj : j < 3) (f' : RFile) (hu : f.cells.set j u = f'.cells) (hnm : f'.name = f.name) (hok : RFileOk W f')
  (hfo : ∀ k, f'.val.ownBlock = some k → f.val.ownBlock = some k ∨ V.heap.size ≤ k) (hfit : totF (absR (L1 ++ f' :: L2)) ≤ room) :
  RRun w (W.setCell ⟨g, off + L1.length * 3 + j, none⟩ u) r room left (.slice (some ⟨g, off, none⟩) n rcap) (L1 ++ f' :: L2) G := by
 have hC := h.c.keep_no hW
 have hs : Kp (One g) W (W.setCell ⟨g, off + L1.length * 3 + j, none⟩ u) := (Kp.refl (One g) _).setCell (p := ⟨g, off + L1.length * 3 + j, none⟩) (.inl rfl) u
 have hrow : Own W 108 3 (.slice (some ⟨g, off, none⟩) n rcap) n ((L1 ++ f :: L2).flatMap RFile.cells) := by have := hC.row; rwa [← hn] at this
 obtain ⟨cur, hcur⟩ := hrow.type g rfl
 refine h.turn hnm ((Kp.of_no hW).trans hs fun k _ (e : k = g) => by show some g = some k; rw [e]) (row_set hrow hn hj hu) (hok.keep hs fun k hk (e : k = g) => ?_) hfo hfit
 obtain ⟨cur', hcur'⟩ := hok.1.type k hk
 exact ne_of_type hcur' hcur (by decide) e
end
theorem row_cells {W : World} {g off n rcap : Nat} {L1 L2 : List RFile} {f : RFile} (h : Own W 108 3 (.slice (some ⟨g, off, none⟩) n rcap) n ((L1 ++ f :: L2).flatMap RFile.cells)) :
  W.cell? ⟨g, off + L1.length * 3, none⟩ = some (.string f.name) ∧ W.cell? ⟨g, off + L1.length * 3 + 1, none⟩ = some (.slice f.a f.data.length f.cap) ∧ W.cell? ⟨g, off + L1.length * 3 + 2, none⟩ = some (.int .i64 (f.lasts : Int)) := by
 have hlt : L1.length < (L1 ++ f :: L2).length := by simp
 have hget : (L1 ++ f :: L2)[L1.length] = f := by simp
 obtain ⟨g', off', hg', hc⟩ := rd_chunk (f := RFile.cells) (c := 3) RFile.cells_len (by decide) h.rd' hlt
 injection hg' with hg'
 injection hg' with e1 e2
 subst e1; subst e2
 rw [hget] at hc
 have h0 := hc W (Kp.refl _ _) 0 _ rfl
 rw [Nat.add_zero] at h0
 exact ⟨h0, hc W (Kp.refl _ _) 1 _ rfl, hc W (Kp.refl _ _) 2 _ rfl⟩
theorem RRun.setAt2 {w V W W1 W2 : World} {r room n rcap g off : Nat} {left : Int} {L1 L2 : List RFile} {G : Nat → Prop} {f f1 f2 : RFile} {u1 u2 : Value} {j1 j2 : Nat}
  (h : RRun w V r room left (.slice (some ⟨g, off, none⟩) n rcap) (L1 ++ f :: L2) G) (hn : n = (L1 ++ f :: L2).length) (hW : Kp No V W) (hj1 : j1 < 3) (hu1 : f.cells.set j1 u1 = f1.cells) (h1 : W1 = W.setCell ⟨g, off + L1.length * 3 + j1, none⟩ u1) (hW2 : Kp No W1 W2)
  (hj2 : j2 < 3) (hu2 : f1.cells.set j2 u2 = f2.cells) (hnm : f2.name = f.name) (hok : RFileOk W f2) (hfo : ∀ k, f2.val.ownBlock = some k → f.val.ownBlock = some k ∨ V.heap.size ≤ k) (hfit : totF (absR (L1 ++ f2 :: L2)) ≤ room) :
  RRun w (W2.setCell ⟨g, off + L1.length * 3 + j2, none⟩ u2) r room left (.slice (some ⟨g, off, none⟩) n rcap) (L1 ++ f2 :: L2) G := by
 have hC := h.c.keep_no hW
 have s1 : Kp (One g) W W1 := by rw [h1]; exact (Kp.refl (One g) _).setCell (p := ⟨g, off + L1.length * 3 + j1, none⟩) (.inl rfl) u1
 have s2 : Kp (One g) W2 (W2.setCell ⟨g, off + L1.length * 3 + j2, none⟩ u2) := (Kp.refl (One g) _).setCell (p := ⟨g, off + L1.length * 3 + j2, none⟩) (.inl rfl) u2
 have hall : Kp (One g) W (W2.setCell ⟨g, off + L1.length * 3 + j2, none⟩ u2) := (s1.trans_no hW2).trans_same s2
 have hrow : Own W 108 3 (.slice (some ⟨g, off, none⟩) n rcap) n ((L1 ++ f :: L2).flatMap RFile.cells) := by have := hC.row; rwa [← hn] at this
 obtain ⟨cur, hcur⟩ := hrow.type g rfl
 have hr1 := row_set hrow hn hj1 hu1
 rw [← h1] at hr1
 have e1 : (L1 ++ f1 :: L2).length = n := by rw [hn]; simp
 rw [e1] at hr1
 have hr2 := row_set (hr1.keep hW2 fun _ _ x => x) e1.symm hj2 hu2
 refine h.turn hnm ((Kp.of_no hW).trans hall fun k _ (e : k = g) => by show some g = some k; rw [e]) hr2 (hok.keep hall fun k hk (e : k = g) => ?_) hfo hfit
 obtain ⟨cur', hcur'⟩ := hok.1.type k hk
 exact ne_of_type hcur' hcur (by decide) e
theorem RRun.laid {w V w9 : World} {r room N c9 : Nat} {left : Int} {rv : Value} {a9 : Option Addr} {L Q : List RFile} {G : Nat → Prop} (h : RRun w V r room left rv L G) (hm : RowRel 108 3 RFile.cells V w9 (.slice a9 N c9) N Q)
  (hfiles : ∀ f ∈ Q, f ∈ L ∨ (RFileOk w9 f ∧ ∀ g, f.val.ownBlock = some g → G g ∨ w.heap.size ≤ g)) (hs : SortedR Q) (hfit : totF (absR Q) ≤ room) (hfew : Q.length ≤ 4096) :
  RRun w (w9.setCell ⟨r, 1, none⟩ (.slice a9 N c9)) r room left (.slice a9 N c9) Q G ∧ w9.cell? ⟨r, 1, none⟩ = some rv ∧ w9.frozen? ⟨r, 1, none⟩ = false ∧ r < w9.heap.size := by
 have hk9 := hm.2.2.2
 have hc9 := (h.c.keep_no hk9).cell
 have hs9 : Kp (One r) w9 (w9.setCell ⟨r, 1, none⟩ (.slice a9 N c9)) := (Kp.refl (One r) _).setCell (p := ⟨r, 1, none⟩) (.inl rfl) _
 have hrl : r < V.heap.size := get_lt h.c.cell
 refine ⟨h.row ((Kp.of_no hk9).trans_same hs9) ?_ ?_ (fun g hg => .inr (hm.2.2.1 g hg)) (fun f hf => ?_) hs hfit hfew, ?_, free_at hc9 _, get_lt hc9⟩
 ·have := set_at hc9 1 (.slice a9 N c9)
  simpa using this
 ·have h1 := hm.2.1.keep hs9 fun g hg (e : g = r) => by have := hm.2.2.1 g hg; omega
  have e := hm.1
  rw [e] at h1 ⊢
  exact h1
 ·rcases hfiles f hf with h1 | ⟨h1, h2⟩
  ·exact .inl h1
  ·refine .inr ⟨h1.keep hs9 fun g hg (e : g = r) => ?_, h2⟩
   obtain ⟨cur, hcur⟩ := h1.1.type g hg
   exact ne_of_type hcur hc9 (by decide) e
 ·rw [cell_at hc9]
  rfl
theorem five9 {s : DSt} (h : s.fuse = some 0) (ns : List ByteArray) (c : Int) (fs : Files) : five s ns c fs = (9, s) := by simp [five, h]
theorem five1 {s : DSt} (h : s.fuse ≠ some 0) {ns : List ByteArray} (hn : ns.all nameOk = false) (c : Int) (fs : Files) : five s ns c fs = (1, s) := by simp [five, h, hn]
theorem fiveE {s : DSt} (h : s.fuse ≠ some 0) {ns : List ByteArray} (hn : ns.all nameOk = true) {c : Int} (hc : c ≠ 0) (fs : Files) : five s ns c fs = (c, s) := by simp [five, h, hn, hc]
theorem five0 {s : DSt} (h : s.fuse ≠ some 0) {ns : List ByteArray} (hn : ns.all nameOk = true) {c : Int} (hc : c = 0) (fs : Files) : five s ns c fs = (0, { s with fuse := s.fuse.map (· - 1), files := fs }) := by simp [five, h, hn, hc]
theorem left_zero (f : Option Nat) : leftOf f = 0 ↔ f = some 0 := by
 cases f with
 | none => simp [leftOf]
 | some n => simp [leftOf]
def mayQ (f : Option Nat) (ns : List ByteArray) : Int := if leftOf f = 0 then 9 else if ns.all nameOk = true then 0 else 1
theorem mayQ_cases (f : Option Nat) (ns : List ByteArray) : (f = some 0 ∧ mayQ f ns = 9) ∨ (f ≠ some 0 ∧ ns.all nameOk = false ∧ mayQ f ns = 1) ∨ (f ≠ some 0 ∧ ns.all nameOk = true ∧ mayQ f ns = 0) := by
 unfold mayQ
 by_cases h : f = some 0
 ·exact .inl ⟨h, if_pos ((left_zero f).2 h)⟩
 ·rw [if_neg (fun e => h ((left_zero f).1 e))]
  cases hn : ns.all nameOk with
  | false => exact .inr (.inl ⟨h, rfl, rfl⟩)
  | true => exact .inr (.inr ⟨h, rfl, rfl⟩)
end Go.Proofs.YtdibkdgafidjgaaGreatDoor

