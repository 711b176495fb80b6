/-
  Texts laid together: SIns, SInsert, RDisk, SSt.
-/
import Derived.Test.YtgnkmjeoaoongaaGreatDoorSa1
import Derived.Laws.IdiomCopy
import Derived.Lib.AppendZerosOnto
import Derived.Lib.Overlaps
import Derived.Laws.Externs
import Derived.Test.YtgnkmjeoaoongaaGreatDoorSa2
import Derived.Test.YtgnkmjeoaoongaaGreatDoorSa3
import Derived.Sort.Walk0
import Derived.Test.YtgnkmjeoaoongaaGreatDoorSa0
namespace Go.Mer
open Go Go.RowKit
section
variable {P : Program}
theorem run_copy_sz (w : World) (dT sT ty elem : TypeId) (sz g off dLen dCap : Nat) (a : Addr) (sLen sCap : Nat) (xs : List Value) (hu : P.underlying dT = some (.slice elem)) (hs : (P.info? elem).map (·.size) = some sz) (hn : xs.length = Nat.min sLen dLen * sz)
  (hsrc : ∀ j v, xs[j]? = some v → w.cell? (a.add j) = some v) {cur : Array Value} {t : TypeId} (hg : w.heap[g]? = some (.cells cur t (0, 0))) (hfit : off + xs.length ≤ cur.size) (h1 : ∀ v ∈ xs, v.oneCell' = true) :
  (Builtin.copy_ #[dT, sT] ty #[.slice (some ⟨g, off, none⟩) dLen dCap, .slice (some a) sLen sCap]).run P w = .ok (goInt (Nat.min sLen dLen)) (w.setCells g off xs) := by
 have hl := run_loadCells_list (P := P) w a xs hsrc
 have hst := run_storeCells_cells (P := P) g off xs 0 w (by
  intro j hj
  rw [Nat.add_zero, cell_at hg]
  simp; omega) (by intro j _; exact free_at hg _) h1
 cases hq : P.info? elem with
 | none => simp [hq] at hs
 | some i =>
  have hi : i.size = sz := by simpa [hq] using hs
  simp only [Nat.add_zero] at hst
  simp [Builtin.copy_, run_underlying hu, Builtin.lenOf, Builtin.firstCells, sizeOf, typeInfo, hq, hi, ← hn, hl, hst]
theorem wpList_copy_run {ops : Array Oper} {rest : List Oper} {o : Oper} {a : Act} {w : World} {Q : Exit → Act → World → Prop} {w' : World} {s x : Operand} {t t' : TypeId} {v xv v' : Value} (hgd : o.guard = none)
  (ho : o.op = .call { callee := .builtin .copy, args := #[s, x], argTypes := #[t, t'] }) (hs : a.eval s = v) (hx : a.eval x = xv)
  (hrun : (Builtin.copy_ #[t, t'] o.type #[v, xv]).run P w = .ok v' w') (h : wpList P ops Q rest (a.put o.dst v') w') : wpList P ops Q (o :: rest) a w :=
 wpList_plain hgd fun _ hK => by
  unfold Oper.wp execOp
  simp only [ho, resolve, invoke, builtin, Sem.run_bind, Sem.run_pure, Result.andThen_ok, List.map_toArray, List.map_cons, List.map_nil, hs, hx, hrun]
  exact hK _ _ h
end
theorem setCells_drewN (g n : Nat) : ∀ (l : List Value) (o : Nat) (w : World), (w.drewN n).setCells g o l = (w.setCells g o l).drewN n
 | [], _, _ => rfl
 | v :: l, o, w => by
  rw [World.setCells, World.setCells]
  exact setCells_drewN g n l (o + 1) (w.setCell ⟨g, o, none⟩ v)
theorem kp_setCells (g : Nat) : ∀ (l : List Value) (o : Nat) (a : World), Kp (One g) a (a.setCells g o l)
 | [], _, _ => Kp.refl _ _
 | u :: l, o, a => by
  have h1 : Kp (One g) a (a.setCell ⟨g, o, none⟩ u) := (Kp.refl (One g) a).setCell (p := ⟨g, o, none⟩) (.inl rfl) u
  have h2 := h1.trans_same (kp_setCells g l (o + 1) (a.setCell ⟨g, o, none⟩ u))
  simpa [World.setCells] using h2
theorem setCells_mid {w : World} {g off : Nat} {cur : Array Value} {e : TypeId} (hg : w.heap[g]? = some (.cells cur e (0, 0))) {X Y Z ys : List Value} (hc : cur.toList = X ++ (Y ++ Z)) (hX : off = X.length) (hY : ys.length = Y.length) :
  ∃ cur', (w.setCells g off ys).heap[g]? = some (.cells cur' e (0, 0)) ∧ cur'.toList = X ++ (ys ++ Z) ∧ cur'.size = cur.size := by
 have hsz : cur.size = X.length + (Y.length + Z.length) := by
  have := congrArg List.length hc
  simpa using this
 obtain ⟨cur', h1, h2, h3⟩ := setCells_block g e ys w off cur hg (by omega)
 refine ⟨cur', h1, ?_, h2⟩
 rw [h3, hc, hX, List.take_left' rfl, hY]
 have : X ++ (Y ++ Z) = (X ++ Y) ++ Z := by rw [List.append_assoc]
 rw [this, List.drop_left' (by rw [List.length_append]), List.append_assoc]
theorem own_splice {w : World} {e : TypeId} {sz g off n cap i : Nat} {xs news : List Value} (h : Own w e sz (.slice (some ⟨g, off, none⟩) n cap) n xs) (hi : i ≤ n) (hc : n + 1 ≤ cap) (hn : news.length = sz) :
  ∃ cur1, (w.setCells g (off + (i + 1) * sz) (xs.drop (i * sz))).heap[g]? = some (.cells cur1 e (0, 0)) ∧ off + (n + 1) * sz ≤ cur1.size ∧
  Own ((w.setCells g (off + (i + 1) * sz) (xs.drop (i * sz))).setCells g (off + i * sz) news) e sz (.slice (some ⟨g, off, none⟩) (n + 1) cap) (n + 1) (xs.take (i * sz) ++ (news ++ xs.drop (i * sz))) := by
 obtain ⟨hl, a, cap', hv, h1, h2, h3, h4⟩ := h
 injection hv with hv1 hv2 hv3
 subst hv3
 obtain ⟨g', off', cur, had, hg, hfit, hx⟩ := h4 ⟨g, off, none⟩ hv1.symm
 injection had with e1 e2
 subst e1; subst e2
 have m1 : i * sz ≤ n * sz := Nat.mul_le_mul_right _ hi
 have m2 : (n + 1) * sz ≤ cap * sz := Nat.mul_le_mul_right _ hc
 have m3 : (n + 1) * sz = n * sz + sz := by rw [Nat.add_mul, Nat.one_mul]
 have m4 : (i + 1) * sz = i * sz + sz := by rw [Nat.add_mul, Nat.one_mul]
 have hcl : cur.toList.length = cur.size := Array.length_toList
 obtain ⟨A, hA⟩ : ∃ A, A = xs.take (i * sz) := ⟨_, rfl⟩
 obtain ⟨B, hB⟩ : ∃ B, B = xs.drop (i * sz) := ⟨_, rfl⟩
 have hAB : xs = A ++ B := by rw [hA, hB, List.take_append_drop]
 have hAl : A.length = i * sz := by rw [hA, List.length_take]; omega
 have hBl : B.length = n * sz - i * sz := by rw [hB, List.length_drop, hl]
 obtain ⟨X, hX⟩ : ∃ X, X = cur.toList.take off := ⟨_, rfl⟩
 have hXl : X.length = off := by rw [hX, List.length_take]; omega
 obtain ⟨Z, hZ⟩ : ∃ Z, Z = (cur.toList.drop off).drop (n * sz) := ⟨_, rfl⟩
 have hZl : Z.length = cur.size - off - n * sz := by rw [hZ, List.length_drop, List.length_drop, hcl]
 have hcur : cur.toList = X ++ (A ++ (B ++ Z)) := by
  rw [← List.append_assoc A, ← hAB, hX, hZ, ← hx, List.take_append_drop, List.take_append_drop]
 rw [← hA, ← hB]
 obtain ⟨N, hN⟩ : ∃ N, N = (B ++ Z).take sz := ⟨_, rfl⟩
 obtain ⟨O, hO⟩ : ∃ O, O = ((B ++ Z).drop sz).take B.length := ⟨_, rfl⟩
 obtain ⟨R, hR⟩ : ∃ R, R = ((B ++ Z).drop sz).drop B.length := ⟨_, rfl⟩
 have hNl : N.length = sz := by rw [hN, List.length_take, List.length_append]; omega
 have hOl : O.length = B.length := by rw [hO, List.length_take, List.length_drop, List.length_append]; omega
 have hBZ : B ++ Z = N ++ (O ++ R) := by rw [hN, hO, hR, List.take_append_drop, List.take_append_drop]
 have hc1 : cur.toList = (X ++ (A ++ N)) ++ (O ++ R) := by rw [hcur, hBZ]; simp [List.append_assoc]
 obtain ⟨cur1, g1, l1, s1⟩ := setCells_mid (off := off + (i + 1) * sz) (ys := B) hg hc1 (by rw [List.length_append, List.length_append, hXl, hAl, hNl]; omega) hOl.symm
 have hc2 : cur1.toList = (X ++ A) ++ (N ++ (B ++ R)) := by rw [l1]; simp [List.append_assoc]
 obtain ⟨cur2, g2, l2, s2⟩ := setCells_mid (off := off + i * sz) (ys := news) g1 hc2 (by rw [List.length_append, hXl, hAl]) (by rw [hn, hNl])
 refine ⟨cur1, g1, by omega, by simp only [List.length_append, hAl, hBl, hn]; omega, some ⟨g, off, none⟩, cap, rfl, hc, h2, fun h => (by cases h), fun ad had => ?_⟩
 injection had with had
 subst had
 refine ⟨g, off, cur2, rfl, g2, by omega, ?_⟩
 have e3 : cur2.toList = X ++ ((A ++ (news ++ B)) ++ R) := by rw [l2]; simp [List.append_assoc]
 rw [e3, List.drop_left' hXl, List.take_left' (by simp only [List.length_append, hAl, hBl, hn]; omega)]
theorem own_grown {w : World} {e : TypeId} {sz n cap i : Nat} {A B Z news : List Value} {row : Array Value} (hr : row.toList = A ++ Z) (hA : A.length = i * sz) (hB : B.length = (n - i) * sz) (hi : i ≤ n) (hn : news.length = sz) (hc : n + 1 ≤ cap) (hm : cap ≤ maxLen) (hz : cap * sz ≤ row.size) :
  ∃ cur1, ((w.alloc (.cells row e)).setCells w.heap.size (i * sz) news).heap[w.heap.size]? = some (.cells cur1 e (0, 0)) ∧ (n + 1) * sz ≤ cur1.size ∧
  Own (((w.alloc (.cells row e)).setCells w.heap.size (i * sz) news).setCells w.heap.size ((i + 1) * sz) B) e sz (.slice (some ⟨w.heap.size, 0, none⟩) (n + 1) cap) (n + 1) (A ++ (news ++ B)) := by
 have hrl : row.size = A.length + Z.length := by
  have := congrArg List.length hr
  simpa using this
 have m2 : (n + 1) * sz ≤ cap * sz := Nat.mul_le_mul_right _ hc
 have m3 : (n + 1) * sz = n * sz + sz := by rw [Nat.add_mul, Nat.one_mul]
 have m4 : (i + 1) * sz = i * sz + sz := by rw [Nat.add_mul, Nat.one_mul]
 have m5 : i * sz + (n - i) * sz = n * sz := by rw [← Nat.add_mul]; congr 1; omega
 obtain ⟨N, hN⟩ : ∃ N, N = Z.take sz := ⟨_, rfl⟩
 obtain ⟨O, hO⟩ : ∃ O, O = (Z.drop sz).take B.length := ⟨_, rfl⟩
 obtain ⟨R, hR⟩ : ∃ R, R = (Z.drop sz).drop B.length := ⟨_, rfl⟩
 have hNl : N.length = sz := by rw [hN, List.length_take]; omega
 have hOl : O.length = B.length := by rw [hO, List.length_take, List.length_drop]; omega
 have hZ : Z = N ++ (O ++ R) := by rw [hN, hO, hR, List.take_append_drop, List.take_append_drop]
 rw [hZ] at hr
 obtain ⟨cur1, g1, l1, s1⟩ := setCells_mid (w := w.alloc (.cells row e)) (g := w.heap.size) (off := i * sz) (ys := news) (heap_alloc_new w _) hr hA.symm (by rw [hn, hNl])
 have hc2 : cur1.toList = (A ++ news) ++ (O ++ R) := by rw [l1]; simp [List.append_assoc]
 obtain ⟨cur2, g2, l2, s2⟩ := setCells_mid (off := (i + 1) * sz) (ys := B) g1 hc2 (by rw [List.length_append, hA, hn]; omega) hOl.symm
 refine ⟨cur1, g1, by omega, by simp only [List.length_append, hA, hB, hn]; omega, some ⟨w.heap.size, 0, none⟩, cap, rfl, hc, hm, fun h => (by cases h), fun ad had => ?_⟩
 injection had with had
 subst had
 refine ⟨w.heap.size, 0, cur2, rfl, g2, by omega, ?_⟩
 have e3 : cur2.toList = (A ++ (news ++ B)) ++ R := by rw [l2]; simp [List.append_assoc]
 rw [List.drop_zero, e3, List.take_left' (by simp only [List.length_append, hA, hB, hn]; omega)]
end Go.Mer
namespace Go.Proofs.YtgnkmjeoaoongaaGreatDoor
open Go.RowKit Go.Mer
def InsP (w : World) (a : Option Addr) (n cap i : Nat) (xs news : List Value) (e : Ending) (w' : World) : Prop :=
 ∃ a' c', e = .returned (.slice a' (n + 1) c') ∧ Own w' 44 6 (.slice a' (n + 1) c') (n + 1) (xs.take (i * 6) ++ (news ++ xs.drop (i * 6))) ∧ Kp (fun k => (Value.slice a n cap).ownBlock = some k) w w' ∧
  ((Value.slice a' (n + 1) c').ownBlock = (Value.slice a n cap).ownBlock ∨ ∃ g, (Value.slice a' (n + 1) c').ownBlock = some g ∧ w.heap.size ≤ g)
theorem wrap_succ (n : Nat) (h : n ≤ 1000000) : wrap64 ((n : Int) + 1) = ((n + 1 : Nat) : Int) := by
 rw [IntWalk.wrap64_in _ (by omega)]
 push_cast
 rfl
theorem k64 {k n i : Nat} (h : k = n + 1 - i) (hn : n ≤ 1000000) : k * 64 ≤ 281474976710656 := by omega
theorem kk_cast {k n i : Nat} (h : i + k = n + 1) : (k : Int) = (n : Int) + 1 - (i : Int) := by omega
theorem ver_sz : (Tryz.prog.info? 44).map (·.size) = some 6 := by kernel_rfl
set_option maxRecDepth 100000 in
set_option maxHeartbeats 400000 in
theorem Insert_any (w : World) (a : Option Addr) (n cap i : Nat) (xs : List Value) (hO : Own w 44 6 (.slice a n cap) n xs) (hi : i ≤ n) (hn : n ≤ 1000000) (h1 : ∀ u ∈ xs, u.oneCell' = true)
  (vb : Nat) (x : VerR) (t : TypeId) (hvb : w.heap[vb]? = some (.cells (verC x).toArray t (0, 0))) (hne : (Value.slice a n cap).ownBlock ≠ some vb) :
  Calls Tryz.prog 192 #[.slice a n cap, .int .i64 (i : Int), .slice (some ⟨vb, 0, none⟩) 1 1] w (InsP w a n cap i xs (verC x)) := by
 obtain ⟨hl, a0, cap0, ev, hnc, hcm, hnil, hblk⟩ := id hO
 injection ev with ev1 ev2 ev3
 clear ev2
 subst ev1; subst ev3
 have hsrc : Mer.Src w 6 (.slice (some ⟨vb, 0, none⟩) 1 1) 1 (verC x) := by
  have := one_src (f := verC) verC_len hvb (x := x) rfl
  simpa using this
 have hcm2 : cap ≤ 9223372036854775807 := by unfold maxLen at hcm; omega
 by_cases hin : i = n
 ·subst hin
  obtain ⟨i0, hi0, hz⟩ := Option.map_eq_some_iff.1 infoVer
  injection hz with hz0 hz
  injection hz with hz1 hz2
  obtain ⟨z, hz, hz3⟩ := Option.map_eq_some_iff.1 hz0
  obtain ⟨v', w', hrun, ho, hkp, hb⟩ := run_append_Own (P := Tryz.prog) 68 68 68 44 i0 z 6 64 Tryz.underlying68 ⟨_, Tryz.underlying68⟩ hi0 hz hz1 hz2 hz3 _ i xs hO _ 1 (verC x) hsrc (verC_one x) (by unfold maxLen; omega) (by omega)
  obtain ⟨_, a', c', rfl, _⟩ := id ho
  have HX := Lib.hid hrun
  have HFIN := Lib.hid (show InsP w a i cap i xs (verC x) (.returned (.slice a' (i + 1) c')) w' from ⟨a', c', rfl, by
   rw [List.take_of_length_le (by omega), List.drop_of_length_le (by omega), List.append_nil]; exact ho, hkp, hb⟩)
  clear hrun ho hkp hb hO hvb hsrc hi0 hz hz0 hz1 hz2 hz3 hl hblk hnil
  by_cases hci : cap = i
  ·subst hci
   go_enter Tryz.func192, Tryz.ntmps192
   go_wp2_with (at_builtin; refine wpList_append_run rfl rfl rfl rfl HX.out ?_)
   go_ret
   exact HFIN.out
  ·have hci2 : ¬ ((cap : Int) = (i : Int)) := by omega
   go_enter Tryz.func192, Tryz.ntmps192
   go_wp2_with (at_builtin; refine wpList_append_run rfl rfl rfl rfl HX.out ?_)
   go_ret
   exact HFIN.out
 ·have hin2 : i < n := by omega
  cases a with
  | none => have := hnil rfl; omega
  | some ad =>
  obtain ⟨g, off, cur, rfl, hg, hfit, hcur⟩ := hblk ad rfl
  have hgv : g ≠ vb := fun e => hne (by rw [e]; rfl)
  have hz2 : ((i : Int) == (n : Int)) = false := by rw [beq_eq_false_iff_ne]; omega
  have hci : ¬ cap = i := by omega
  have hcl : cur.toList.length = cur.size := Array.length_toList
  have hcell : ∀ j v, xs[j]? = some v → w.cell? ⟨g, off + j, none⟩ = some v := fun j v hj => by
   rw [cell_at hg]
   rw [← hcur, List.getElem?_take] at hj
   split at hj
   ·rw [List.getElem?_drop] at hj
    simpa using hj
   ·cases hj
  have hvc : ∀ j v, (verC x)[j]? = some v → w.cell? ⟨vb, 0 + j, none⟩ = some v := fun j v hj => by
   rw [cell_at hvb]
   simpa using hj
  have hdl : (xs.drop (i * 6)).length = (n - i) * 6 := by rw [List.length_drop, hl]; omega
  by_cases hroom : n + 1 ≤ cap
  ·-- in place
   obtain ⟨cur1, g1, s1, ho2⟩ := own_splice (news := verC x) hO hi hroom rfl
   have hk1 := kp_setCells g (xs.drop (i * 6)) (off + (i + 1) * 6) w
   have hk2 := kp_setCells g (verC x) (off + i * 6) (w.setCells g (off + (i + 1) * 6) (xs.drop (i * 6)))
   have hmn : Nat.min (n + 1 - i) (n - i) = n - i := by simp only [Nat.min_def]; split <;> omega
   have hcpA : ∀ ty dc sc m, (Builtin.copy_ #[68, 68] ty #[.slice (some ⟨g, off + (i + 1) * 6, none⟩) (n - i) dc, .slice (some ⟨g, off + i * 6, none⟩) (n + 1 - i) sc]).run Tryz.prog (w.drewN m) = .ok (goInt ((n - i : Nat) : Int)) ((w.setCells g (off + (i + 1) * 6) (xs.drop (i * 6))).drewN m) := fun ty dc sc m => by
    have := run_copy_sz (P := Tryz.prog) (w.drewN m) 68 68 ty 44 6 g (off + (i + 1) * 6) (n - i) dc ⟨g, off + i * 6, none⟩ (n + 1 - i) sc (xs.drop (i * 6)) Tryz.underlying68 ver_sz (by rw [hdl, hmn])
     (fun j v hj => by rw [add_lit', Nat.add_assoc]; rw [List.getElem?_drop] at hj; exact hcell _ v hj) (cur := cur) (t := 44) hg (by rw [hdl]; omega) (fun v hv => h1 v (List.mem_of_mem_drop hv))
    rw [this, hmn, setCells_drewN]
   have hov : ∀ lb cb, (callFunc 236 #[.slice (some ⟨vb, 0, none⟩) 1 1, .slice (some ⟨g, off + (i + 1) * 6, none⟩) lb cb]).run Tryz.prog w = .ok (.value (.bool false)) w := fun lb cb => by
    rw [run_callFunc_extern Tryz.func236 (by kernel_rfl) (by kernel_rfl) (by kernel_rfl) (e := Extern.SlicesOverlaps.overlaps #[68, 68] #[4]) (by kernel_rfl),
     Lib.run_overlaps_apart w 68 4 44 Tryz.underlying68 6 Tryz.sizeOf44 ⟨vb, 0, none⟩ ⟨g, off + (i + 1) * 6, none⟩ 1 1 lb cb (fun e => hgv e.symm) t 44 6 cur.size (by simp [World.shape?, hvb]; rfl) (by simp [World.shape?, hg]) (by omega) (free_at hvb 0) (free_at hvb 6)]
    rfl
   obtain ⟨W0, hW0⟩ : ∃ W0, W0 = w.setCells g (off + (i + 1) * 6) (xs.drop (i * 6)) := ⟨_, rfl⟩
   rw [← hW0] at hk1 hk2 g1 ho2
   simp only [← hW0] at hcpA
   clear hW0
   have hcpB : ∀ ty dc m, (Builtin.copy_ #[68, 68] ty #[.slice (some ⟨g, off + i * 6, none⟩) (n + 1 - i) dc, .slice (some ⟨vb, 0, none⟩) 1 1]).run Tryz.prog (W0.drewN m) = .ok (goInt ((1 : Nat) : Int)) ((W0.setCells g (off + i * 6) (verC x)).drewN m) := fun ty dc m => by
    have hge1 : 1 ≤ n + 1 - i := Nat.sub_pos_of_lt (Nat.lt_succ_of_le hi)
    have hmn1 : Nat.min 1 (n + 1 - i) = 1 := Nat.min_eq_left hge1
    have := run_copy_sz (P := Tryz.prog) (W0.drewN m) 68 68 ty 44 6 g (off + i * 6) (n + 1 - i) dc ⟨vb, 0, none⟩ 1 1 (verC x) Tryz.underlying68 ver_sz (by rw [hmn1]; rfl)
     (fun j v hj => by rw [add_lit', World.cell?_drewN, hk1.cell (p := ⟨vb, 0 + j, none⟩) (get_lt hvb) (fun e => hgv (show vb = g from e).symm)]; exact hvc j v hj) (cur := cur1) (t := 44) g1 (by rw [verC_len]; clear hcell hvc h1 hcl hcur hfit hdl g1 hmn; omega) (verC_one x)
    rw [this, hmn1, setCells_drewN]
   have hw1 := wrap_succ n hn
   have hw2 := wrap_succ i (Nat.le_trans hi hn)
   have d1 : decide ((cap : Int) < ((n + 1 : Nat) : Int)) = false := decide_eq_false fun h => Nat.not_lt.2 hroom (Int.ofNat_lt.1 h)
   have hb1 : (i : Int) ≤ (n : Int) := Int.ofNat_le.2 hi
   have hb3 : (i : Int) ≤ (n : Int) + 1 := by have := Int.ofNat_le.2 hi; exact Int.le_trans this (Int.le_of_lt (Int.lt_succ _))
   have HCP := Lib.hid hcpA
   have HOV := Lib.hid hov
   have HCPB := Lib.hid hcpB
   have HL := Lib.hid (And.intro hl (And.intro hdl hmn))
   have HG := Lib.hid (And.intro g1 (And.intro s1 ho2))
   have HK := Lib.hid (And.intro hk1 hk2)
   have HV := Lib.hid (And.intro hvb hgv)
   have H1 := Lib.hid h1
   have HCI := Lib.hid hci
   clear hcpA hcpB hov hl hdl hmn g1 s1 ho2 hk1 hk2 hvb hgv h1 hO hne hnil hblk hg hfit hcur hcell hvc hsrc hcl hci
   go_enter Tryz.func192, Tryz.ntmps192
   go_upto_region 15 with (simp only [HOV.out])
   have hci := HCI.out
   have hci3 : ¬ cap = i + 1 := by clear HCP HOV HL HG HK HV H1 HCI; omega
   refine wp_region_ord [0,0,0,0,0,0,0,0,2] [0,1,2,3,4,5,6,7,8] (by kernel_rfl) (by kernel_rfl) ?_
   repeat (first
    | (apply wpOrd_skip rfl (by decide) rfl; (focus (go_simp; rfl)))
    | (apply wpOrd_pure rfl rfl rfl; (focus (intro _ _; go_simp; (try go_ints); rfl)); (focus (go_simp; rfl)))
    | (apply wpOrd_read rfl rfl rfl; (focus (intro _; go_simp; (try go_ints); rfl)); (focus (go_simp; rfl))))
   refine wpOrd_eff rfl rfl (fun q => ?_)
   refine wpList_copy_run rfl rfl rfl rfl (HCP.out _ _ _ q) (wpList_nil ⟨rfl, trivial, ?_⟩)
   refine wpOrd_nil (fun nq => ?_)
   go_wp2_with (refine wpList_copy_run rfl rfl rfl rfl (HCPB.out _ _ (q + nq)) ?_)
   go_ret
   refine ⟨some ⟨g, off, none⟩, cap, rfl, HG.out.2.2.drewN (q + nq), ((HK.out.1.trans_same HK.out.2).mono fun k _ e => ?_).drewN (q + nq), .inl rfl⟩
   rw [show k = g from e]
   rfl
  ·-- a new row
   obtain rfl : cap = n := by clear hcell hvc h1 hcl hcur; omega
   have hBl : (xs.drop (i * 6)).length = (cap - i) * 6 := hdl
   have hAl : (xs.take (i * 6)).length = i * 6 := by rw [List.length_take, hl]; clear hcell hvc h1 hcl hcur; omega
   obtain ⟨i0, hi0, hz⟩ := Option.map_eq_some_iff.1 infoVer
   injection hz with hz0 hz
   injection hz with hz1 hz3
   obtain ⟨z, hz, hz4⟩ := Option.map_eq_some_iff.1 hz0
   obtain ⟨k, hk⟩ : ∃ k, k = cap + 1 - i := ⟨_, rfl⟩
   have hik : i + k = cap + 1 := by rw [hk]; clear hcell hvc h1 hcl hcur hfit; omega
   have hk0 : 0 < k := by rw [hk]; clear hcell hvc h1 hcl hcur hfit; omega
   have hold : (Builtin.firstCells i0.size i (.slice (some ⟨g, off, none⟩) i cap)).run Tryz.prog w.drew = .ok (xs.take (i * 6)).toArray w.drew := by
    rw [hz1]
    exact run_firstCells_some w.drew 6 i ⟨g, off, none⟩ i cap (xs.take (i * 6)) hAl fun j v hj => by
     rw [add_lit']
     rw [List.getElem?_take] at hj
     split at hj
     ·exact hcell j v hj
     ·cases hj
   have hap := Lib.run_append_grow_zeros (P := Tryz.prog) w 68 3 68 44 i0 z .i64 .i64 Tryz.underlying68 Tryz.underlying3 hi0 hz (some ⟨g, off, none⟩) i cap (xs.take (i * 6)) hold k hk0 (by rw [hz1]; decide) (by rw [hik]; exact Nat.lt_succ_self _) (by rw [hik]; clear hcell hvc h1 hcl hcur hfit hik hk; omega) (by rw [hz3]; exact k64 hk hn) (by rw [hz3, hik]; exact growslice_fits (Nat.lt_succ_self _) (by omega))
   rw [hik] at hap
   obtain ⟨G, hG⟩ : ∃ G, G = grownCap w (cap + 1) cap 44 := ⟨_, rfl⟩
   have hGge : cap + 1 ≤ G := by rw [hG]; exact grownCap_ge w (cap + 1) cap 44
   have hGm : G ≤ maxLen := by rw [hG]; exact grownCap_le_maxLen w (cap + 1) cap 44 (by unfold maxLen; omega)
   rw [← hG] at hap
   obtain ⟨row, hrow⟩ : ∃ row : Array Value, row = (xs.take (i * 6)).toArray ++ Builtin.zeroCells z.cells k ++ Builtin.zeroCells z.cells (G - (cap + 1)) := ⟨_, rfl⟩
   rw [← hrow] at hap
   have hrl : row.toList = xs.take (i * 6) ++ ((Builtin.zeroCells z.cells k).toList ++ (Builtin.zeroCells z.cells (G - (cap + 1))).toList) := by rw [hrow]; simp [List.append_assoc]
   have hrs : G * 6 ≤ row.size := by
    have h2 := congrArg List.length hrl
    rw [List.length_append, List.length_append, hAl, Array.length_toList, Array.length_toList, Array.length_toList, size_zeroCells, size_zeroCells, hz4] at h2
    clear hcell hvc h1 hcl hcur hfit hdl hBl
    omega
   obtain ⟨cur1, g1, s1, ho2⟩ := own_grown (w := w.drew) (e := 44) (sz := 6) (n := cap) (cap := G) (i := i) (news := verC x) hrl hAl hBl hi rfl hGge hGm hrs
   obtain ⟨gs, hgs⟩ : ∃ gs, gs = w.heap.size := ⟨_, rfl⟩
   have hgsd : w.drew.heap.size = gs := by rw [hgs]; rfl
   rw [hgsd] at g1 ho2
   rw [← hgs] at hap
   obtain ⟨W1, hW1⟩ : ∃ W1, W1 = w.drew.alloc (.cells row 44) := ⟨_, rfl⟩
   rw [← hW1] at hap g1 ho2
   have hk1 : Kp No w W1 := by rw [hW1]; exact ((Kp.refl _ _).drew).alloc _
   have hb1 : W1.heap[gs]? = some (.cells row 44 (0, 0)) := by rw [hW1, hgs]; exact heap_alloc_new w.drew _
   have hgl := get_lt hg
   have hvl := get_lt hvb
   have hk2 := kp_setCells gs (verC x) (i * 6) W1
   obtain ⟨W2, hW2⟩ : ∃ W2, W2 = W1.setCells gs (i * 6) (verC x) := ⟨_, rfl⟩
   rw [← hW2] at hk2 g1 ho2
   have hk3 := kp_setCells gs (xs.drop (i * 6)) ((i + 1) * 6) W2
   have hcpA : ∀ ty dc, (Builtin.copy_ #[68, 68] ty #[.slice (some ⟨gs, i * 6, none⟩) (cap + 1 - i) dc, .slice (some ⟨vb, 0, none⟩) 1 1]).run Tryz.prog W1 = .ok (goInt ((1 : Nat) : Int)) W2 := fun ty dc => by
    have hmn : Nat.min 1 (cap + 1 - i) = 1 := Nat.min_eq_left (Nat.sub_pos_of_lt (Nat.lt_succ_of_le hi))
    have := run_copy_sz (P := Tryz.prog) W1 68 68 ty 44 6 gs (i * 6) (cap + 1 - i) dc ⟨vb, 0, none⟩ 1 1 (verC x) Tryz.underlying68 ver_sz (by rw [hmn]; rfl)
     (fun j v hj => by rw [add_lit', hk1.cell (p := ⟨vb, 0 + j, none⟩) hvl (fun x => x)]; exact hvc j v hj) (cur := row) (t := 44) hb1 (by rw [verC_len]; clear hcell hvc h1 hcl hcur hfit hdl hBl; omega) (verC_one x)
    rw [this, hmn, hW2]
   have hcpB : ∀ ty dc sc m, (Builtin.copy_ #[68, 68] ty #[.slice (some ⟨gs, (i + 1) * 6, none⟩) (cap - i) dc, .slice (some ⟨g, off + i * 6, none⟩) (cap - i) sc]).run Tryz.prog (W2.drewN m) = .ok (goInt ((cap - i : Nat) : Int)) ((W2.setCells gs ((i + 1) * 6) (xs.drop (i * 6))).drewN m) := fun ty dc sc m => by
    have hmn : Nat.min (cap - i) (cap - i) = cap - i := Nat.min_self _
    have := run_copy_sz (P := Tryz.prog) (W2.drewN m) 68 68 ty 44 6 gs ((i + 1) * 6) (cap - i) dc ⟨g, off + i * 6, none⟩ (cap - i) sc (xs.drop (i * 6)) Tryz.underlying68 ver_sz (by rw [hmn, hBl])
     (fun j v hj => by
      rw [add_lit', World.cell?_drewN, hk2.cell (p := ⟨g, off + i * 6 + j, none⟩) (hk1.lt hgl) (fun e => by have e : g = gs := e; omega), hk1.cell (p := ⟨g, off + i * 6 + j, none⟩) hgl (fun x => x), Nat.add_assoc]
      rw [List.getElem?_drop] at hj
      exact hcell _ v hj) (cur := cur1) (t := 44) g1 (by rw [hBl]; clear hcell hvc h1 hcl hcur hfit hdl hBl; omega) (fun v hv => h1 v (List.mem_of_mem_drop hv))
    rw [this, hmn, setCells_drewN]
   have hw1 := wrap_succ cap hn
   have hw2 := wrap_succ i (Nat.le_trans hi hn)
   rw [kk_cast hik] at hap
   have d1 : decide ((cap : Int) < ((cap + 1 : Nat) : Int)) = true := decide_eq_true (Int.ofNat_lt.2 (Nat.lt_succ_self _))
   have hb1' : (i : Int) ≤ (cap : Int) := Int.ofNat_le.2 hi
   have hb3 : (i : Int) ≤ (cap : Int) + 1 := by have := Int.ofNat_le.2 hi; exact Int.le_trans this (Int.le_of_lt (Int.lt_succ _))
   have hci4 : ¬ G = i := fun e => absurd hGge (Nat.not_le.2 (by rw [e]; exact Nat.lt_succ_of_le hi))
   have hci5 : ¬ G = i + 1 := fun e => absurd hGge (Nat.not_le.2 (by rw [e]; exact Nat.succ_lt_succ hin2))
   have HAP := Lib.hid hap
   have HCA := Lib.hid hcpA
   have HCB := Lib.hid hcpB
   have HFIN : Hid (∀ m, InsP w (some ⟨g, off, none⟩) cap cap i xs (verC x) (.returned (.slice (some ⟨gs, 0, none⟩) (cap + 1) G)) ((W2.setCells gs ((i + 1) * 6) (xs.drop (i * 6))).drewN m)) := Lib.hid fun m =>
    ⟨some ⟨gs, 0, none⟩, G, rfl, ho2.drewN m, ((((hk1.of_no (S := One gs)).trans_same hk2).trans_same hk3).mono fun j hj e => absurd hj (by rw [show j = gs from e, hgs]; exact Nat.lt_irrefl _)).drewN m, .inr ⟨gs, rfl, by rw [hgs]; exact Nat.le_refl _⟩⟩
   clear hap hcpA hcpB hl hdl hBl hAl hk1 hk2 hk3 hvb hgv h1 hO hne hnil hblk hg hfit hcur hcell hvc hsrc hcl hrs hrl hrow ho2 g1 s1 hb1 hW1 hW2 hG hgs hgsd hgl hvl hold hz hz0 hz1 hz3 hz4 hi0 hk hik hk0
   go_enter Tryz.func192, Tryz.ntmps192
   go_upto_region 10 with (at_builtin; refine wpList_append_run rfl rfl rfl rfl HAP.out ?_)
   go_upto_region 11 with (refine wpList_copy_run rfl rfl rfl rfl (HCA.out _ _) ?_)
   refine wp_region_ord [0,0,0,0,0,0,0,0,2] [0,1,2,3,4,5,6,7,8] (by kernel_rfl) (by kernel_rfl) ?_
   repeat (first
    | (apply wpOrd_skip rfl (by decide) rfl; (focus (go_simp; rfl)))
    | (apply wpOrd_pure rfl rfl rfl; (focus (intro _ _; go_simp; (try go_ints); rfl)); (focus (go_simp; rfl)))
    | (apply wpOrd_read rfl rfl rfl; (focus (intro _; go_simp; (try go_ints); rfl)); (focus (go_simp; rfl))))
   refine wpOrd_eff rfl rfl (fun q => ?_)
   refine wpList_copy_run rfl rfl rfl rfl (HCB.out _ _ _ q) (wpList_nil ⟨rfl, trivial, ?_⟩)
   refine wpOrd_nil (fun nq => ?_)
   go_wp2_with fail
   go_ret
   exact HFIN.out _
end Go.Proofs.YtgnkmjeoaoongaaGreatDoor
namespace Go.Mer
open Go Go.RowKit
def NLt (x y : ByteArray) : Prop := x.data.toList < y.data.toList
instance decNLt (x y : ByteArray) : Decidable (NLt x y) := inferInstanceAs (Decidable (x.data.toList < y.data.toList))
theorem bytes_inj {x y : ByteArray} (h : x.data.toList = y.data.toList) : x = y := by
 obtain ⟨x⟩ := x
 obtain ⟨y⟩ := y
 exact congrArg ByteArray.mk (Array.toList_inj.1 h)
theorem nlt_irr (x : ByteArray) : ¬ NLt x x := List.lt_irrefl _
theorem nlt_trans {x y z : ByteArray} (h : NLt x y) (h' : NLt y z) : NLt x z := List.lt_trans h h'
theorem nlt_tri (x y : ByteArray) : NLt x y ∨ x = y ∨ NLt y x := by
 by_cases h : x.data.toList < y.data.toList
 ·exact .inl h
 ·have h1 : y.data.toList ≤ x.data.toList := List.not_lt.1 h
  by_cases h2 : y.data.toList < x.data.toList
  ·exact .inr (.inr h2)
  ·exact .inr (.inl (bytes_inj (List.le_antisymm (List.not_lt.1 h2) h1)))
theorem less_nlt (x y : ByteArray) : Op.bytesLess x.toList y.toList = decide (NLt x y) := by
 rw [Go.Proofs.bytesLess_eq, Lib.toList_data, Lib.toList_data]
 rfl
theorem less_yes {x y : ByteArray} (h : NLt x y) : Op.bytesLess x.toList y.toList = true := by rw [less_nlt]; exact decide_eq_true h
theorem less_no {x y : ByteArray} (h : ¬ NLt x y) : Op.bytesLess x.toList y.toList = false := by rw [less_nlt]; exact decide_eq_false h
section
variable {K β : Type} [DecidableEq K]
theorem gget_perm {T S : List (K × β)} (hp : T.Perm S) (hn : (T.map (·.1)).Nodup) (k : K) : gget T k = gget S k := by
 have hn' : (S.map (·.1)).Nodup := (hp.map _).nodup_iff.1 hn
 cases h : gget S k with
 | none =>
  refine gget_none fun hm => gget_none_iff.1 h ?_
  exact (hp.map _).mem_iff.1 hm
 | some v => exact gget_some hn (hp.mem_iff.2 (gget_mem h))
end
end Go.Mer
namespace Go.Proofs.YtgnkmjeoaoongaaGreatDoor
open Go.RowKit Go.Mer
structure RFile where
 name : ByteArray
 a : Option Addr
 cap : Nat
 data : List UInt8
 lasts : Nat
def RFile.val (f : RFile) : Value := .slice f.a f.data.length f.cap
def RFile.cells (f : RFile) : List Value := [.string f.name, .slice f.a f.data.length f.cap, .int .i64 (f.lasts : Int)]
def RFile.pair (f : RFile) : ByteArray × FileS := (f.name, ⟨f.data, f.lasts⟩)
theorem RFile.cells_len (f : RFile) : f.cells.length = 3 := rfl
def absR (L : List RFile) : Files := L.map RFile.pair
def SortedR (L : List RFile) : Prop := L.Pairwise fun f g => NLt f.name g.name
def leftOf : Option Nat → Int
 | none => -1
 | some n => (n : Int)
def RFileOk (w : World) (f : RFile) : Prop := Own w 5 1 f.val f.data.length (u8s f.data) ∧ f.lasts ≤ f.data.length
structure RC (w : World) (r room : Nat) (left : Int) (rv : Value) (L : List RFile) : Prop where
 cell : w.heap[r]? = some (.cells #[.int .i64 (room : Int), rv, .int .i64 left] 167 (0, 0))
 row : Own w 170 3 rv L.length (L.flatMap RFile.cells)
 files : ∀ f ∈ L, RFileOk w f
 sorted : SortedR L
 fits : totF (absR L) ≤ room
 roomy : room ≤ 1073741824
 few : L.length ≤ 4096
 left0 : -1 ≤ left
 leftM : left ≤ 9223372036854775807
def RFP (r : Nat) (rv : Value) (L : List RFile) : Nat → Prop := fun k => k = r ∨ rv.ownBlock = some k ∨ ∃ f ∈ L, f.val.ownBlock = some k
def RAt (w : World) (r : Nat) (s : DSt) (G : Nat → Prop) : Prop :=
 ∃ rv L, RC w r s.room (leftOf s.fuse) rv L ∧ (absR L).Perm s.files ∧ (∀ k, RFP r rv L k → G k) ∧ ∀ k, G k → k < w.heap.size
section
variable {w w' : World} {r room : Nat} {left : Int} {rv : Value} {L : List RFile}
theorem keys_absR (L : List RFile) : (absR L).map (·.1) = L.map (·.name) := by simp [absR, RFile.pair, List.map_map, Function.comp_def]
theorem SortedR.keys (h : SortedR L) : ((absR L).map (·.1)).Nodup := by
 rw [keys_absR]
 exact List.pairwise_map.2 (h.imp fun hlt e => by rw [e] at hlt; exact nlt_irr _ hlt)
theorem RFileOk.keep {S : Nat → Prop} {f : RFile} (h : RFileOk w f) (hk : Kp S w w') (hS : ∀ g, f.val.ownBlock = some g → ¬ S g) : RFileOk w' f := ⟨h.1.keep hk hS, h.2⟩
theorem RC.keep {S : Nat → Prop} (h : RC w r room left rv L) (hk : Kp S w w') (hS : ∀ k, RFP r rv L k → ¬ S k) : RC w' r room left rv L :=
 { h with
  cell := hk.get h.cell (hS r (.inl rfl))
  row := h.row.keep hk fun g hg => hS g (.inr (.inl hg))
  files := fun f hf => (h.files f hf).keep hk fun g hg => hS g (.inr (.inr ⟨f, hf, hg⟩)) }
theorem RC.keep_no (h : RC w r room left rv L) (hk : Kp No w w') : RC w' r room left rv L := h.keep hk fun _ _ x => x
theorem RC.lt (h : RC w r room left rv L) : ∀ k, RFP r rv L k → k < w.heap.size := by
 rintro k (rfl | hk | ⟨f, hf, hk⟩)
 ·exact get_lt h.cell
 ·exact h.row.lt k hk
 ·exact (h.files f hf).1.lt k hk
theorem RAt.keep {S G : Nat → Prop} {s : DSt} (h : RAt w r s G) (hk : Kp S w w') (hS : ∀ k, G k → ¬ S k) : RAt w' r s G := by
 obtain ⟨rv, L, h1, h2, h3, h4⟩ := h
 exact ⟨rv, L, h1.keep hk (fun k hf => hS k (h3 k hf)), h2, h3, fun k hf => hk.lt (h4 k hf)⟩
theorem RAt.keep_no {G : Nat → Prop} {s : DSt} (h : RAt w r s G) (hk : Kp No w w') : RAt w' r s G := h.keep hk fun _ _ x => x
theorem RC.row_ne (h : RC w r room left rv L) {g : Nat} (hg : rv.ownBlock = some g) : g ≠ r := by
 obtain ⟨cur, hc⟩ := h.row.type g hg
 exact ne_of_type hc h.cell (by decide)
theorem RC.data_ne (h : RC w r room left rv L) {f : RFile} (hf : f ∈ L) {g : Nat} (hg : f.val.ownBlock = some g) : g ≠ r ∧ rv.ownBlock ≠ some g := by
 obtain ⟨cur, hc⟩ := (h.files f hf).1.type g hg
 refine ⟨ne_of_type hc h.cell (by decide), fun e => ?_⟩
 obtain ⟨cur', hc'⟩ := h.row.type g e
 exact ne_of_type hc hc' (by decide) rfl
inductive Spot (L : List RFile) (k : ByteArray) : Nat → Bool → Prop
 | is (L1 : List RFile) (f : RFile) (L2 : List RFile) (hL : L = L1 ++ f :: L2) (hk : f.name = k) : Spot L k L1.length true
 | no (L1 L2 : List RFile) (hL : L = L1 ++ L2) (h1 : ∀ f ∈ L1, NLt f.name k) (h2 : ∀ f ∈ L2, NLt k f.name) : Spot L k L1.length false
theorem spot_is {i : Nat} (hi : i < L.length) {k : ByteArray} (hk : L[i].name = k) : Spot L k i true := by
 have e : L = L.take i ++ L[i] :: L.drop (i + 1) := by
  rw [← List.drop_eq_getElem_cons hi, List.take_append_drop]
 have h := Spot.is (k := k) (L.take i) L[i] (L.drop (i + 1)) e hk
 rwa [List.length_take, Nat.min_eq_left (by omega)] at h
theorem spot_no (hs : SortedR L) {i : Nat} (hi : i ≤ L.length) {k : ByteArray} (h1 : ∀ f ∈ L.take i, NLt f.name k) (h2 : ∀ h : i < L.length, NLt k L[i].name) : Spot L k i false := by
 have h := Spot.no (k := k) (L.take i) (L.drop i) (List.take_append_drop i L).symm h1 (fun f hf => by
  by_cases hl : i < L.length
  ·rw [List.drop_eq_getElem_cons hl] at hf
   rcases List.mem_cons.1 hf with rfl | hf
   ·exact h2 hl
   ·refine nlt_trans (h2 hl) ?_
    have hp : (L[i] :: L.drop (i + 1)).Pairwise fun f g => NLt f.name g.name := by
     rw [← List.drop_eq_getElem_cons hl]
     exact List.Pairwise.sublist (List.drop_sublist _ _) hs
    exact (List.pairwise_cons.1 hp).1 f hf
  ·rw [List.drop_eq_nil_of_le (by omega)] at hf
   cases hf)
 rwa [List.length_take, Nat.min_eq_left hi] at h
theorem get_is (hs : SortedR L) {L1 L2 : List RFile} {f : RFile} (hL : L = L1 ++ f :: L2) : gget (absR L) f.name = some ⟨f.data, f.lasts⟩ :=
 gget_some hs.keys (by rw [hL]; simp [absR, RFile.pair])
theorem get_no {L1 L2 : List RFile} {k : ByteArray} (h1 : ∀ f ∈ L1, NLt f.name k) (h2 : ∀ f ∈ L2, NLt k f.name) : gget (absR (L1 ++ L2)) k = none := gget_none (by
 rw [keys_absR, List.mem_map]
 rintro ⟨f, hf, rfl⟩
 rcases List.mem_append.1 hf with hf | hf
 ·exact nlt_irr _ (h1 f hf)
 ·exact nlt_irr _ (h2 f hf))
theorem sorted_turn {L1 L2 : List RFile} {f g : RFile} (hs : SortedR (L1 ++ f :: L2)) (hn : g.name = f.name) : SortedR (L1 ++ g :: L2) := by
 unfold SortedR at hs ⊢
 rw [List.pairwise_append, List.pairwise_cons] at hs ⊢
 rw [hn]
 refine ⟨hs.1, hs.2.1, fun a ha b hb => ?_⟩
 rcases List.mem_cons.1 hb with rfl | hb
 ·rw [hn]
  exact hs.2.2 a ha f (List.mem_cons_self ..)
 ·exact hs.2.2 a ha b (List.mem_cons_of_mem _ hb)
def SaidR (w : World) (r : Nat) (G : Nat → Prop) (q : Int × DSt) (e : Ending) (w' : World) : Prop :=
 e = .returned (.int .i64 q.1) ∧ ∃ G', RAt w' r q.2 G' ∧ Foot G G' w ∧ Kp G w w'
end
end Go.Proofs.YtgnkmjeoaoongaaGreatDoor
namespace Go.Proofs.YtgnkmjeoaoongaaGreatDoor
open Go.RowKit Go.Mer
structure DoneS where
 seq : Int
 m : Int
 c : Int
structure SSt where
 age : Nat
 n : Nat
 dead : Bool
 keys : List (ByteArray × List VerS)
 mm : Int
 mc : Int
 of : List DoneS
 kept : List RecS
def ofAt (of : List DoneS) (i : Nat) : DoneS := of.getD i ⟨0, 0, 0⟩
def chainOf (l : List (ByteArray × List VerS)) (k : ByteArray) : List VerS := (gget l k).getD []
def setK : List (ByteArray × List VerS) → ByteArray → List VerS → List (ByteArray × List VerS)
 | [], k, c => [(k, c)]
 | x :: r, k, c => if NLt x.1 k then x :: setK r k c else if x.1 = k then (k, c) :: r else (k, c) :: x :: r
abbrev SortK (l : List (ByteArray × List VerS)) : Prop := l.Pairwise fun x y => NLt x.1 y.1
theorem setK_mem {l : List (ByteArray × List VerS)} {k : ByteArray} {c : List VerS} {p : ByteArray × List VerS} (h : p ∈ setK l k c) : p = (k, c) ∨ p ∈ l := by
 induction l with
 | nil => exact .inl (List.mem_singleton.1 h)
 | cons x r ih =>
  rw [setK] at h
  split at h
  ·rcases List.mem_cons.1 h with rfl | h
   ·exact .inr (List.mem_cons_self ..)
   ·exact (ih h).imp id (List.mem_cons_of_mem _)
  ·split at h
   ·rcases List.mem_cons.1 h with rfl | h
    ·exact .inl rfl
    ·exact .inr (List.mem_cons_of_mem _ h)
   ·rcases List.mem_cons.1 h with rfl | h
    ·exact .inl rfl
    ·exact .inr h
theorem setK_sorted {l : List (ByteArray × List VerS)} (hs : SortK l) (k : ByteArray) (c : List VerS) : SortK (setK l k c) := by
 induction l with
 | nil => exact List.pairwise_singleton _ _
 | cons x r ih =>
  obtain ⟨h1, h2⟩ := List.pairwise_cons.1 hs
  rw [setK]
  split
  ·next hx =>
   refine List.pairwise_cons.2 ⟨fun p hp => ?_, ih h2⟩
   rcases setK_mem hp with rfl | hp
   ·exact hx
   ·exact h1 p hp
  ·next hx =>
   split
   ·next he =>
    refine List.pairwise_cons.2 ⟨fun p hp => ?_, h2⟩
    have := h1 p hp
    rw [he] at this
    exact this
   ·next he =>
    have hk : NLt k x.1 := by
     rcases nlt_tri x.1 k with h | h | h
     ·exact absurd h hx
     ·exact absurd h he
     ·exact h
    refine List.pairwise_cons.2 ⟨fun p hp => ?_, hs⟩
    rcases List.mem_cons.1 hp with rfl | hp
    ·exact hk
    ·exact nlt_trans hk (h1 p hp)
theorem gget_cons (x : ByteArray × List VerS) (r : List (ByteArray × List VerS)) (k : ByteArray) : gget (x :: r) k = if x.1 = k then some x.2 else gget r k := by
 unfold gget
 rw [List.find?_cons]
 by_cases h : x.1 = k
 ·simp [h]
 ·simp [h]
theorem SortK.gone {x : ByteArray × List VerS} {r : List (ByteArray × List VerS)} (hs : SortK (x :: r)) {k : ByteArray} (h : NLt k x.1 ∨ k = x.1) : gget r k = none := gget_none (by
 intro hk
 obtain ⟨p, hp, rfl⟩ := List.mem_map.1 hk
 have := (List.pairwise_cons.1 hs).1 p hp
 rcases h with h | h
 ·exact nlt_irr _ (nlt_trans this h)
 ·rw [h] at this
  exact nlt_irr _ this)
theorem gget_setK {l : List (ByteArray × List VerS)} (hs : SortK l) (k : ByteArray) (c : List VerS) (q : ByteArray) : gget (setK l k c) q = if k = q then some c else gget l q := by
 induction l with
 | nil => rw [setK, gget_cons]
 | cons x r ih =>
  have h2 := (List.pairwise_cons.1 hs).2
  rw [setK]
  split
  ·next hx =>
   rw [gget_cons, gget_cons, ih h2]
   by_cases hq : x.1 = q
   ·rw [if_pos hq, if_pos hq]
    rw [if_neg]
    intro hk
    rw [hq, hk] at hx
    exact nlt_irr _ hx
   ·rw [if_neg hq, if_neg hq]
  ·next hx =>
   split
   ·next he =>
    rw [gget_cons, gget_cons]
    by_cases hq : k = q
    ·rw [if_pos hq, if_pos hq]
    ·rw [if_neg hq, if_neg hq, if_neg (fun h => hq (he.symm.trans h))]
   ·rw [gget_cons]
def stepOk (mm mc : Int) (of : List DoneS) (r : RecS) : Bool :=
 decide (r.seq = (ofAt of r.o.toNat).seq + 1) && (stLt (ofAt of r.o.toNat).m (ofAt of r.o.toNat).c r.v.m r.v.c && stLt mm mc r.v.m r.v.c)
def doneR (of : List DoneS) (r : RecS) : List DoneS := of.set r.o.toNat ⟨r.seq, r.v.m, r.v.c⟩
def mayG (mm mc : Int) : List DoneS → List RecS → Bool
 | _, [] => true
 | of, r :: l => stepOk mm mc of r && mayG mm mc (doneR of r) l
def mayS (st : SSt) (l : List RecS) : Nat := if 64 < l.length then 5 else if l.all isR = false then 1 else if mayG st.mm st.mc st.of l = true then 0 else 12
def layR (o : Nat) (st : SSt) (r : RecS) : SSt :=
 { st with
  keys := setK st.keys r.key (putC (chainOf st.keys r.key) r.v)
  of := doneR st.of r
  kept := if r.o = o then st.kept ++ [r] else st.kept }
def laysS (o : Nat) (st : SSt) (l : List RecS) : SSt := l.foldl (layR o) st
structure Inv (o : Nat) (st : SSt) : Prop where
 own : o < 5
 of5 : st.of.length = 5
 done : ∀ d ∈ st.of, 0 ≤ d.seq ∧ d.seq ≤ 1099511627776 ∧ isSt d.m d.c = true
 mark : isSt st.mm st.mc = true
 sorted : SortK st.keys
 keys : ∀ p ∈ st.keys, 1 ≤ p.1.size ∧ p.1.size ≤ 64 ∧ p.2 ≠ [] ∧ ChS p.2 ∧ ∀ v ∈ p.2, isV v = true ∧ stLt (ofAt st.of v.o.toNat).m (ofAt st.of v.o.toNat).c v.m v.c = false
 kept : ∀ (i : Nat) (h : i < st.kept.length), isR st.kept[i] = true ∧ st.kept[i].o = (o : Int) ∧ st.kept[i].seq + ((st.kept.length - 1 - i : Nat) : Int) = (ofAt st.of o).seq
def empS : SSt := ⟨0, 0, false, [], 0, 0, List.replicate 5 ⟨0, 0, 0⟩, []⟩
theorem inv_emp {o : Nat} (ho : o < 5) : Inv o empS :=
 ⟨ho, rfl, fun d hd => by rw [(List.mem_replicate.1 hd).2]; exact ⟨Int.le_refl _, by decide, by decide⟩, by decide, List.Pairwise.nil, fun p hp => absurd hp List.not_mem_nil, fun i h => absurd h (Nat.not_lt_zero _)⟩
theorem ofAt_set {of : List DoneS} {i : Nat} (hi : i < of.length) (d : DoneS) (j : Nat) : ofAt (of.set i d) j = if i = j then d else ofAt of j := by
 unfold ofAt
 rw [List.getD_eq_getElem?_getD, List.getD_eq_getElem?_getD, List.getElem?_set]
 split
 ·try rw [if_pos hi]
  rfl
 ·rfl
theorem chainOf_ok {o : Nat} {st : SSt} (h : Inv o st) (k : ByteArray) : ChS (chainOf st.keys k) ∧ ∀ v ∈ chainOf st.keys k, isV v = true ∧ stLt (ofAt st.of v.o.toNat).m (ofAt st.of v.o.toNat).c v.m v.c = false := by
 unfold chainOf
 cases hk : gget st.keys k with
 | none => exact ⟨List.Pairwise.nil, fun v hv => absurd hv List.not_mem_nil⟩
 | some c =>
  have := h.keys _ (gget_mem hk)
  exact ⟨this.2.2.2.1, this.2.2.2.2⟩
theorem lay_has {o : Nat} {st : SSt} (h : Inv o st) {r : RecS} (hr : isR r = true) (hs : stepOk st.mm st.mc st.of r = true) : putHas (chainOf st.keys r.key) r.v = false := by
 obtain ⟨_, h2⟩ := chainOf_ok h r.key
 refine putHas_no fun x hx hh => ?_
 have h3 := (h2 x hx).2
 have e := (isR_iff.1 hr).2.1
 unfold stepOk at hs
 rw [Bool.and_eq_true, Bool.and_eq_true] at hs
 have h4 := hs.2.1
 rw [hh.2.2, e, hh.1, hh.2.1] at h3
 rw [h3] at h4
 cases h4
theorem inv_lay {o : Nat} {st : SSt} (h : Inv o st) {r : RecS} (hr : isR r = true) (hs : stepOk st.mm st.mc st.of r = true) : Inv o (layR o st r) := by
 have hhas := lay_has h hr hs
 obtain ⟨hc1, hc2⟩ := chainOf_ok h r.key
 obtain ⟨hv, e1, q1, q2, k1, k2⟩ := isR_iff.1 hr
 obtain ⟨⟨m1, m2, c1, c2⟩, o1, o2, _⟩ := isV_iff.1 hv
 have ho : r.o.toNat < st.of.length := by rw [h.of5, ← e1]; omega
 have hst : isSt r.v.m r.v.c = true := isSt_iff.2 ⟨m1, m2, c1, c2⟩
 unfold stepOk at hs
 rw [Bool.and_eq_true, Bool.and_eq_true, decide_eq_true_iff] at hs
 obtain ⟨s1, s2, _⟩ := hs
 have hof : ∀ j, ofAt (doneR st.of r) j = if r.o.toNat = j then ⟨r.seq, r.v.m, r.v.c⟩ else ofAt st.of j := fun j => ofAt_set ho _ j
 have hup : ∀ v : VerS, stLt (ofAt st.of v.o.toNat).m (ofAt st.of v.o.toNat).c v.m v.c = false → stLt (ofAt (doneR st.of r) v.o.toNat).m (ofAt (doneR st.of r) v.o.toNat).c v.m v.c = false := fun v hv => by
  rw [hof]
  split
  ·next he =>
   rw [← he] at hv
   show stLt r.v.m r.v.c v.m v.c = false
   rw [stLt_not] at hv ⊢
   rw [stLt_iff] at s2
   omega
  ·exact hv
 refine ⟨h.own, by show (doneR st.of r).length = 5; unfold doneR; rw [List.length_set]; exact h.of5, fun d hd => ?_, h.mark, setK_sorted h.sorted _ _, fun p hp => ?_, fun i hi => ?_⟩
 ·rcases List.mem_or_eq_of_mem_set hd with hd | rfl
  ·exact h.done d hd
  ·exact ⟨by show 0 ≤ r.seq; omega, q2, hst⟩
 ·rcases setK_mem hp with rfl | hp
  ·refine ⟨k1, k2, fun hn => ?_, putC_sorted hc1 hhas, fun v hv => ?_⟩
   ·have := putC_length (chainOf st.keys r.key) r.v
    have hn : putC (chainOf st.keys r.key) r.v = [] := hn
    rw [hn] at this
    cases this
   ·rcases putC_mem.1 hv with rfl | hv
    ·refine ⟨‹isV _ = true›, ?_⟩
     show stLt (ofAt (doneR st.of r) r.v.o.toNat).m (ofAt (doneR st.of r) r.v.o.toNat).c r.v.m r.v.c = false
     rw [hof, if_pos (by rw [e1])]
     exact stLt_not.2 (show ¬ (r.v.m < r.v.m ∨ (r.v.m = r.v.m ∧ r.v.c < r.v.c)) by omega)
    ·exact ⟨(hc2 v hv).1, hup v (hc2 v hv).2⟩
  ·obtain ⟨g1, g2, g3, g4, g5⟩ := h.keys p hp
   exact ⟨g1, g2, g3, g4, fun v hv => ⟨(g5 v hv).1, hup v (g5 v hv).2⟩⟩
 ·have hown : ((ofAt (doneR st.of r) o).seq = if r.o = (o : Int) then r.seq else (ofAt st.of o).seq) := by
   rw [hof]
   by_cases he : r.o = (o : Int)
   ·rw [if_pos (by omega), if_pos he]
   ·rw [if_neg (by omega), if_neg he]
  show isR (if r.o = (o : Int) then st.kept ++ [r] else st.kept)[i] = true ∧ _
  revert hi
  show ∀ hi : i < (if r.o = (o : Int) then st.kept ++ [r] else st.kept).length, isR (if r.o = (o : Int) then st.kept ++ [r] else st.kept)[i] = true ∧ (if r.o = (o : Int) then st.kept ++ [r] else st.kept)[i].o = (o : Int) ∧ (if r.o = (o : Int) then st.kept ++ [r] else st.kept)[i].seq + (((if r.o = (o : Int) then st.kept ++ [r] else st.kept).length - 1 - i : Nat) : Int) = (ofAt (doneR st.of r) o).seq
  rw [hown]
  by_cases he : r.o = (o : Int)
  ·simp only [if_pos he]
   intro hi
   rw [List.length_append, List.length_singleton] at hi
   rcases Nat.lt_or_ge i st.kept.length with hlt | hge
   ·obtain ⟨g1, g2, g3⟩ := h.kept i hlt
    rw [List.getElem_append_left hlt, List.length_append, List.length_singleton]
    refine ⟨g1, g2, ?_⟩
    have hto : r.o.toNat = o := by omega
    rw [hto] at s1
    omega
   ·obtain rfl : i = st.kept.length := by omega
    simp only [List.getElem_append_right (Nat.le_refl _), Nat.sub_self, List.getElem_singleton, List.length_append, List.length_singleton]
    exact ⟨hr, he, by omega⟩
  ·simp only [if_neg he]
   exact fun hi => h.kept i hi
theorem inv_lays {o : Nat} : ∀ (l : List RecS) {st : SSt}, Inv o st → (∀ r ∈ l, isR r = true) → mayG st.mm st.mc st.of l = true → Inv o (laysS o st l) := by
 intro l
 induction l with
 | nil => intro st h _ _; exact h
 | cons r l ih =>
  intro st h hr hm
  rw [mayG, Bool.and_eq_true] at hm
  exact ih (inv_lay h (hr r (List.mem_cons_self ..)) hm.1) (fun x hx => hr x (List.mem_cons_of_mem _ hx)) hm.2
theorem mayS_ok {st : SSt} {l : List RecS} (h : mayS st l = 0) : l.length ≤ 64 ∧ (∀ r ∈ l, isR r = true) ∧ mayG st.mm st.mc st.of l = true := by
 unfold mayS at h
 split at h
 ·cases h
 ·split at h
  ·cases h
  ·next h64 ha =>
   split at h
   ·next hm =>
    refine ⟨by omega, fun r hr => ?_, hm⟩
    exact List.all_eq_true.1 (by simpa using ha) r hr
   ·cases h
theorem inv_put {o : Nat} {st : SSt} (h : Inv o st) {l : List RecS} (hm : mayS st l = 0) : Inv o (laysS o st l) := by
 obtain ⟨_, h2, h3⟩ := mayS_ok hm
 exact inv_lays l h h2 h3
end Go.Proofs.YtgnkmjeoaoongaaGreatDoor

