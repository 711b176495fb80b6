/-
  The first event that can't be: causal's Check.
-/
import Derived.Test.YtojlccligmfcaaaCScan
import Derived.Test.YtojlccligmfcaaaCPlace
import Derived.Test.YtojlccligmfcaaaFork
import Derived.Deep.CutRange
namespace Go.Proofs.Ytojlccligmfcaaa
open Go.RowKit Go.Mer

/-! ### the plain law -/
abbrev Snaps := List ((Int × Int) × (Int × Int))
def canF (R : List WrP) (sn : Snaps) (x : EvR) : Bool :=
  if x.s.kind = 1 ∨ x.s.kind = 2 then decide (0 < cmpH x.r.t1 x.r.t2 x.s.s1 x.s.s2)
  else if x.s.kind = 3 then decide (0 ≤ cmpH x.r.t1 x.r.t2 x.s.s1 x.s.s2)
  else if x.s.kind = 4 then match gget sn (x.s.node, x.s.n) with
    | none => true
    | some t => if x.r.found then foundF x.s.key t.1 t.2 R x.r.aval else noneF x.s.key t.1 t.2 R
  else if x.s.kind = 5 then match gget sn (x.s.node, x.s.n) with
    | none => true
    | some t => scannedF R x.s.key x.s.to x.s.m t.1 t.2 (pairsP x)
  else true
def snF (sn : Snaps) (x : EvR) : Snaps := if x.s.kind = 3 then gset sn (x.s.node, x.r.an) (x.r.t1, x.r.t2) else sn
/-- How it stands behind so many events: what was told, or where it ended. -/
def ckStep (R : List WrP) (s : Snaps × Nat × Option Nat) (x : EvR) : Snaps × Nat × Option Nat :=
  if s.2.2.isSome then s
  else if x.r.err ≠ 0 then (s.1, s.2.1 + 1, none)
  else if canF R s.1 x then (snF s.1 x, s.2.1 + 1, none) else (s.1, s.2.1, some s.2.1)
def ckState (R : List WrP) (L : List EvR) : Snaps × Nat × Option Nat := L.foldl (ckStep R) ([], 0, none)
def checkF (L : List EvR) : Int × Bool := match (ckState (L.filterMap wrF) L).2.2 with
  | none => (0, false)
  | some i => ((i : Int), true)
theorem ck_snoc {R : List WrP} {L : List EvR} {k : Nat} {x : EvR} (HE : Hid (L.take (k + 1) = L.take k ++ [x])) : ckState R (L.take (k + 1)) = ckStep R (ckState R (L.take k)) x := by
  rw [HE.out]
  unfold ckState
  rw [List.foldl_append]
  rfl
theorem ck_stays {R : List WrP} {i : Nat} : ∀ (L : List EvR) (s : Snaps × Nat × Option Nat), s.2.2 = some i → (L.foldl (ckStep R) s).2.2 = some i
  | [], s, h => h
  | x :: L, s, h => by
    rw [List.foldl_cons]
    refine ck_stays L _ ?_
    unfold ckStep
    rw [if_pos (by rw [h]; rfl)]
    exact h
theorem ck_ends {L : List EvR} {k i : Nat} {R : List WrP} (hR : L.filterMap wrF = R) (h : (ckState R (L.take k)).2.2 = some i) : checkF L = ((i : Int), true) := by
  unfold checkF
  rw [hR]
  have h2 : (ckState R L).2.2 = some i := by
    have e : L = L.take k ++ L.drop k := (List.take_append_drop k L).symm
    have : ckState R L = (L.drop k).foldl (ckStep R) (ckState R (L.take k)) := by
      unfold ckState
      rw [← List.foldl_append, List.take_append_drop]
    rw [this]
    exact ck_stays _ _ h
  rw [h2]
def snV (sn : Snaps) : List ((Int × Int) × Value) := sn.map fun p => (p.1, stv p.2.1 p.2.2)
theorem sn_get (sn : Snaps) (k : Int × Int) : gget (snV sn) k = (gget sn k).map fun t => stv t.1 t.2 := gget_mapv (fun t : Int × Int => stv t.1 t.2) sn k
theorem sn_set (sn : Snaps) (k t : Int × Int) : snV (gset sn k t) = gset (snV sn) k (stv t.1 t.2) := gset_mapv (fun t : Int × Int => stv t.1 t.2) sn k t
theorem wr_small {L : List EvR} {R : List WrR} (hR : R.map (·.p) = L.filterMap wrF) (hs : ∀ x ∈ L, x.Li) : (∀ r ∈ R, r.p.val.length ≤ 140737488355328) ∧ R.length ≤ L.length := by
  constructor
  · intro r hr
    have h1 : r.p ∈ L.filterMap wrF := by rw [← hR]; exact List.mem_map.2 ⟨r, hr, rfl⟩
    obtain ⟨x, hx, he⟩ := List.mem_filterMap.1 h1
    have h2 := (hs x hx).val
    unfold wrF at he
    split at he
    · injection he with he
      rw [← he]
      simp only
      split
      · simp
      · omega
    · cases he
  · have := congrArg List.length hR
    rw [List.length_map] at this
    rw [this]
    exact List.length_filterMap_le _ _
structure CBox (W : World) (b8 b9 : Nat) (x : EvR) : Prop where
  kind : W.cell? ⟨b8, 0, none⟩ = some (.int .i64 x.s.kind)
  node : W.cell? ⟨b8, 1, none⟩ = some (.int .i64 x.s.node)
  n : W.cell? ⟨b8, 2, none⟩ = some (.int .i64 x.s.n)
  s1 : W.cell? ⟨b8, 5, none⟩ = some (.int .i64 x.s.s1)
  s2 : W.cell? ⟨b8, 6, none⟩ = some (.int .i64 x.s.s2)
  key : W.cell? ⟨b8, 7, none⟩ = some (.string x.s.key)
  err : W.cell? ⟨b9, 0, none⟩ = some (.int .i64 x.r.err)
  an : W.cell? ⟨b9, 1, none⟩ = some (.int .i64 x.r.an)
  t1 : W.cell? ⟨b9, 2, none⟩ = some (.int .i64 x.r.t1)
  t2 : W.cell? ⟨b9, 3, none⟩ = some (.int .i64 x.r.t2)
  found : W.cell? ⟨b9, 4, none⟩ = some (.bool x.r.found)
  aval : W.cell? ⟨b9, 5, none⟩ = some (.slice x.r.aa x.r.aval.length x.r.acap)
theorem cBox {W1 : World} {b8 b9 : Nat} {x : EvR} {t u : TypeId} (h1 : W1.heap[b8]? = some (.cells x.s.cells.toArray t (0, 0))) (h2 : W1.heap[b9]? = some (.cells x.r.cells.toArray u (0, 0))) : ∀ W, Kp No W1 W → CBox W b8 b9 x := fun W hW => by
  have e1 := hW.get h1 fun x => x
  have e2 := hW.get h2 fun x => x
  constructor
  · rw [cell_at e1]; rfl
  · rw [cell_at e1]; rfl
  · rw [cell_at e1]; rfl
  · rw [cell_at e1]; rfl
  · rw [cell_at e1]; rfl
  · rw [cell_at e1]; rfl
  · rw [cell_at e2]; rfl
  · rw [cell_at e2]; rfl
  · rw [cell_at e2]; rfl
  · rw [cell_at e2]; rfl
  · rw [cell_at e2]; rfl
  · rw [cell_at e2]; rfl
structure CRel (W5 V : World) (b8 b9 : Nat) (x : EvR) : Prop where
  kp : Kp No W5 V
  b8 : V.heap[b8]? = some (.cells x.s.cells.toArray 41 (0, 0))
  b9 : V.heap[b9]? = some (.cells x.r.cells.toArray 45 (0, 0))
theorem told_of (sn : Snaps) (k : Int × Int) : ∃ (told : Bool) (T1 T2 : Int), gget sn k = (if told then some (T1, T2) else none) ∧ (told = false → T1 = 0 ∧ T2 = 0) := by
  cases h : gget sn k with
  | none => exact ⟨false, 0, 0, rfl, fun _ => ⟨rfl, rfl⟩⟩
  | some t => exact ⟨true, t.1, t.2, rfl, fun h => by cases h⟩
set_option maxRecDepth 100000 in
set_option maxHeartbeats 4000000 in
theorem Check_any (w : World) (a : Option Addr) (cap : Nat) (L : List EvR) (h : EvsAt w a L) (hl : L.length ≤ 1000) (hs : ∀ x ∈ L, x.Li) :
    Calls Try.prog 12 #[.slice a L.length cap] w fun e w' => e = .returned (.tuple #[.int .i64 (checkF L).1, .bool (checkF L).2]) ∧ Kp No w w' := by
  obtain ⟨F, hF⟩ : ∃ F, F = checkF L := ⟨_, rfl⟩
  rw [← hF]
  have HF := Lib.hid hF
  have HA := Lib.hid h
  have HS := Lib.hid hs
  have HW := Lib.hid (Writes_any w a cap L h hl (fun x hx => by have := (hs x hx).val; omega))
  have hmm := @run_makeMap Try.prog
  clear hF h hs
  go_enter Try.func12, Try.ntmps12
  go_wp2_with fail
  refine HW.out.mono ?_
  rintro e W0 ⟨b, wc, R, rfl, hR, hWs, hk0⟩
  obtain ⟨hRv, hRl⟩ := wr_small hR HS.out
  have hRl2 : R.length ≤ 1000 := by omega
  have HRv := Lib.hid hRv
  have HR := Lib.hid hR
  have HWs := Lib.hid hWs
  have HK0 := Lib.hid hk0
  clear hRv hRl hR hWs hk0
  go_wp2_with fail
  go_loopw [18] (fun i wr => ∃ (k : Nat) (sn : Snaps), k ≤ L.length ∧ i = .int .i64 (k : Int) ∧ Hid (GMap placeV wr W0.heap.size (snV sn)) ∧ Hid (Kp No W0 wr) ∧ Hid (ckState (R.map (·.p)) (L.take k) = (sn, k, none))) (fun i _ => L.length - (intOf i).toNat)
  case atStart => exact ⟨0, [], Nat.zero_le _, rfl, Lib.hid (GMap.made placeV W0), Lib.hid ((Kp.refl _ _).alloc _), Lib.hid rfl⟩
  case round =>
    obtain ⟨k, sn, hk, rfl, HG, HK, HC⟩ := hrel
    have HKw := Lib.hid (HK0.out.trans_same HK.out)
    have hm0 := HG.out.lt
    by_cases hlt : k < L.length
    · obtain ⟨g, off, rfl, l0⟩ := rd_chunk (f := EvR.cells) (c := 18) EvR.cells_len (by decide) (HA.out.top.kp HKw.out) hlt
      have HE := Lib.hid (List.take_succ_eq_append_getElem hlt)
      have hat := (HA.out.each _ (List.getElem_mem hlt)).keep HKw.out
      have hli := HS.out _ (List.getElem_mem hlt)
      obtain ⟨x, hx⟩ : ∃ x, x = L[k] := ⟨_, rfl⟩
      rw [← hx] at l0 HE hat hli
      have R1 : Hid (wr.rangeAt g (off + k * 18) x.cells) := Lib.hid fun j v hv => l0 wr (Kp.refl _ _) j v hv
      have HAT := Lib.hid hat
      have HLI := Lib.hid hli
      obtain ⟨W5, hW5⟩ : ∃ W, W = wr.alloc (.cells x.cells.toArray 47) := ⟨_, rfl⟩
      have k5 : Kp No wr W5 := by rw [hW5]; exact (Kp.refl _ _).alloc _
      have b7 : W5.heap[wr.heap.size]? = some (.cells x.cells.toArray 47 (0, 0)) := by rw [hW5]; exact heap_alloc_new wr _
      have HW5 := Lib.hid hW5
      have hst := ck_snoc (R := R.map (·.p)) HE
      rw [HC.out] at hst
      have HST := Lib.hid hst
      have HB7 := Lib.hid b7
      have HK5 := Lib.hid k5
      have hs5 : wr.heap.size < W5.heap.size := get_lt b7
      clear l0 hx hat hli hW5 k5 b7 hst
      go_upto_region 6 with (first
        | (refine wpList_load_w rfl 47 _ rfl g (off + k * 18) rfl _ _ R1 Try.underlying47 rfl (by kernel_rfl) ?_)
        | (refine wpList_store_w rfl 47 _ _ rfl wr.heap.size (by rfl) _ _ _ rfl rfl (by kernel_rfl) (by rfl) (by rfl) ?_))
      rw [← HW5.out]
      clear HW5 R1
      have RS := Lib.hid (show ∀ W, Kp No W5 W → W.rangeAt wr.heap.size 1 x.s.cells from fun W hW => rangeAt_block (hW.get HB7.out fun x => x) 1 10)
      have RA := Lib.hid (show ∀ W, Kp No W5 W → W.rangeAt wr.heap.size 11 x.r.cells from fun W hW => rangeAt_block (hW.get HB7.out fun x => x) 11 7)
      go_simp
      go_cut [8, 9] from 19 to 100 (fun s8 s9 wx => ∃ b8 b9 : Nat, s8 = .pointer (some ⟨b8, 0, none⟩) ∧ s9 = .pointer (some ⟨b9, 0, none⟩) ∧ Hid (CRel W5 wx b8 b9 x))
      case first =>
        refine wp_region_fork (Kp No W5) [0,0,0,0,2,2,2,2] [0,1,2,3] 4 5 [5,6,7] [4,6,7] (by kernel_rfl) (by kernel_rfl) (fun _ n h => h.drewN n) (Kp.refl _ _) ?_
        repeat (first
          | (apply wpOrd_skip rfl (by decide) rfl; (focus (go_simp; rfl)))
          | (apply wpOrd_pure rfl rfl rfl; (focus (intro _ _; go_simp; (try go_ints); rfl)); (focus (go_simp; rfl)))
          | (apply wpOrd_read rfl rfl rfl; (focus (intro _; go_simp; (try go_ints); rfl)); (focus (go_simp; rfl))))
        refine wpOrd_pure rfl rfl rfl (v := .agg x.s.cells.toArray) (fun W0 hW => exec_load_w 41 _ rfl wr.heap.size 1 rfl x.s.cells _ (RS.out W0 hW) Try.underlying41 rfl (by kernel_rfl)) rfl ?_
        repeat (first
          | (apply wpOrd_skip rfl (by decide) rfl; (focus (go_simp; rfl)))
          | (apply wpOrd_pure rfl rfl rfl; (focus (intro _ _; go_simp; (try go_ints); rfl)); (focus (go_simp; rfl)))
          | (apply wpOrd_read rfl rfl rfl; (focus (intro _; go_simp; (try go_ints); rfl)); (focus (go_simp; rfl))))
        refine wpOrd_pure rfl rfl rfl (v := .agg x.r.cells.toArray) (fun W0 hW => exec_load_w 45 _ rfl wr.heap.size 11 rfl x.r.cells _ (RA.out W0 hW) Try.underlying45 rfl (by kernel_rfl)) rfl ?_
        refine fork_intro (fun n => (Kp.refl _ _).drewN n) (fun n0 => ?_) (fun n0 => ?_)
        ·
          refine wpOrd_eff rfl rfl (fun n1 => ?_)
          go_wp2_with fail
          refine ⟨(((Kp.refl _ _).drewN _).alloc _), ?_⟩
          obtain ⟨W6, hW6⟩ : ∃ W, W = (W5.drewN (n0 + n1)).alloc (.cells #[.int .i64 0, .int .i64 0, .int .i64 0, .int .i64 0, .int .u8 0, .int .i64 0, .int .i64 0, .string { data := #[] }, .string { data := #[] }, .slice none 0 0] 41) := ⟨_, rfl⟩
          have k6 : Kp No W5 W6 := by rw [hW6]; exact ((Kp.refl _ _).drewN _).alloc _
          have ba : W6.heap[W5.heap.size]? = some (.cells #[.int .i64 0, .int .i64 0, .int .i64 0, .int .i64 0, .int .u8 0, .int .i64 0, .int .i64 0, .string { data := #[] }, .string { data := #[] }, .slice none 0 0] 41 (0, 0)) := by rw [hW6]; exact heap_alloc_new (W5.drewN (n0 + n1)) _
          rw [← hW6]
          clear hW6
          refine wpOrd_eff rfl rfl (fun n2 => ?_)
          go_wp2_with fail
          refine ⟨(k6.drewN _).alloc _, ?_⟩
          obtain ⟨W7, hW7⟩ : ∃ W, W = (W6.drewN n2).alloc (.cells #[.int .i64 0, .int .i64 0, .int .i64 0, .int .i64 0, .bool false, .slice none 0 0, .slice none 0 0] 45) := ⟨_, rfl⟩
          have k67 : Kp No W6 W7 := by rw [hW7]; exact ((Kp.refl _ _).drewN _).alloc _
          have bb : W7.heap[W6.heap.size]? = some (.cells #[.int .i64 0, .int .i64 0, .int .i64 0, .int .i64 0, .bool false, .slice none 0 0, .slice none 0 0] 45 (0, 0)) := by rw [hW7]; exact heap_alloc_new (W6.drewN n2) _
          rw [← hW7]
          have k7 : Kp No W5 W7 := k6.trans_same k67
          have ba' := k67.get ba fun x => x
          have hs6 : W5.heap.size < W6.heap.size := get_lt ba
          clear hW7 k6 k67 ba
          refine wpOrd_eff rfl rfl (fun n3 => ?_)
          have HB8 := Lib.hid (show (W7.drewN n3).heap[W5.heap.size]? = some (.cells #[.int .i64 0, .int .i64 0, .int .i64 0, .int .i64 0, .int .u8 0, .int .i64 0, .int .i64 0, .string { data := #[] }, .string { data := #[] }, .slice none 0 0] 41 (0, 0)) from by first | exact ba' | exact bb)
          go_wp2_with (refine wpList_store_r rfl 41 _ _ rfl W5.heap.size _ rfl rfl 41 _ HB8 (by kernel_rfl) (by rfl) (by rfl) ?_)
          have k8 : Kp No W5 ((W7.drewN n3).setRow W5.heap.size x.s.cells.toArray) := (k7.drewN n3).setRow (.inr (by omega)) _
          refine ⟨k8, ?_⟩
          have b8 := setRow_at (cs := x.s.cells.toArray) HB8.out
          have b9' : ((W7.drewN n3).setRow W5.heap.size x.s.cells.toArray).heap[W6.heap.size]? = some (.cells #[.int .i64 0, .int .i64 0, .int .i64 0, .int .i64 0, .bool false, .slice none 0 0, .slice none 0 0] 45 (0, 0)) := setRow_far (show (W7.drewN n3).heap[W6.heap.size]? = _ from by first | exact bb | exact ba') (by omega)
          obtain ⟨W8, hW8⟩ : ∃ W, W = (W7.drewN n3).setRow W5.heap.size x.s.cells.toArray := ⟨_, rfl⟩
          rw [← hW8] at k8 b8 b9'
          rw [← hW8]
          clear hW8 k7 ba' bb HB8
          refine wpOrd_eff rfl rfl (fun n4 => ?_)
          have HB9 := Lib.hid (show (W8.drewN n4).heap[W6.heap.size]? = _ from b9')
          go_wp2_with (refine wpList_store_r rfl 45 _ _ rfl W6.heap.size _ rfl rfl 45 _ HB9 (by kernel_rfl) (by rfl) (by rfl) ?_)
          have k9 : Kp No W5 ((W8.drewN n4).setRow W6.heap.size x.r.cells.toArray) := (k8.drewN n4).setRow (.inr (by omega)) _
          refine ⟨k9, ?_⟩
          have b9 := setRow_at (cs := x.r.cells.toArray) HB9.out
          have b8' : ((W8.drewN n4).setRow W6.heap.size x.r.cells.toArray).heap[W5.heap.size]? = _ := setRow_far (show (W8.drewN n4).heap[W5.heap.size]? = _ from b8) (by omega)
          repeat (first
            | (apply wpOrd_skip rfl (by decide) rfl; (focus (go_simp; rfl)))
            | (apply wpOrd_pure rfl rfl rfl; (focus (intro _ _; go_simp; (try go_ints); rfl)); (focus (go_simp; rfl)))
            | (apply wpOrd_read rfl rfl rfl; (focus (intro _; go_simp; (try go_ints); rfl)); (focus (go_simp; rfl))))
          refine wpOrd_nil (fun nq => ?_)
          have HCR := Lib.hid (show CRel W5 (((W8.drewN n4).setRow W6.heap.size x.r.cells.toArray).drewN nq) W5.heap.size W6.heap.size x from ⟨k9.drewN nq, b8', b9⟩)
          clear k9 k8 b8 b9 b8' b9' HB9
          go_wp2_with fail
          go_meet
          case rel => exact ⟨_, _, rfl, rfl, HCR⟩
        ·
          refine wpOrd_eff rfl rfl (fun n1 => ?_)
          go_wp2_with fail
          refine ⟨(((Kp.refl _ _).drewN _).alloc _), ?_⟩
          obtain ⟨W6, hW6⟩ : ∃ W, W = (W5.drewN (n0 + n1)).alloc (.cells #[.int .i64 0, .int .i64 0, .int .i64 0, .int .i64 0, .bool false, .slice none 0 0, .slice none 0 0] 45) := ⟨_, rfl⟩
          have k6 : Kp No W5 W6 := by rw [hW6]; exact ((Kp.refl _ _).drewN _).alloc _
          have ba : W6.heap[W5.heap.size]? = some (.cells #[.int .i64 0, .int .i64 0, .int .i64 0, .int .i64 0, .bool false, .slice none 0 0, .slice none 0 0] 45 (0, 0)) := by rw [hW6]; exact heap_alloc_new (W5.drewN (n0 + n1)) _
          rw [← hW6]
          clear hW6
          refine wpOrd_eff rfl rfl (fun n2 => ?_)
          go_wp2_with fail
          refine ⟨(k6.drewN _).alloc _, ?_⟩
          obtain ⟨W7, hW7⟩ : ∃ W, W = (W6.drewN n2).alloc (.cells #[.int .i64 0, .int .i64 0, .int .i64 0, .int .i64 0, .int .u8 0, .int .i64 0, .int .i64 0, .string { data := #[] }, .string { data := #[] }, .slice none 0 0] 41) := ⟨_, rfl⟩
          have k67 : Kp No W6 W7 := by rw [hW7]; exact ((Kp.refl _ _).drewN _).alloc _
          have bb : W7.heap[W6.heap.size]? = some (.cells #[.int .i64 0, .int .i64 0, .int .i64 0, .int .i64 0, .int .u8 0, .int .i64 0, .int .i64 0, .string { data := #[] }, .string { data := #[] }, .slice none 0 0] 41 (0, 0)) := by rw [hW7]; exact heap_alloc_new (W6.drewN n2) _
          rw [← hW7]
          have k7 : Kp No W5 W7 := k6.trans_same k67
          have ba' := k67.get ba fun x => x
          have hs6 : W5.heap.size < W6.heap.size := get_lt ba
          clear hW7 k6 k67 ba
          refine wpOrd_eff rfl rfl (fun n3 => ?_)
          have HB8 := Lib.hid (show (W7.drewN n3).heap[W6.heap.size]? = some (.cells #[.int .i64 0, .int .i64 0, .int .i64 0, .int .i64 0, .int .u8 0, .int .i64 0, .int .i64 0, .string { data := #[] }, .string { data := #[] }, .slice none 0 0] 41 (0, 0)) from by first | exact ba' | exact bb)
          go_wp2_with (refine wpList_store_r rfl 41 _ _ rfl W6.heap.size _ rfl rfl 41 _ HB8 (by kernel_rfl) (by rfl) (by rfl) ?_)
          have k8 : Kp No W5 ((W7.drewN n3).setRow W6.heap.size x.s.cells.toArray) := (k7.drewN n3).setRow (.inr (by omega)) _
          refine ⟨k8, ?_⟩
          have b8 := setRow_at (cs := x.s.cells.toArray) HB8.out
          have b9' : ((W7.drewN n3).setRow W6.heap.size x.s.cells.toArray).heap[W5.heap.size]? = some (.cells #[.int .i64 0, .int .i64 0, .int .i64 0, .int .i64 0, .bool false, .slice none 0 0, .slice none 0 0] 45 (0, 0)) := setRow_far (show (W7.drewN n3).heap[W5.heap.size]? = _ from by first | exact bb | exact ba') (by omega)
          obtain ⟨W8, hW8⟩ : ∃ W, W = (W7.drewN n3).setRow W6.heap.size x.s.cells.toArray := ⟨_, rfl⟩
          rw [← hW8] at k8 b8 b9'
          rw [← hW8]
          clear hW8 k7 ba' bb HB8
          refine wpOrd_eff rfl rfl (fun n4 => ?_)
          have HB9 := Lib.hid (show (W8.drewN n4).heap[W5.heap.size]? = _ from b9')
          go_wp2_with (refine wpList_store_r rfl 45 _ _ rfl W5.heap.size _ rfl rfl 45 _ HB9 (by kernel_rfl) (by rfl) (by rfl) ?_)
          have k9 : Kp No W5 ((W8.drewN n4).setRow W5.heap.size x.r.cells.toArray) := (k8.drewN n4).setRow (.inr (by omega)) _
          refine ⟨k9, ?_⟩
          have b9 := setRow_at (cs := x.r.cells.toArray) HB9.out
          have b8' : ((W8.drewN n4).setRow W5.heap.size x.r.cells.toArray).heap[W6.heap.size]? = _ := setRow_far (show (W8.drewN n4).heap[W6.heap.size]? = _ from b8) (by omega)
          repeat (first
            | (apply wpOrd_skip rfl (by decide) rfl; (focus (go_simp; rfl)))
            | (apply wpOrd_pure rfl rfl rfl; (focus (intro _ _; go_simp; (try go_ints); rfl)); (focus (go_simp; rfl)))
            | (apply wpOrd_read rfl rfl rfl; (focus (intro _; go_simp; (try go_ints); rfl)); (focus (go_simp; rfl))))
          refine wpOrd_nil (fun nq => ?_)
          have HCR := Lib.hid (show CRel W5 (((W8.drewN n4).setRow W5.heap.size x.r.cells.toArray).drewN nq) W6.heap.size W5.heap.size x from ⟨k9.drewN nq, b8', b9⟩)
          clear k9 k8 b8 b9 b8' b9' HB9
          go_wp2_with fail
          go_meet
          case rel => exact ⟨_, _, rfl, rfl, HCR⟩
      case rest =>
      obtain ⟨b8, b9, rfl, rfl, HCR⟩ := hcut
      rename World => V
      have HBX := Lib.hid (cBox HCR.out.b8 HCR.out.b9)
      have HKV := Lib.hid HCR.out.kp
      have HKwV := Lib.hid (HK5.out.trans_same HCR.out.kp)
      have hs8 : b8 < V.heap.size := get_lt HCR.out.b8
      have hs9 : b9 < V.heap.size := get_lt HCR.out.b9
      have hsm : W0.heap.size < V.heap.size := Nat.lt_of_lt_of_le hm0 HKwV.out.size
      clear RS RA
      obtain ⟨c0, c1, c2, c3, c4, c5, d0, d1, d2, d3, d4, d5⟩ := HBX.out V (Kp.refl _ _)
      by_cases herr : x.r.err = 0
      · rw [herr] at d0
        obtain ⟨told, T1, T2, hT, hT0⟩ := told_of sn (x.s.node, x.s.n)
        have hlk : (Instr.lookup 61 (.map (some W0.heap.size)) (.agg #[.int .i64 x.s.node, .int .i64 x.s.n]) true).run Try.prog V = .ok (.tuple #[.agg #[.int .i64 T1, .int .i64 T2], .bool told]) V := by
          have h1 := (run_lookup_s (P := Try.prog) (w := V) Try.underlying61 placeLaw zeroStamp (HG.out.of_heap (HKwV.out.block _ hm0 (fun x => x))) (x.s.node, x.s.n)).2
          rw [sn_get, hT] at h1
          cases told with
          | false =>
            obtain ⟨rfl, rfl⟩ := hT0 rfl
            exact h1
          | true => exact h1
        have HErr := Lib.hid herr
        have HT := Lib.hid hT
        obtain ⟨V9, hV9⟩ : ∃ W, W = V.alloc (.cells #[.int .i64 T1, .int .i64 T2] 32) := ⟨_, rfl⟩
        have k9 : Kp No V V9 := by rw [hV9]; exact (Kp.refl _ _).alloc _
        have b10 : V9.heap[V.heap.size]? = some (.cells #[.int .i64 T1, .int .i64 T2] 32 (0, 0)) := by rw [hV9]; exact heap_alloc_new V _
        have hs10 : V.heap.size < V9.heap.size := get_lt b10
        have HV9 := Lib.hid hV9
        clear hV9 herr hT hT0
        go_upto_block 2 with fail
        rw [← HV9.out]
        clear HV9 hlk c0 c1 c2 c3 c4 c5 d0 d1 d2 d3 d4 d5
        obtain ⟨c0, c1, c2, c3, c4, c5, d0, d1, d2, d3, d4, d5⟩ := HBX.out V9 k9
        have g0 : V9.cell? ⟨V.heap.size, 0, none⟩ = some (.int .i64 T1) := by rw [cell_at b10]; rfl
        have g1 : V9.cell? ⟨V.heap.size, 1, none⟩ = some (.int .i64 T2) := by rw [cell_at b10]; rfl
        have HK9 := Lib.hid (HKwV.out.trans_same k9)
        have HKV9 := Lib.hid (HKV.out.trans_same k9)
        have HKA := Lib.hid (HKw.out.trans_same (HKwV.out.trans_same k9))
        have hw0 := HK0.out
        have HWR := Lib.hid (HWs.out.keep (HK.out.trans_same (HKwV.out.trans_same k9)))
        have HX9 := Lib.hid (HAT.out.keep (HKwV.out.trans_same k9))
        clear b10 hw0
        have hkinds : x.s.kind = 1 ∨ x.s.kind = 2 ∨ x.s.kind = 3 ∨ x.s.kind = 4 ∨ x.s.kind = 5 ∨ (x.s.kind ≠ 1 ∧ x.s.kind ≠ 2 ∧ x.s.kind ≠ 3 ∧ x.s.kind ≠ 4 ∧ x.s.kind ≠ 5) := by omega
        rcases hkinds with hk1 | hk1 | hk1 | hk1 | hk1 | ⟨hk1, hk2, hk3, hk4, hk5⟩
        ·
          have e1 : (x.s.kind == 1) = true := by rw [hk1]; rfl
          have e2 : (x.s.kind == 2) = false := by rw [hk1]; rfl
          have e3 : (x.s.kind == 3) = false := by rw [hk1]; rfl
          have e4 : (x.s.kind == 4) = false := by rw [hk1]; rfl
          have e5 : (x.s.kind == 5) = false := by rw [hk1]; rfl
          obtain ⟨q, hq⟩ : ∃ q, q = cmpH x.r.t1 x.r.t2 x.s.s1 x.s.s2 := ⟨_, rfl⟩
          have hcc := Compare_any x.r.t1 x.r.t2 x.s.s1 x.s.s2 V9
          rw [← hq] at hcc
          have hcan : canF (R.map (·.p)) sn x = decide (0 < q) := by rw [hq]; simp [canF, hk1]
          have HCan0 := Lib.hid hcan
          have HSn := Lib.hid (show snF sn x = sn by simp [snF, hk1])
          have HCC := Lib.hid hcc
          clear hcc hcan hq hk1
          go_wp2_with fail
          refine HCC.out.mono ?_
          rintro e w2 ⟨rfl, hk2⟩
          have HKn := Lib.hid (HK9.out.trans_same hk2)
          clear hk2 c0 c1 c2 c3 c4 c5 d0 d1 d2 d3 d4 d5 g0 g1
          by_cases hq : 0 < q
          · have hd := decide_eq_true hq
            have HCan := Lib.hid (show canF (R.map (·.p)) sn x = true by rw [HCan0.out, hd])
            clear hq
            have HST2 := Lib.hid (show ckState (R.map (·.p)) (L.take (k + 1)) = (sn, k + 1, none) by
              rw [HST.out]
              unfold ckStep
              rw [if_neg (by simp), if_neg (by rw [HErr.out]; simp), if_pos HCan.out, HSn.out])
            have HG2 := Lib.hid (HG.out.of_heap (HKn.out.block _ hm0 (fun x => x)))
            have HK2 := Lib.hid (HK.out.trans_same HKn.out)
            go_wp2_with fail
            go_roundw
            case rel => exact ⟨k + 1, sn, by omega, by go_num, HG2, HK2, HST2⟩
            case measure => simp [intOf]; omega
          · have hd := decide_eq_false hq
            have HCan := Lib.hid (show canF (R.map (·.p)) sn x = false by rw [HCan0.out, hd])
            clear hq
            have HFF := Lib.hid (show F = ((k : Int), true) by
              rw [HF.out]
              refine ck_ends (k := k + 1) HR.out.symm ?_
              rw [HST.out]
              unfold ckStep
              rw [if_neg (by simp), if_neg (by rw [HErr.out]; simp), if_neg (by rw [HCan.out]; simp)])
            have HKE := Lib.hid (HKw.out.trans_same HKn.out)
            go_wp2_with fail
            go_ret2
            exact ⟨by rw [HFF.out]; rfl, HKE.out⟩
        ·
          have e1 : (x.s.kind == 1) = false := by rw [hk1]; rfl
          have e2 : (x.s.kind == 2) = true := by rw [hk1]; rfl
          have e3 : (x.s.kind == 3) = false := by rw [hk1]; rfl
          have e4 : (x.s.kind == 4) = false := by rw [hk1]; rfl
          have e5 : (x.s.kind == 5) = false := by rw [hk1]; rfl
          obtain ⟨q, hq⟩ : ∃ q, q = cmpH x.r.t1 x.r.t2 x.s.s1 x.s.s2 := ⟨_, rfl⟩
          have hcc := Compare_any x.r.t1 x.r.t2 x.s.s1 x.s.s2 V9
          rw [← hq] at hcc
          have hcan : canF (R.map (·.p)) sn x = decide (0 < q) := by rw [hq]; simp [canF, hk1]
          have HCan0 := Lib.hid hcan
          have HSn := Lib.hid (show snF sn x = sn by simp [snF, hk1])
          have HCC := Lib.hid hcc
          clear hcc hcan hq hk1
          go_wp2_with fail
          refine HCC.out.mono ?_
          rintro e w2 ⟨rfl, hk2⟩
          have HKn := Lib.hid (HK9.out.trans_same hk2)
          clear hk2 c0 c1 c2 c3 c4 c5 d0 d1 d2 d3 d4 d5 g0 g1
          by_cases hq : 0 < q
          · have hd := decide_eq_true hq
            have HCan := Lib.hid (show canF (R.map (·.p)) sn x = true by rw [HCan0.out, hd])
            clear hq
            have HST2 := Lib.hid (show ckState (R.map (·.p)) (L.take (k + 1)) = (sn, k + 1, none) by
              rw [HST.out]
              unfold ckStep
              rw [if_neg (by simp), if_neg (by rw [HErr.out]; simp), if_pos HCan.out, HSn.out])
            have HG2 := Lib.hid (HG.out.of_heap (HKn.out.block _ hm0 (fun x => x)))
            have HK2 := Lib.hid (HK.out.trans_same HKn.out)
            go_wp2_with fail
            go_roundw
            case rel => exact ⟨k + 1, sn, by omega, by go_num, HG2, HK2, HST2⟩
            case measure => simp [intOf]; omega
          · have hd := decide_eq_false hq
            have HCan := Lib.hid (show canF (R.map (·.p)) sn x = false by rw [HCan0.out, hd])
            clear hq
            have HFF := Lib.hid (show F = ((k : Int), true) by
              rw [HF.out]
              refine ck_ends (k := k + 1) HR.out.symm ?_
              rw [HST.out]
              unfold ckStep
              rw [if_neg (by simp), if_neg (by rw [HErr.out]; simp), if_neg (by rw [HCan.out]; simp)])
            have HKE := Lib.hid (HKw.out.trans_same HKn.out)
            go_wp2_with fail
            go_ret2
            exact ⟨by rw [HFF.out]; rfl, HKE.out⟩
        ·
          have e1 : (x.s.kind == 1) = false := by rw [hk1]; rfl
          have e2 : (x.s.kind == 2) = false := by rw [hk1]; rfl
          have e3 : (x.s.kind == 3) = true := by rw [hk1]; rfl
          have e4 : (x.s.kind == 4) = false := by rw [hk1]; rfl
          have e5 : (x.s.kind == 5) = false := by rw [hk1]; rfl
          obtain ⟨q, hq⟩ : ∃ q, q = cmpH x.r.t1 x.r.t2 x.s.s1 x.s.s2 := ⟨_, rfl⟩
          have hcc := Compare_any x.r.t1 x.r.t2 x.s.s1 x.s.s2 V9
          rw [← hq] at hcc
          have HCan0 := Lib.hid (show canF (R.map (·.p)) sn x = decide (0 ≤ q) by rw [hq]; simp [canF, hk1])
          have HSn := Lib.hid (show snF sn x = gset sn (x.s.node, x.r.an) (x.r.t1, x.r.t2) by simp [snF, hk1])
          have HCC := Lib.hid hcc
          clear hcc hq hk1
          go_wp2_with fail
          refine HCC.out.mono ?_
          rintro e w2 ⟨rfl, hk2⟩
          have HKn := Lib.hid (HK9.out.trans_same hk2)
          clear c0 c1 c2 c3 c4 c5 d0 d1 d2 d3 d4 d5 g0 g1
          obtain ⟨_, c1, _, _, _, _, _, d1, d2, d3, _, _⟩ := HBX.out w2 (k9.trans_same hk2)
          obtain ⟨o, hupd, hG⟩ := run_update_s (P := Try.prog) (w := w2) Try.underlying61 placeLaw (HG.out.of_heap (HKn.out.block _ hm0 (fun x => x))) (x.s.node, x.r.an) (stv x.r.t1 x.r.t2)
          have hupd' : (Instr.mapUpdate 61 (.map (some W0.heap.size)) (.agg #[.int .i64 x.s.node, .int .i64 x.r.an]) (.agg #[.int .i64 x.r.t1, .int .i64 x.r.t2])).run Try.prog w2 = .ok () (ChangeMaps.setBlock w2 W0.heap.size o) := hupd
          have HG2 := Lib.hid (show GMap placeV (ChangeMaps.setBlock w2 W0.heap.size o) W0.heap.size (snV (gset sn (x.s.node, x.r.an) (x.r.t1, x.r.t2))) by
            rw [sn_set]
            exact hG _ (setBlock_at (Nat.lt_of_lt_of_le hm0 HKn.out.size) o))
          have HK2 := Lib.hid (show Kp No W0 (ChangeMaps.setBlock w2 W0.heap.size o) from (HK.out.trans_same HKn.out).setBlock (.inr (Nat.le_refl _)) o)
          clear hG hupd hk2
          by_cases hq : 0 ≤ q
          · have hd := decide_eq_true hq
            have HST2 := Lib.hid (show ckState (R.map (·.p)) (L.take (k + 1)) = (gset sn (x.s.node, x.r.an) (x.r.t1, x.r.t2), k + 1, none) by
              rw [HST.out]
              unfold ckStep
              rw [if_neg (by simp), if_neg (by rw [HErr.out]; simp), if_pos (by rw [HCan0.out, hd]), HSn.out])
            clear hq
            go_wp2_with fail
            go_roundw
            case rel => exact ⟨k + 1, _, by omega, by go_num, HG2, HK2, HST2⟩
            case measure => simp [intOf]; omega
          · have hd := decide_eq_false hq
            have HFF := Lib.hid (show F = ((k : Int), true) by
              rw [HF.out]
              refine ck_ends (k := k + 1) HR.out.symm ?_
              rw [HST.out]
              unfold ckStep
              rw [if_neg (by simp), if_neg (by rw [HErr.out]; simp), if_neg (by rw [HCan0.out, hd]; simp)])
            have HKE := Lib.hid (HK0.out.trans_same HK2.out)
            clear hq
            go_wp2_with fail
            go_ret2
            exact ⟨by rw [HFF.out]; rfl, HKE.out⟩
        ·
          have e1 : (x.s.kind == 1) = false := by rw [hk1]; rfl
          have e2 : (x.s.kind == 2) = false := by rw [hk1]; rfl
          have e3 : (x.s.kind == 3) = false := by rw [hk1]; rfl
          have e4 : (x.s.kind == 4) = true := by rw [hk1]; rfl
          have e5 : (x.s.kind == 5) = false := by rw [hk1]; rfl
          cases told with
          | false =>
            have HCan := Lib.hid (show canF (R.map (·.p)) sn x = true by simp [canF, hk1, HT.out])
            have HSn := Lib.hid (show snF sn x = sn by simp [snF, hk1])
            have HKn := HK9
            clear hk1
            have HST2 := Lib.hid (show ckState (R.map (·.p)) (L.take (k + 1)) = (sn, k + 1, none) by
              rw [HST.out]
              unfold ckStep
              rw [if_neg (by simp), if_neg (by rw [HErr.out]; simp), if_pos HCan.out, HSn.out])
            have HG2 := Lib.hid (HG.out.of_heap (HKn.out.block _ hm0 (fun x => x)))
            have HK2 := Lib.hid (HK.out.trans_same HKn.out)
            go_wp2_with fail
            go_roundw
            case rel => exact ⟨k + 1, sn, by omega, by go_num, HG2, HK2, HST2⟩
            case measure => simp [intOf]; omega
          | true =>
            cases hfo : x.r.found with
            | true =>
              rw [hfo] at d4
              have hcc := found_any V9 b wc R x.s.key T1 T2 HWR.out hRl2 HRv.out x.r.aa x.r.acap x.r.aval HX9.out.r.val
              obtain ⟨q, hq⟩ : ∃ q, q = foundF x.s.key T1 T2 (R.map (·.p)) x.r.aval := ⟨_, rfl⟩
              rw [← hq] at hcc
              have HCan0 := Lib.hid (show canF (R.map (·.p)) sn x = q by rw [hq]; simp [canF, hk1, HT.out, hfo])
              have HSn := Lib.hid (show snF sn x = sn by simp [snF, hk1])
              have HCC := Lib.hid hcc
              clear hcc hq hk1
              go_wp2_with fail
              refine HCC.out.mono ?_
              rintro e w2 ⟨rfl, hk2⟩
              have HKn := Lib.hid (HK9.out.trans_same hk2)
              clear hk2 c0 c1 c2 c3 c4 c5 d0 d1 d2 d3 d4 d5 g0 g1
              cases q with
              | true =>
                have HCan := HCan0
                have HST2 := Lib.hid (show ckState (R.map (·.p)) (L.take (k + 1)) = (sn, k + 1, none) by
                  rw [HST.out]
                  unfold ckStep
                  rw [if_neg (by simp), if_neg (by rw [HErr.out]; simp), if_pos HCan.out, HSn.out])
                have HG2 := Lib.hid (HG.out.of_heap (HKn.out.block _ hm0 (fun x => x)))
                have HK2 := Lib.hid (HK.out.trans_same HKn.out)
                go_wp2_with fail
                go_roundw
                case rel => exact ⟨k + 1, sn, by omega, by go_num, HG2, HK2, HST2⟩
                case measure => simp [intOf]; omega
              | false =>
                have HCan := HCan0
                have HFF := Lib.hid (show F = ((k : Int), true) by
                  rw [HF.out]
                  refine ck_ends (k := k + 1) HR.out.symm ?_
                  rw [HST.out]
                  unfold ckStep
                  rw [if_neg (by simp), if_neg (by rw [HErr.out]; simp), if_neg (by rw [HCan.out]; simp)])
                have HKE := Lib.hid (HKw.out.trans_same HKn.out)
                go_wp2_with fail
                go_ret2
                exact ⟨by rw [HFF.out]; rfl, HKE.out⟩
            | false =>
              rw [hfo] at d4
              have hcc := none_any V9 b wc R x.s.key T1 T2 HWR.out hRl2 HRv.out
              obtain ⟨q, hq⟩ : ∃ q, q = noneF x.s.key T1 T2 (R.map (·.p)) := ⟨_, rfl⟩
              rw [← hq] at hcc
              have HCan0 := Lib.hid (show canF (R.map (·.p)) sn x = q by rw [hq]; simp [canF, hk1, HT.out, hfo])
              have HSn := Lib.hid (show snF sn x = sn by simp [snF, hk1])
              have HCC := Lib.hid hcc
              clear hcc hq hk1
              go_wp2_with fail
              refine HCC.out.mono ?_
              rintro e w2 ⟨rfl, hk2⟩
              have HKn := Lib.hid (HK9.out.trans_same hk2)
              clear hk2 c0 c1 c2 c3 c4 c5 d0 d1 d2 d3 d4 d5 g0 g1
              cases q with
              | true =>
                have HCan := HCan0
                have HST2 := Lib.hid (show ckState (R.map (·.p)) (L.take (k + 1)) = (sn, k + 1, none) by
                  rw [HST.out]
                  unfold ckStep
                  rw [if_neg (by simp), if_neg (by rw [HErr.out]; simp), if_pos HCan.out, HSn.out])
                have HG2 := Lib.hid (HG.out.of_heap (HKn.out.block _ hm0 (fun x => x)))
                have HK2 := Lib.hid (HK.out.trans_same HKn.out)
                go_wp2_with fail
                go_roundw
                case rel => exact ⟨k + 1, sn, by omega, by go_num, HG2, HK2, HST2⟩
                case measure => simp [intOf]; omega
              | false =>
                have HCan := HCan0
                have HFF := Lib.hid (show F = ((k : Int), true) by
                  rw [HF.out]
                  refine ck_ends (k := k + 1) HR.out.symm ?_
                  rw [HST.out]
                  unfold ckStep
                  rw [if_neg (by simp), if_neg (by rw [HErr.out]; simp), if_neg (by rw [HCan.out]; simp)])
                have HKE := Lib.hid (HKw.out.trans_same HKn.out)
                go_wp2_with fail
                go_ret2
                exact ⟨by rw [HFF.out]; rfl, HKE.out⟩
        ·
          have e1 : (x.s.kind == 1) = false := by rw [hk1]; rfl
          have e2 : (x.s.kind == 2) = false := by rw [hk1]; rfl
          have e3 : (x.s.kind == 3) = false := by rw [hk1]; rfl
          have e4 : (x.s.kind == 4) = false := by rw [hk1]; rfl
          have e5 : (x.s.kind == 5) = true := by rw [hk1]; rfl
          cases told with
          | false =>
            have HCan := Lib.hid (show canF (R.map (·.p)) sn x = true by simp [canF, hk1, HT.out])
            have HSn := Lib.hid (show snF sn x = sn by simp [snF, hk1])
            have HKn := HK9
            clear hk1
            have HST2 := Lib.hid (show ckState (R.map (·.p)) (L.take (k + 1)) = (sn, k + 1, none) by
              rw [HST.out]
              unfold ckStep
              rw [if_neg (by simp), if_neg (by rw [HErr.out]; simp), if_pos HCan.out, HSn.out])
            have HG2 := Lib.hid (HG.out.of_heap (HKn.out.block _ hm0 (fun x => x)))
            have HK2 := Lib.hid (HK.out.trans_same HKn.out)
            go_wp2_with fail
            go_roundw
            case rel => exact ⟨k + 1, sn, by omega, by go_num, HG2, HK2, HST2⟩
            case measure => simp [intOf]; omega
          | true =>
            have R7 := Lib.hid (show V9.rangeAt wr.heap.size 0 x.cells from rangeAt_block (HKV9.out.get HB7.out fun x => x) 0 18)
            have hcc := scanned_any V9 b wc R x T1 T2 HWR.out hRl2 HRv.out HX9.out HLI.out
            obtain ⟨q, hq⟩ : ∃ q, q = scannedF (R.map (·.p)) x.s.key x.s.to x.s.m T1 T2 (pairsP x) := ⟨_, rfl⟩
            rw [← hq] at hcc
            have HCan0 := Lib.hid (show canF (R.map (·.p)) sn x = q by rw [hq]; simp [canF, hk1, HT.out])
            have HSn := Lib.hid (show snF sn x = sn by simp [snF, hk1])
            have HCC := Lib.hid hcc
            clear hcc hq hk1
            go_wp2_with (refine wpList_load_g rfl 47 _ rfl wr.heap.size 0 rfl _ _ R7 Try.underlying47 rfl (by kernel_rfl) ?_)
            refine HCC.out.mono ?_
            rintro e w2 ⟨rfl, hk2⟩
            have HKn := Lib.hid (HK9.out.trans_same hk2)
            clear hk2 c0 c1 c2 c3 c4 c5 d0 d1 d2 d3 d4 d5 g0 g1
            cases q with
            | true =>
              have HCan := HCan0
              have HST2 := Lib.hid (show ckState (R.map (·.p)) (L.take (k + 1)) = (sn, k + 1, none) by
                rw [HST.out]
                unfold ckStep
                rw [if_neg (by simp), if_neg (by rw [HErr.out]; simp), if_pos HCan.out, HSn.out])
              have HG2 := Lib.hid (HG.out.of_heap (HKn.out.block _ hm0 (fun x => x)))
              have HK2 := Lib.hid (HK.out.trans_same HKn.out)
              go_wp2_with fail
              go_roundw
              case rel => exact ⟨k + 1, sn, by omega, by go_num, HG2, HK2, HST2⟩
              case measure => simp [intOf]; omega
            | false =>
              have HCan := HCan0
              have HFF := Lib.hid (show F = ((k : Int), true) by
                rw [HF.out]
                refine ck_ends (k := k + 1) HR.out.symm ?_
                rw [HST.out]
                unfold ckStep
                rw [if_neg (by simp), if_neg (by rw [HErr.out]; simp), if_neg (by rw [HCan.out]; simp)])
              have HKE := Lib.hid (HKw.out.trans_same HKn.out)
              go_wp2_with fail
              go_ret2
              exact ⟨by rw [HFF.out]; rfl, HKE.out⟩
        · have e1 : (x.s.kind == 1) = false := by simp [hk1]
          have e2 : (x.s.kind == 2) = false := by simp [hk2]
          have e3 : (x.s.kind == 3) = false := by simp [hk3]
          have e4 : (x.s.kind == 4) = false := by simp [hk4]
          have e5 : (x.s.kind == 5) = false := by simp [hk5]
          have HCan := Lib.hid (show canF (R.map (·.p)) sn x = true by simp [canF, hk1, hk2, hk3, hk4, hk5])
          have HSn := Lib.hid (show snF sn x = sn by simp [snF, hk3])
          have HKn := HK9
          clear hk1 hk2 hk3 hk4 hk5
          have HST2 := Lib.hid (show ckState (R.map (·.p)) (L.take (k + 1)) = (sn, k + 1, none) by
            rw [HST.out]
            unfold ckStep
            rw [if_neg (by simp), if_neg (by rw [HErr.out]; simp), if_pos HCan.out, HSn.out])
          have HG2 := Lib.hid (HG.out.of_heap (HKn.out.block _ hm0 (fun x => x)))
          have HK2 := Lib.hid (HK.out.trans_same HKn.out)
          go_wp2_with fail
          go_roundw
          case rel => exact ⟨k + 1, sn, by omega, by go_num, HG2, HK2, HST2⟩
          case measure => simp [intOf]; omega
      · have hne : (x.r.err != 0) = true := by rw [bne_iff_ne]; exact herr
        have HST2 := Lib.hid (show ckState (R.map (·.p)) (L.take (k + 1)) = (sn, k + 1, none) by rw [HST.out]; unfold ckStep; simp [herr])
        have HG2 := Lib.hid (HG.out.of_heap (HKwV.out.block _ hm0 (fun x => x)))
        have HK2 := Lib.hid (HK.out.trans_same HKwV.out)
        clear herr
        go_wp2_with fail
        go_roundw
        case rel => exact ⟨k + 1, sn, by omega, by go_num, HG2, HK2, HST2⟩
        case measure => simp [intOf]; omega
    · obtain rfl : k = L.length := by omega
      have hend : F = (0, false) := by
        have h1 := HC.out
        rw [List.take_length, HR.out] at h1
        rw [HF.out]
        unfold checkF
        rw [h1]
      have HEnd := Lib.hid hend
      clear hlt hend
      go_wp2_with fail
      go_ret2
      exact ⟨by rw [HEnd.out]; rfl, HKw.out⟩
end Go.Proofs.Ytojlccligmfcaaa
