/-
  Of events all writes, as the document has it: the reference's Writes.
-/
import Derived.Test.YtojlccligmfcaaaCWrites
import Derived.Test.YtojlccligmfcaaaCPlain
import Derived.Test.YtojlccligmfcaaaCCheck
import Derived.Test.YtojlccligmfcaaaFork
import Derived.Deep.CutRange
import Derived.Outline
namespace Go.Proofs.Ytojlccligmfcaaa
open Go.RowKit Go.Mer

structure RCRel (W5 V : World) (b8 b9 : Nat) (x : EvR) : Prop where
  kp : Kp No W5 V
  b8 : V.heap[b8]? = some (.cells x.s.cells.toArray 55 (0, 0))
  b9 : V.heap[b9]? = some (.cells x.r.cells.toArray 57 (0, 0))
set_option maxRecDepth 100000 in
set_option maxHeartbeats 4000000 in
theorem rWrites_any (w : World) (a : Option Addr) (cap : Nat) (L : List EvR) (h : EvsAt w a L) (hl : L.length ≤ 1000) (hv : ∀ x ∈ L, x.s.val.length ≤ 140737488355328) :
    Calls Try.prog 8 #[.slice a L.length cap] w (WritesP w L) := by
  have HA := Lib.hid h
  have HV := Lib.hid hv
  clear h hv
  go_enter Try.func8, Try.ntmps8
  go_wp2_with fail
  rename World => w0
  go_loopw [3, 4] (fun s i wr => ∃ (k nn : Nat) (a' : Option Addr) (c' : Nat), k ≤ L.length ∧ nn ≤ k ∧ i = .int .i64 (k : Int) ∧ s = .slice a' nn c' ∧ Hid (WRel 38 w0 wr (.slice a' nn c') nn ((L.take k).filterMap wrF))) (fun _ i _ => L.length - (intOf i).toNat)
  case atStart => exact ⟨0, 0, none, 0, Nat.zero_le _, Nat.le_refl _, rfl, rfl, Lib.hid (by simpa using WRel.nil 38 w0)⟩
  case round =>
    obtain ⟨k, nn, ao, co, hk, hnk, rfl, rfl, HR⟩ := hrel
    rename World => W5
    have HKP := Lib.hid HR.out.kp
    by_cases hlt : k < L.length
    · obtain ⟨g, off, rfl, l0⟩ := rd_chunk (f := EvR.cells) (c := 18) EvR.cells_len (by decide) HA.out.top hlt
      have HE := Lib.hid (List.take_succ_eq_append_getElem hlt)
      have hat := (HA.out.each _ (List.getElem_mem hlt)).keep HKP.out
      have hvl := HV.out _ (List.getElem_mem hlt)
      obtain ⟨x, hx⟩ : ∃ x, x = L[k] := ⟨_, rfl⟩
      rw [← hx] at l0 HE hat hvl
      have HAT := Lib.hid hat
      have RS := Lib.hid (show ∀ W, Kp No W5 W → W.rangeAt g (off + k * 18 + 1) x.s.cells from fun W hW j v hv => by
        rw [Nat.add_assoc]
        refine l0 W (HKP.out.trans_same hW) (1 + j) v ?_
        rw [Nat.add_comm]
        have hj : j < 10 := (List.getElem?_eq_some_iff.1 hv).1
        show (x.s.cells ++ x.r.cells)[j]? = _
        rw [List.getElem?_append_left (by simpa [StepR.cells] using hj)]
        exact hv)
      have RA := Lib.hid (show ∀ W, Kp No W5 W → W.rangeAt g (off + k * 18 + 11) x.r.cells from fun W hW j v hv => by
        rw [Nat.add_assoc]
        refine l0 W (HKP.out.trans_same hW) (11 + j) v ?_
        rw [Nat.add_comm]
        exact hv)
      have T0 := Lib.hid (fun W (hW : Kp No W5 W) => l0 W (HKP.out.trans_same hW) 0 _ rfl)
      have hs0 : g < W5.heap.size := by
        have := World.block_lt_of_cell? W5 _ (l0 W5 HKP.out 0 _ rfl)
        exact this
      clear l0 hx hat
      go_upto_region 5 with fail
      go_cut [5, 6] from 8 to 83 (fun s8 s9 wx => ∃ b8 b9 : Nat, s8 = .pointer (some ⟨b8, 0, none⟩) ∧ s9 = .pointer (some ⟨b9, 0, none⟩) ∧ Hid (RCRel W5 wx b8 b9 x))
      case first =>
        refine wp_region_fork (Kp No W5) [0,0,0,0,0,0,0,0,0,0,2,2,2,2] [0,1,2,3,4,5,6,7,8,9] 10 11 [11,12,13] [10,12,13] (by kernel_rfl) (by kernel_rfl) (fun _ n h => h.drewN n) (Kp.refl _ _) ?_
        repeat (first
          | (apply wpOrd_skip rfl (by decide) rfl; (focus (go_simp; rfl)))
          | (apply wpOrd_pure rfl rfl rfl; (focus (intro _ _; go_simp; (try go_ints); rfl)); (focus (go_simp; rfl)))
          | (apply wpOrd_read rfl rfl rfl; (focus (intro _; go_simp; (try go_ints); rfl)); (focus (go_simp; rfl))))
        refine wpOrd_pure rfl rfl rfl (v := .agg x.s.cells.toArray) (fun W0 hW => exec_load_w 55 _ rfl g (off + k * 18 + 1) rfl x.s.cells _ (RS.out W0 hW) Try.underlying55 rfl (by kernel_rfl)) rfl ?_
        repeat (first
          | (apply wpOrd_skip rfl (by decide) rfl; (focus (go_simp; rfl)))
          | (apply wpOrd_pure rfl rfl rfl; (focus (intro _ _; go_simp; (try go_ints); rfl)); (focus (go_simp; rfl)))
          | (apply wpOrd_read rfl rfl rfl; (focus (intro _; go_simp; (try go_ints); rfl)); (focus (go_simp; rfl))))
        refine wpOrd_pure rfl rfl rfl (v := .agg x.r.cells.toArray) (fun W0 hW => exec_load_w 57 _ rfl g (off + k * 18 + 11) rfl x.r.cells _ (RA.out W0 hW) Try.underlying57 rfl (by kernel_rfl)) rfl ?_
        refine fork_intro (fun n => (Kp.refl _ _).drewN n) (fun n0 => ?_) (fun n0 => ?_)
        ·
          refine wpOrd_eff rfl rfl (fun n1 => ?_)
          go_wp2_with fail
          refine ⟨(((Kp.refl _ _).drewN _).alloc _), ?_⟩
          obtain ⟨W6, hW6⟩ : ∃ W, W = (W5.drewN (n0 + n1)).alloc (.cells #[.int .i64 0, .int .i64 0, .int .i64 0, .int .i64 0, .int .u8 0, .int .i64 0, .int .i64 0, .string { data := #[] }, .string { data := #[] }, .slice none 0 0] 55) := ⟨_, rfl⟩
          have k6 : Kp No W5 W6 := by rw [hW6]; exact ((Kp.refl _ _).drewN _).alloc _
          have ba : W6.heap[W5.heap.size]? = some (.cells #[.int .i64 0, .int .i64 0, .int .i64 0, .int .i64 0, .int .u8 0, .int .i64 0, .int .i64 0, .string { data := #[] }, .string { data := #[] }, .slice none 0 0] 55 (0, 0)) := by rw [hW6]; exact heap_alloc_new (W5.drewN (n0 + n1)) _
          rw [← hW6]
          clear hW6
          refine wpOrd_eff rfl rfl (fun n2 => ?_)
          go_wp2_with fail
          refine ⟨(k6.drewN _).alloc _, ?_⟩
          obtain ⟨W7, hW7⟩ : ∃ W, W = (W6.drewN n2).alloc (.cells #[.int .i64 0, .int .i64 0, .int .i64 0, .int .i64 0, .bool false, .slice none 0 0, .slice none 0 0] 57) := ⟨_, rfl⟩
          have k67 : Kp No W6 W7 := by rw [hW7]; exact ((Kp.refl _ _).drewN _).alloc _
          have bb : W7.heap[W6.heap.size]? = some (.cells #[.int .i64 0, .int .i64 0, .int .i64 0, .int .i64 0, .bool false, .slice none 0 0, .slice none 0 0] 57 (0, 0)) := by rw [hW7]; exact heap_alloc_new (W6.drewN n2) _
          rw [← hW7]
          have k7 : Kp No W5 W7 := k6.trans_same k67
          have ba' := k67.get ba fun x => x
          have hs6 : W5.heap.size < W6.heap.size := get_lt ba
          clear hW7 k6 k67 ba
          refine wpOrd_eff rfl rfl (fun n3 => ?_)
          have HB8 := Lib.hid (show (W7.drewN n3).heap[W5.heap.size]? = some (.cells #[.int .i64 0, .int .i64 0, .int .i64 0, .int .i64 0, .int .u8 0, .int .i64 0, .int .i64 0, .string { data := #[] }, .string { data := #[] }, .slice none 0 0] 55 (0, 0)) from by first | exact ba' | exact bb)
          go_wp2_with (refine wpList_store_r rfl 55 _ _ rfl W5.heap.size _ rfl rfl 55 _ HB8 (by kernel_rfl) (by rfl) (by rfl) ?_)
          have k8 : Kp No W5 ((W7.drewN n3).setRow W5.heap.size x.s.cells.toArray) := (k7.drewN n3).setRow (.inr (by omega)) _
          refine ⟨k8, ?_⟩
          have b8 := setRow_at (cs := x.s.cells.toArray) HB8.out
          have b9' : ((W7.drewN n3).setRow W5.heap.size x.s.cells.toArray).heap[W6.heap.size]? = some (.cells #[.int .i64 0, .int .i64 0, .int .i64 0, .int .i64 0, .bool false, .slice none 0 0, .slice none 0 0] 57 (0, 0)) := setRow_far (show (W7.drewN n3).heap[W6.heap.size]? = _ from by first | exact bb | exact ba') (by omega)
          obtain ⟨W8, hW8⟩ : ∃ W, W = (W7.drewN n3).setRow W5.heap.size x.s.cells.toArray := ⟨_, rfl⟩
          rw [← hW8] at k8 b8 b9'
          rw [← hW8]
          clear hW8 k7 ba' bb HB8
          refine wpOrd_eff rfl rfl (fun n4 => ?_)
          have HB9 := Lib.hid (show (W8.drewN n4).heap[W6.heap.size]? = _ from b9')
          go_wp2_with (refine wpList_store_r rfl 57 _ _ rfl W6.heap.size _ rfl rfl 57 _ HB9 (by kernel_rfl) (by rfl) (by rfl) ?_)
          have k9 : Kp No W5 ((W8.drewN n4).setRow W6.heap.size x.r.cells.toArray) := (k8.drewN n4).setRow (.inr (by omega)) _
          refine ⟨k9, ?_⟩
          have b9 := setRow_at (cs := x.r.cells.toArray) HB9.out
          have b8' : ((W8.drewN n4).setRow W6.heap.size x.r.cells.toArray).heap[W5.heap.size]? = _ := setRow_far (show (W8.drewN n4).heap[W5.heap.size]? = _ from b8) (by omega)
          repeat (first
            | (apply wpOrd_skip rfl (by decide) rfl; (focus (go_simp; rfl)))
            | (apply wpOrd_pure rfl rfl rfl; (focus (intro _ _; go_simp; (try go_ints); rfl)); (focus (go_simp; rfl)))
            | (apply wpOrd_read rfl rfl rfl; (focus (intro _; go_simp; (try go_ints); rfl)); (focus (go_simp; rfl))))
          refine wpOrd_nil (fun nq => ?_)
          have HCR := Lib.hid (show RCRel W5 (((W8.drewN n4).setRow W6.heap.size x.r.cells.toArray).drewN nq) W5.heap.size W6.heap.size x from ⟨k9.drewN nq, b8', b9⟩)
          clear k9 k8 b8 b9 b8' b9' HB9
          go_wp2_with fail
          go_meet
          case rel => exact ⟨_, _, rfl, rfl, HCR⟩
        ·
          refine wpOrd_eff rfl rfl (fun n1 => ?_)
          go_wp2_with fail
          refine ⟨(((Kp.refl _ _).drewN _).alloc _), ?_⟩
          obtain ⟨W6, hW6⟩ : ∃ W, W = (W5.drewN (n0 + n1)).alloc (.cells #[.int .i64 0, .int .i64 0, .int .i64 0, .int .i64 0, .bool false, .slice none 0 0, .slice none 0 0] 57) := ⟨_, rfl⟩
          have k6 : Kp No W5 W6 := by rw [hW6]; exact ((Kp.refl _ _).drewN _).alloc _
          have ba : W6.heap[W5.heap.size]? = some (.cells #[.int .i64 0, .int .i64 0, .int .i64 0, .int .i64 0, .bool false, .slice none 0 0, .slice none 0 0] 57 (0, 0)) := by rw [hW6]; exact heap_alloc_new (W5.drewN (n0 + n1)) _
          rw [← hW6]
          clear hW6
          refine wpOrd_eff rfl rfl (fun n2 => ?_)
          go_wp2_with fail
          refine ⟨(k6.drewN _).alloc _, ?_⟩
          obtain ⟨W7, hW7⟩ : ∃ W, W = (W6.drewN n2).alloc (.cells #[.int .i64 0, .int .i64 0, .int .i64 0, .int .i64 0, .int .u8 0, .int .i64 0, .int .i64 0, .string { data := #[] }, .string { data := #[] }, .slice none 0 0] 55) := ⟨_, rfl⟩
          have k67 : Kp No W6 W7 := by rw [hW7]; exact ((Kp.refl _ _).drewN _).alloc _
          have bb : W7.heap[W6.heap.size]? = some (.cells #[.int .i64 0, .int .i64 0, .int .i64 0, .int .i64 0, .int .u8 0, .int .i64 0, .int .i64 0, .string { data := #[] }, .string { data := #[] }, .slice none 0 0] 55 (0, 0)) := by rw [hW7]; exact heap_alloc_new (W6.drewN n2) _
          rw [← hW7]
          have k7 : Kp No W5 W7 := k6.trans_same k67
          have ba' := k67.get ba fun x => x
          have hs6 : W5.heap.size < W6.heap.size := get_lt ba
          clear hW7 k6 k67 ba
          refine wpOrd_eff rfl rfl (fun n3 => ?_)
          have HB8 := Lib.hid (show (W7.drewN n3).heap[W6.heap.size]? = some (.cells #[.int .i64 0, .int .i64 0, .int .i64 0, .int .i64 0, .int .u8 0, .int .i64 0, .int .i64 0, .string { data := #[] }, .string { data := #[] }, .slice none 0 0] 55 (0, 0)) from by first | exact ba' | exact bb)
          go_wp2_with (refine wpList_store_r rfl 55 _ _ rfl W6.heap.size _ rfl rfl 55 _ HB8 (by kernel_rfl) (by rfl) (by rfl) ?_)
          have k8 : Kp No W5 ((W7.drewN n3).setRow W6.heap.size x.s.cells.toArray) := (k7.drewN n3).setRow (.inr (by omega)) _
          refine ⟨k8, ?_⟩
          have b8 := setRow_at (cs := x.s.cells.toArray) HB8.out
          have b9' : ((W7.drewN n3).setRow W6.heap.size x.s.cells.toArray).heap[W5.heap.size]? = some (.cells #[.int .i64 0, .int .i64 0, .int .i64 0, .int .i64 0, .bool false, .slice none 0 0, .slice none 0 0] 57 (0, 0)) := setRow_far (show (W7.drewN n3).heap[W5.heap.size]? = _ from by first | exact bb | exact ba') (by omega)
          obtain ⟨W8, hW8⟩ : ∃ W, W = (W7.drewN n3).setRow W6.heap.size x.s.cells.toArray := ⟨_, rfl⟩
          rw [← hW8] at k8 b8 b9'
          rw [← hW8]
          clear hW8 k7 ba' bb HB8
          refine wpOrd_eff rfl rfl (fun n4 => ?_)
          have HB9 := Lib.hid (show (W8.drewN n4).heap[W5.heap.size]? = _ from b9')
          go_wp2_with (refine wpList_store_r rfl 57 _ _ rfl W5.heap.size _ rfl rfl 57 _ HB9 (by kernel_rfl) (by rfl) (by rfl) ?_)
          have k9 : Kp No W5 ((W8.drewN n4).setRow W5.heap.size x.r.cells.toArray) := (k8.drewN n4).setRow (.inr (by omega)) _
          refine ⟨k9, ?_⟩
          have b9 := setRow_at (cs := x.r.cells.toArray) HB9.out
          have b8' : ((W8.drewN n4).setRow W5.heap.size x.r.cells.toArray).heap[W6.heap.size]? = _ := setRow_far (show (W8.drewN n4).heap[W6.heap.size]? = _ from b8) (by omega)
          repeat (first
            | (apply wpOrd_skip rfl (by decide) rfl; (focus (go_simp; rfl)))
            | (apply wpOrd_pure rfl rfl rfl; (focus (intro _ _; go_simp; (try go_ints); rfl)); (focus (go_simp; rfl)))
            | (apply wpOrd_read rfl rfl rfl; (focus (intro _; go_simp; (try go_ints); rfl)); (focus (go_simp; rfl))))
          refine wpOrd_nil (fun nq => ?_)
          have HCR := Lib.hid (show RCRel W5 (((W8.drewN n4).setRow W5.heap.size x.r.cells.toArray).drewN nq) W6.heap.size W5.heap.size x from ⟨k9.drewN nq, b8', b9⟩)
          clear k9 k8 b8 b9 b8' b9' HB9
          go_wp2_with fail
          go_meet
          case rel => exact ⟨_, _, rfl, rfl, HCR⟩
      case rest =>
      obtain ⟨b8, b9, rfl, rfl, HCR⟩ := hcut
      rename World => V
      have HBX := Lib.hid (cBox HCR.out.b8 HCR.out.b9)
      have HKV := Lib.hid HCR.out.kp
      have hs8 : b8 < V.heap.size := get_lt HCR.out.b8
      have hs9 : b9 < V.heap.size := get_lt HCR.out.b9
      have hsg : g < V.heap.size := Nat.lt_of_lt_of_le hs0 HKV.out.size
      clear RS RA
      obtain ⟨c0, c1, c2, c3, c4, c5, d0, d1, d2, d3, d4, d5⟩ := HBX.out V (Kp.refl _ _)
      have h7 : (x.s.kind ≠ 1 ∧ x.s.kind ≠ 2) ∨ (x.s.kind = 1 ∧ x.r.err = 0) ∨ (x.s.kind = 1 ∧ x.r.err = 9) ∨ (x.s.kind = 2 ∧ x.r.err = 0) ∨ (x.s.kind = 2 ∧ x.r.err = 9) ∨ (x.s.kind = 1 ∧ x.r.err ≠ 0 ∧ x.r.err ≠ 9) ∨ (x.s.kind = 2 ∧ x.r.err ≠ 0 ∧ x.r.err ≠ 9) := by omega
      rcases h7 with ⟨hk1, hk2⟩ | ⟨hk1, he0⟩ | ⟨hk1, he0⟩ | ⟨hk1, he0⟩ | ⟨hk1, he0⟩ | ⟨hk1, he0, he9⟩ | ⟨hk1, he0, he9⟩
      ·
        have f1 : (x.s.kind != 1) = true := by simp [hk1]
        have f2 : (x.s.kind != 2) = true := by simp [hk2]
        have hst := step_no HE (wrF_no1 hk1 hk2)
        have hw := Lib.hid (HR.out.keep HKV.out)
        rw [← hst] at hw
        clear hst
        go_wp2_with fail
        go_roundw
        case rel => exact ⟨k + 1, nn, ao, co, by omega, by omega, by go_num, rfl, hw⟩
        case measure => simp [intOf]; omega
      ·
        have hk1' := Lib.hid hk1
        rw [hk1] at c0
        rw [he0] at d0
        go_upto_region 7 with fail
        have T0' : ∀ W, Kp No V W → W.cell? ⟨g, off + k * 18, none⟩ = some (.int .i64 x.who) := fun W hW => by have := T0.out W (HKV.out.trans_same hW); rwa [Nat.add_zero] at this
        have q7 : ∀ W, Kp No V W → W.cell? ⟨b8, 7, none⟩ = some (.string x.s.key) := fun W hW => (HBX.out W hW).key
        have q0 : ∀ W, Kp No V W → W.cell? ⟨b9, 0, none⟩ = some (.int .i64 0) := fun W hW => by have := (HBX.out W hW).err; rw [he0] at this; exact this
        clear c0 c1 c2 c3 c4 c5 d0 d1 d2 d3 d4 d5
        refine wp_region_held' (Kp No _) [0,0,0,0,0,0,0,0,0,0,0,2,2] [0,1,2,3,4,5,6,7,8,9,10,11,12] (by kernel_rfl) (by kernel_rfl) (fun _ n h => h.drewN n) (Kp.refl _ _) ?_
        repeat (first
          | (apply wpOrd_skip rfl (by decide) rfl; (focus (go_simp; rfl)))
          | (apply wpOrd_pure rfl rfl rfl; (focus (intro _ _; go_simp; (try go_ints); rfl)); (focus (go_simp; rfl)))
          | (apply wpOrd_read rfl rfl rfl; (focus (intro _; go_simp; (try go_ints); rfl)); (focus (go_simp; rfl))))
        refine wpOrd_eff rfl rfl (fun n1 => ?_)
        go_wp2_with fail
        refine ⟨((Kp.refl _ _).drewN _).alloc _, ?_⟩
        obtain ⟨W6, hW6⟩ : ∃ W, W = (V.drewN n1).alloc (.cells #[.int .i64 0, .string { data := #[] }, .int .i64 0, .int .i64 0, .int .i64 0, .slice none 0 0, .bool false, .int .i64 0, .bool false] 38) := ⟨_, rfl⟩
        have k6 : Kp No V W6 := by rw [hW6]; exact ((Kp.refl _ _).drewN _).alloc _
        have b6 : W6.heap[V.heap.size]? = some (.cells #[.int .i64 0, .string { data := #[] }, .int .i64 0, .int .i64 0, .int .i64 0, .slice none 0 0, .bool false, .int .i64 0, .bool false] 38 (0, 0)) := by rw [hW6]; exact heap_alloc_new (V.drewN n1) _
        rw [← hW6]
        clear hW6
        refine wpOrd_eff rfl rfl (fun n2 => ?_)
        have HB6 := Lib.hid (show (W6.drewN n2).heap[V.heap.size]? = _ from b6)
        go_wp2_with (refine wpList_store_r rfl 38 _ _ rfl V.heap.size _ rfl rfl 38 _ HB6 (by kernel_rfl) (by rfl) (by rfl) ?_)
        have k7 : Kp No V ((W6.drewN n2).setRow V.heap.size #[.int .i64 x.who, .string x.s.key, .int .i64 0, .int .i64 0, .int .i64 0, .slice none 0 0, .bool false, .int .i64 0, .bool false]) := (k6.drewN n2).setRow (.inr (Nat.le_refl _)) _
        refine ⟨k7, ?_⟩
        have b7 := setRow_at (cs := #[.int .i64 x.who, .string x.s.key, .int .i64 0, .int .i64 0, .int .i64 0, .slice none 0 0, .bool false, .int .i64 0, .bool false]) HB6.out
        repeat (first
          | (apply wpOrd_skip rfl (by decide) rfl; (focus (go_simp; rfl)))
          | (apply wpOrd_pure rfl rfl rfl; (focus (intro _ _; go_simp; (try go_ints); rfl)); (focus (go_simp; rfl)))
          | (apply wpOrd_read rfl rfl rfl; (focus (intro _; go_simp; (try go_ints); rfl)); (focus (go_simp; rfl))))
        refine wpOrd_nil (fun nq => ?_)
        obtain ⟨W7, hW7⟩ : ∃ W, W = ((W6.drewN n2).setRow V.heap.size #[.int .i64 x.who, .string x.s.key, .int .i64 0, .int .i64 0, .int .i64 0, .slice none 0 0, .bool false, .int .i64 0, .bool false]).drewN nq := ⟨_, rfl⟩
        rw [← hW7]
        have b7' : W7.heap[V.heap.size]? = some (.cells #[.int .i64 x.who, .string x.s.key, .int .i64 0, .int .i64 0, .int .i64 0, .slice none 0 0, .bool false, .int .i64 0, .bool false] 38 (0, 0)) := by rw [hW7]; exact b7
        have k7' : Kp No V W7 := by rw [hW7]; exact k7.drewN nq
        have hs7 : V.heap.size < W7.heap.size := get_lt b7'
        obtain ⟨c0, c1, c2, c3, c4, c5, d0, d1, d2, d3, d4, d5⟩ := HBX.out W7 k7'
        rw [hk1'.out] at c0
        obtain ⟨W8, hW8⟩ : ∃ W, W = W7.setCells V.heap.size 2 [.int .i64 0, .int .i64 0, .int .i64 x.s.node, .slice none 0 0, .bool false, .int .i64 0] := ⟨_, rfl⟩
        obtain ⟨cur, b8', _, hl8⟩ := setCells_block V.heap.size 38 [.int .i64 0, .int .i64 0, .int .i64 x.s.node, .slice none 0 0, .bool false, .int .i64 0] W7 2 _ b7' (by simp)
        obtain rfl : cur = #[.int .i64 x.who, .string x.s.key, .int .i64 0, .int .i64 0, .int .i64 x.s.node, .slice none 0 0, .bool false, .int .i64 0, .bool false] := Array.toList_inj.1 (hl8.trans rfl)
        have HTh := Lib.hid (there_block (o := 2) (n := 6) b7' (by simp))
        have k8 : Kp No V W8 := by rw [hW8]; exact k7'.trans (Kp.setCells _ _ _ _) (fun i hi hs => by
          have hs : i = V.heap.size := hs
          omega)
        rw [← hW8] at b8'
        have HW8 := Lib.hid hW8
        clear hW7 b7 b7' k7 k6 b6 HB6 hW8 hl8 T0' q7 q0 k7'
        go_upto_region 9 with (refine wpList_store_m rfl _ _ _ rfl V.heap.size 2 _ rfl rfl HTh (by kernel_rfl) (by rfl) ?_)
        rw [← HW8.out]
        clear HW8 HTh c0 c1 c2 c3 c4 c5 d0 d1 d2 d3 d4 d5
        obtain ⟨c0, c1, c2, c3, c4, c5, d0, d1, d2, d3, d4, d5⟩ := HBX.out W8 k8
        rw [hk1'.out] at c0
        obtain ⟨g0, g1, g2, g3, g4, g5, g6, g7, g8⟩ := wr_cells b8'
        have hs8' : V.heap.size < W8.heap.size := get_lt b8'
        obtain ⟨W9, hW9⟩ : ∃ W, W = W8.setCells V.heap.size 2 [.int .i64 x.r.t1, .int .i64 x.r.t2] := ⟨_, rfl⟩
        obtain ⟨cur, b9', _, hl9⟩ := setCells_block V.heap.size 38 [.int .i64 x.r.t1, .int .i64 x.r.t2] W8 2 _ b8' (by simp)
        obtain rfl : cur = #[.int .i64 x.who, .string x.s.key, .int .i64 x.r.t1, .int .i64 x.r.t2, .int .i64 x.s.node, .slice none 0 0, .bool false, .int .i64 0, .bool false] := Array.toList_inj.1 (hl9.trans rfl)
        have HTh := Lib.hid (there_block (o := 2) (n := 2) b8' (by simp))
        have k9 : Kp No V W9 := by rw [hW9]; exact k8.trans (Kp.setCells _ _ _ _) (fun i hi hs => by
          have hs : i = V.heap.size := hs
          omega)
        rw [← hW9] at b9'
        have HW9 := Lib.hid hW9
        clear hW9 hl9 b8'
        go_upto_region 11 with (refine wpList_store_m rfl _ _ _ rfl V.heap.size 2 _ rfl rfl HTh (by kernel_rfl) (by rfl) ?_)
        rw [← HW9.out]
        clear HW9 HTh c0 c1 c2 c3 c4 c5 d0 d1 d2 d3 d4 d5 g0 g1 g2 g3 g4 g5 g6 g7 g8 k8 hs8'
        obtain ⟨c0, c1, c2, c3, c4, c5, d0, d1, d2, d3, d4, d5⟩ := HBX.out W9 k9
        rw [hk1'.out] at c0
        have e9 : W9.cell? ⟨b8, 9, none⟩ = some (.slice x.s.va x.s.val.length x.s.vcap) := by rw [cell_at (k9.get HCR.out.b8 fun x => x)]; rfl
        have hb9 : b8 < W9.heap.size := Nat.lt_of_lt_of_le hs8 k9.size
        have hal : Kp No W9 (W9.alloc (.cells #[] 5)) := (Kp.refl _ _).alloc _
        have hown0 : Own (W9.alloc (.cells #[] 5)) 5 1 (.slice (some ⟨W9.heap.size, 0, none⟩) 0 0) 0 [] := Own.made W9 5 1 #[] 0 0 (Nat.le_refl _) (by simp [maxLen]) (by simp) rfl
        have hsrc : Src (W9.alloc (.cells #[] 5)) 1 (.slice x.s.va x.s.val.length x.s.vcap) x.s.val.length (u8s x.s.val) := ⟨by simp [u8s_length], x.s.va, x.s.vcap, rfl, HAT.out.s.val.kp ((HKV.out.trans_same k9).trans_same hal)⟩
        obtain ⟨i0, hi, hz0, hz1, hz2⟩ := info_parts infoByte
        obtain ⟨v1, w1, hrun, hown, hkp, hblk⟩ := run_append_Own (P := Try.prog) (w := W9.alloc (.cells #[] 5)) 33 33 33 5 i0 (.int .u8 0) 1 1 Try.underlying33 ⟨_, Try.underlying33⟩ hi hz0 hz1 hz2 rfl
          (.slice (some ⟨W9.heap.size, 0, none⟩) 0 0) 0 [] hown0 (.slice x.s.va x.s.val.length x.s.vcap) x.s.val.length (u8s x.s.val) hsrc (u8s_one x.s.val) (by simp only [maxLen]; omega) (by omega)
        simp only [Nat.zero_add, List.nil_append] at hown
        obtain ⟨_, a4, cq, rfl, _⟩ := id hown
        have k10 : Kp No W9 w1 := hal.trans hkp (fun k hk h => by simp [Value.ownBlock] at h; omega)
        have hnb : ∀ g', (Value.slice a4 x.s.val.length cq).ownBlock = some g' → g' ≠ V.heap.size := fun g' hg' e => by
          obtain ⟨cu, hcu⟩ := hown.type g' hg'
          rw [e] at hcu
          exact ne_of_type hcu (k10.get b9' fun x => x) (by decide) rfl
        have HOwn := Lib.hid hown
        have HNB := Lib.hid hnb
        have B9 := Lib.hid (k10.get b9' fun x => x)
        have hs9' : V.heap.size < w1.heap.size := get_lt B9.out
        have HX1 := Lib.hid hrun
        have HK10 := Lib.hid (k9.trans_same k10)
        clear hal hown0 hsrc hi hz0 hz1 hz2 hrun hown hkp hblk hnb k10 b9'
        go_upto_region 12 with fail
        obtain ⟨c0', c1', c2', _, _, _, _, _, _, _, _, _⟩ := HBX.out w1 HK10.out
        have q5 : w1.cell? ⟨V.heap.size, 5, none⟩ = some (.slice none 0 0) := by rw [cell_at B9.out]; rfl
        have f5 : w1.frozen? ⟨V.heap.size, 5, none⟩ = false := free_at B9.out _
        obtain ⟨W11, hW11⟩ : ∃ W, W = w1.setCell ⟨V.heap.size, 5, none⟩ (.slice a4 x.s.val.length cq) := ⟨_, rfl⟩
        have k11 : Kp (One V.heap.size) w1 W11 := by rw [hW11]; exact (Kp.refl _ _).setCell (p := ⟨V.heap.size, 5, none⟩) (.inl (show One V.heap.size V.heap.size from rfl)) _
        have b11 := set_at B9.out 5 (.slice a4 x.s.val.length cq)
        rw [← hW11] at b11
        have HW11 := Lib.hid hW11
        clear hW11
        go_upto_region 13 with (at_builtin; refine wpList_append_run rfl rfl rfl rfl HX1.out ?_)
        rw [← HW11.out]
        clear HW11 q5 f5 c0' c1' c2' c0 c1 c2 c3 c4 c5 d0 d1 d2 d3 d4 d5 e9
        have k12 : Kp No V W11 := HK10.out.trans k11 (fun i hi hs => by
          have hs : i = V.heap.size := hs
          omega)
        have hs11 : V.heap.size < W11.heap.size := get_lt b11
        obtain ⟨c0, c1, c2, c3, c4', c5, d0, d1, d2, d3, d4, d5⟩ := HBX.out W11 k12
        have q7 : W11.cell? ⟨V.heap.size, 7, none⟩ = some (.int .i64 0) := by rw [cell_at b11]; rfl
        have f7 : W11.frozen? ⟨V.heap.size, 7, none⟩ = false := free_at b11 _
        obtain ⟨W12, hW12⟩ : ∃ W, W = W11.setCell ⟨V.heap.size, 7, none⟩ (.int .i64 x.s.n) := ⟨_, rfl⟩
        have k13 : Kp (One V.heap.size) w1 W12 := by rw [hW12]; exact k11.setCell (p := ⟨V.heap.size, 7, none⟩) (.inl (show One V.heap.size V.heap.size from rfl)) _
        have b12 := set_at b11 7 (.int .i64 x.s.n)
        rw [← hW12] at b12
        have HW12 := Lib.hid hW12
        clear hW12
        go_upto_region 14 with fail
        rw [← HW12.out]
        have k14 : Kp No V W12 := HK10.out.trans k13 (fun i hi hs => by
          have hs : i = V.heap.size := hs
          omega)
        have HK4 := Lib.hid (HKV.out.trans_same k14)
        have HO := Lib.hid (show Own W12 5 1 (.slice a4 x.s.val.length cq) x.s.val.length (u8s x.s.val) from HOwn.out.keep k13 (fun g' hg' hs => HNB.out g' hg' hs))
        have hR := WRel.app inforWrite Try.underlying26 (by decide) HR.out (W := W12) HK4.out ⟨⟨x.who, x.s.key, x.r.t1, x.r.t2, x.s.node, x.s.val, false, x.s.n, false⟩, a4, cq⟩ HO.out (by omega) #[.int .i64 x.who, .string x.s.key, .int .i64 x.r.t1, .int .i64 x.r.t2, .int .i64 x.s.node, .slice a4 x.s.val.length cq, .bool false, .int .i64 x.s.n, .bool false] rfl
        obtain ⟨a5, c5', W10, hrun, hw5⟩ := hR
        have hst : (L.take (k + 1)).filterMap wrF = (L.take k).filterMap wrF ++ [⟨x.who, x.s.key, x.r.t1, x.r.t2, x.s.node, x.s.val, false, x.s.n, false⟩] := step_yes HE (wrF_B hk1'.out he0)
        rw [← hst] at hw5
        have HX := Lib.hid hrun
        have HW5 := Lib.hid hw5
        clear hrun hw5 hst HW12 q7 f7 c0 c1 c2 c3 c4' c5 d0 d1 d2 d3 d4 d5 k11 k12 k13 k14 b11
        obtain ⟨g0, g1, g2, g3, g4, g5, g6, g7, g8⟩ := wr_cells (show W12.heap[V.heap.size]? = some (.cells #[.int .i64 x.who, .string x.s.key, .int .i64 x.r.t1, .int .i64 x.r.t2, .int .i64 x.s.node, .slice a4 x.s.val.length cq, .bool false, .int .i64 x.s.n, .bool false] 38 (0, 0)) from b12)
        clear b12
        go_wp2_with (at_builtin; refine wpList_append_run rfl rfl rfl rfl HX.out ?_)
        go_roundw
        case rel => exact ⟨k + 1, nn + 1, a5, c5', by omega, by omega, by go_num, rfl, HW5⟩
        case measure => simp [intOf]; omega
      ·
        have hk1' := Lib.hid hk1
        rw [hk1] at c0
        rw [he0] at d0
        go_upto_region 7 with fail
        have T0' : ∀ W, Kp No V W → W.cell? ⟨g, off + k * 18, none⟩ = some (.int .i64 x.who) := fun W hW => by have := T0.out W (HKV.out.trans_same hW); rwa [Nat.add_zero] at this
        have q7 : ∀ W, Kp No V W → W.cell? ⟨b8, 7, none⟩ = some (.string x.s.key) := fun W hW => (HBX.out W hW).key
        have q0 : ∀ W, Kp No V W → W.cell? ⟨b9, 0, none⟩ = some (.int .i64 9) := fun W hW => by have := (HBX.out W hW).err; rw [he0] at this; exact this
        clear c0 c1 c2 c3 c4 c5 d0 d1 d2 d3 d4 d5
        refine wp_region_held' (Kp No _) [0,0,0,0,0,0,0,0,0,0,0,2,2] [0,1,2,3,4,5,6,7,8,9,10,11,12] (by kernel_rfl) (by kernel_rfl) (fun _ n h => h.drewN n) (Kp.refl _ _) ?_
        repeat (first
          | (apply wpOrd_skip rfl (by decide) rfl; (focus (go_simp; rfl)))
          | (apply wpOrd_pure rfl rfl rfl; (focus (intro _ _; go_simp; (try go_ints); rfl)); (focus (go_simp; rfl)))
          | (apply wpOrd_read rfl rfl rfl; (focus (intro _; go_simp; (try go_ints); rfl)); (focus (go_simp; rfl))))
        refine wpOrd_eff rfl rfl (fun n1 => ?_)
        go_wp2_with fail
        refine ⟨((Kp.refl _ _).drewN _).alloc _, ?_⟩
        obtain ⟨W6, hW6⟩ : ∃ W, W = (V.drewN n1).alloc (.cells #[.int .i64 0, .string { data := #[] }, .int .i64 0, .int .i64 0, .int .i64 0, .slice none 0 0, .bool false, .int .i64 0, .bool false] 38) := ⟨_, rfl⟩
        have k6 : Kp No V W6 := by rw [hW6]; exact ((Kp.refl _ _).drewN _).alloc _
        have b6 : W6.heap[V.heap.size]? = some (.cells #[.int .i64 0, .string { data := #[] }, .int .i64 0, .int .i64 0, .int .i64 0, .slice none 0 0, .bool false, .int .i64 0, .bool false] 38 (0, 0)) := by rw [hW6]; exact heap_alloc_new (V.drewN n1) _
        rw [← hW6]
        clear hW6
        refine wpOrd_eff rfl rfl (fun n2 => ?_)
        have HB6 := Lib.hid (show (W6.drewN n2).heap[V.heap.size]? = _ from b6)
        go_wp2_with (refine wpList_store_r rfl 38 _ _ rfl V.heap.size _ rfl rfl 38 _ HB6 (by kernel_rfl) (by rfl) (by rfl) ?_)
        have k7 : Kp No V ((W6.drewN n2).setRow V.heap.size #[.int .i64 x.who, .string x.s.key, .int .i64 0, .int .i64 0, .int .i64 0, .slice none 0 0, .bool false, .int .i64 0, .bool true]) := (k6.drewN n2).setRow (.inr (Nat.le_refl _)) _
        refine ⟨k7, ?_⟩
        have b7 := setRow_at (cs := #[.int .i64 x.who, .string x.s.key, .int .i64 0, .int .i64 0, .int .i64 0, .slice none 0 0, .bool false, .int .i64 0, .bool true]) HB6.out
        repeat (first
          | (apply wpOrd_skip rfl (by decide) rfl; (focus (go_simp; rfl)))
          | (apply wpOrd_pure rfl rfl rfl; (focus (intro _ _; go_simp; (try go_ints); rfl)); (focus (go_simp; rfl)))
          | (apply wpOrd_read rfl rfl rfl; (focus (intro _; go_simp; (try go_ints); rfl)); (focus (go_simp; rfl))))
        refine wpOrd_nil (fun nq => ?_)
        obtain ⟨W7, hW7⟩ : ∃ W, W = ((W6.drewN n2).setRow V.heap.size #[.int .i64 x.who, .string x.s.key, .int .i64 0, .int .i64 0, .int .i64 0, .slice none 0 0, .bool false, .int .i64 0, .bool true]).drewN nq := ⟨_, rfl⟩
        rw [← hW7]
        have b7' : W7.heap[V.heap.size]? = some (.cells #[.int .i64 x.who, .string x.s.key, .int .i64 0, .int .i64 0, .int .i64 0, .slice none 0 0, .bool false, .int .i64 0, .bool true] 38 (0, 0)) := by rw [hW7]; exact b7
        have k7' : Kp No V W7 := by rw [hW7]; exact k7.drewN nq
        have hs7 : V.heap.size < W7.heap.size := get_lt b7'
        obtain ⟨c0, c1, c2, c3, c4, c5, d0, d1, d2, d3, d4, d5⟩ := HBX.out W7 k7'
        rw [hk1'.out] at c0
        obtain ⟨W8, hW8⟩ : ∃ W, W = W7.setCells V.heap.size 2 [.int .i64 0, .int .i64 0, .int .i64 x.s.node, .slice none 0 0, .bool false, .int .i64 0] := ⟨_, rfl⟩
        obtain ⟨cur, b8', _, hl8⟩ := setCells_block V.heap.size 38 [.int .i64 0, .int .i64 0, .int .i64 x.s.node, .slice none 0 0, .bool false, .int .i64 0] W7 2 _ b7' (by simp)
        obtain rfl : cur = #[.int .i64 x.who, .string x.s.key, .int .i64 0, .int .i64 0, .int .i64 x.s.node, .slice none 0 0, .bool false, .int .i64 0, .bool true] := Array.toList_inj.1 (hl8.trans rfl)
        have HTh := Lib.hid (there_block (o := 2) (n := 6) b7' (by simp))
        have k8 : Kp No V W8 := by rw [hW8]; exact k7'.trans (Kp.setCells _ _ _ _) (fun i hi hs => by
          have hs : i = V.heap.size := hs
          omega)
        rw [← hW8] at b8'
        have HW8 := Lib.hid hW8
        clear hW7 b7 b7' k7 k6 b6 HB6 hW8 hl8 T0' q7 q0 k7'
        go_upto_region 9 with (refine wpList_store_m rfl _ _ _ rfl V.heap.size 2 _ rfl rfl HTh (by kernel_rfl) (by rfl) ?_)
        rw [← HW8.out]
        clear HW8 HTh c0 c1 c2 c3 c4 c5 d0 d1 d2 d3 d4 d5
        obtain ⟨c0, c1, c2, c3, c4, c5, d0, d1, d2, d3, d4, d5⟩ := HBX.out W8 k8
        rw [hk1'.out] at c0
        obtain ⟨g0, g1, g2, g3, g4, g5, g6, g7, g8⟩ := wr_cells b8'
        go_upto_region 11 with fail
        obtain ⟨W9, hW9⟩ : ∃ W, W = W8 := ⟨_, rfl⟩
        subst hW9
        have k9 := k8
        have b9' := b8'
        clear g0 g1 g2 g3 g4 g5 g6 g7 g8 k8 b8'
        have e9 : W9.cell? ⟨b8, 9, none⟩ = some (.slice x.s.va x.s.val.length x.s.vcap) := by rw [cell_at (k9.get HCR.out.b8 fun x => x)]; rfl
        have hb9 : b8 < W9.heap.size := Nat.lt_of_lt_of_le hs8 k9.size
        have hal : Kp No W9 (W9.alloc (.cells #[] 5)) := (Kp.refl _ _).alloc _
        have hown0 : Own (W9.alloc (.cells #[] 5)) 5 1 (.slice (some ⟨W9.heap.size, 0, none⟩) 0 0) 0 [] := Own.made W9 5 1 #[] 0 0 (Nat.le_refl _) (by simp [maxLen]) (by simp) rfl
        have hsrc : Src (W9.alloc (.cells #[] 5)) 1 (.slice x.s.va x.s.val.length x.s.vcap) x.s.val.length (u8s x.s.val) := ⟨by simp [u8s_length], x.s.va, x.s.vcap, rfl, HAT.out.s.val.kp ((HKV.out.trans_same k9).trans_same hal)⟩
        obtain ⟨i0, hi, hz0, hz1, hz2⟩ := info_parts infoByte
        obtain ⟨v1, w1, hrun, hown, hkp, hblk⟩ := run_append_Own (P := Try.prog) (w := W9.alloc (.cells #[] 5)) 33 33 33 5 i0 (.int .u8 0) 1 1 Try.underlying33 ⟨_, Try.underlying33⟩ hi hz0 hz1 hz2 rfl
          (.slice (some ⟨W9.heap.size, 0, none⟩) 0 0) 0 [] hown0 (.slice x.s.va x.s.val.length x.s.vcap) x.s.val.length (u8s x.s.val) hsrc (u8s_one x.s.val) (by simp only [maxLen]; omega) (by omega)
        simp only [Nat.zero_add, List.nil_append] at hown
        obtain ⟨_, a4, cq, rfl, _⟩ := id hown
        have k10 : Kp No W9 w1 := hal.trans hkp (fun k hk h => by simp [Value.ownBlock] at h; omega)
        have hnb : ∀ g', (Value.slice a4 x.s.val.length cq).ownBlock = some g' → g' ≠ V.heap.size := fun g' hg' e => by
          obtain ⟨cu, hcu⟩ := hown.type g' hg'
          rw [e] at hcu
          exact ne_of_type hcu (k10.get b9' fun x => x) (by decide) rfl
        have HOwn := Lib.hid hown
        have HNB := Lib.hid hnb
        have B9 := Lib.hid (k10.get b9' fun x => x)
        have hs9' : V.heap.size < w1.heap.size := get_lt B9.out
        have HX1 := Lib.hid hrun
        have HK10 := Lib.hid (k9.trans_same k10)
        clear hal hown0 hsrc hi hz0 hz1 hz2 hrun hown hkp hblk hnb k10 b9'
        go_upto_region 12 with fail
        obtain ⟨c0', c1', c2', _, _, _, _, _, _, _, _, _⟩ := HBX.out w1 HK10.out
        have q5 : w1.cell? ⟨V.heap.size, 5, none⟩ = some (.slice none 0 0) := by rw [cell_at B9.out]; rfl
        have f5 : w1.frozen? ⟨V.heap.size, 5, none⟩ = false := free_at B9.out _
        obtain ⟨W11, hW11⟩ : ∃ W, W = w1.setCell ⟨V.heap.size, 5, none⟩ (.slice a4 x.s.val.length cq) := ⟨_, rfl⟩
        have k11 : Kp (One V.heap.size) w1 W11 := by rw [hW11]; exact (Kp.refl _ _).setCell (p := ⟨V.heap.size, 5, none⟩) (.inl (show One V.heap.size V.heap.size from rfl)) _
        have b11 := set_at B9.out 5 (.slice a4 x.s.val.length cq)
        rw [← hW11] at b11
        have HW11 := Lib.hid hW11
        clear hW11
        go_upto_region 13 with (at_builtin; refine wpList_append_run rfl rfl rfl rfl HX1.out ?_)
        rw [← HW11.out]
        clear HW11 q5 f5 c0' c1' c2' c0 c1 c2 c3 c4 c5 d0 d1 d2 d3 d4 d5 e9
        have k12 : Kp No V W11 := HK10.out.trans k11 (fun i hi hs => by
          have hs : i = V.heap.size := hs
          omega)
        have hs11 : V.heap.size < W11.heap.size := get_lt b11
        obtain ⟨c0, c1, c2, c3, c4', c5, d0, d1, d2, d3, d4, d5⟩ := HBX.out W11 k12
        have q7 : W11.cell? ⟨V.heap.size, 7, none⟩ = some (.int .i64 0) := by rw [cell_at b11]; rfl
        have f7 : W11.frozen? ⟨V.heap.size, 7, none⟩ = false := free_at b11 _
        obtain ⟨W12, hW12⟩ : ∃ W, W = W11.setCell ⟨V.heap.size, 7, none⟩ (.int .i64 x.s.n) := ⟨_, rfl⟩
        have k13 : Kp (One V.heap.size) w1 W12 := by rw [hW12]; exact k11.setCell (p := ⟨V.heap.size, 7, none⟩) (.inl (show One V.heap.size V.heap.size from rfl)) _
        have b12 := set_at b11 7 (.int .i64 x.s.n)
        rw [← hW12] at b12
        have HW12 := Lib.hid hW12
        clear hW12
        go_upto_region 14 with fail
        rw [← HW12.out]
        have k14 : Kp No V W12 := HK10.out.trans k13 (fun i hi hs => by
          have hs : i = V.heap.size := hs
          omega)
        have HK4 := Lib.hid (HKV.out.trans_same k14)
        have HO := Lib.hid (show Own W12 5 1 (.slice a4 x.s.val.length cq) x.s.val.length (u8s x.s.val) from HOwn.out.keep k13 (fun g' hg' hs => HNB.out g' hg' hs))
        have hR := WRel.app inforWrite Try.underlying26 (by decide) HR.out (W := W12) HK4.out ⟨⟨x.who, x.s.key, 0, 0, x.s.node, x.s.val, false, x.s.n, true⟩, a4, cq⟩ HO.out (by omega) #[.int .i64 x.who, .string x.s.key, .int .i64 0, .int .i64 0, .int .i64 x.s.node, .slice a4 x.s.val.length cq, .bool false, .int .i64 x.s.n, .bool true] rfl
        obtain ⟨a5, c5', W10, hrun, hw5⟩ := hR
        have hst : (L.take (k + 1)).filterMap wrF = (L.take k).filterMap wrF ++ [⟨x.who, x.s.key, 0, 0, x.s.node, x.s.val, false, x.s.n, true⟩] := step_yes HE (wrF_C hk1'.out he0)
        rw [← hst] at hw5
        have HX := Lib.hid hrun
        have HW5 := Lib.hid hw5
        clear hrun hw5 hst HW12 q7 f7 c0 c1 c2 c3 c4' c5 d0 d1 d2 d3 d4 d5 k11 k12 k13 k14 b11
        obtain ⟨g0, g1, g2, g3, g4, g5, g6, g7, g8⟩ := wr_cells (show W12.heap[V.heap.size]? = some (.cells #[.int .i64 x.who, .string x.s.key, .int .i64 0, .int .i64 0, .int .i64 x.s.node, .slice a4 x.s.val.length cq, .bool false, .int .i64 x.s.n, .bool true] 38 (0, 0)) from b12)
        clear b12
        go_wp2_with (at_builtin; refine wpList_append_run rfl rfl rfl rfl HX.out ?_)
        go_roundw
        case rel => exact ⟨k + 1, nn + 1, a5, c5', by omega, by omega, by go_num, rfl, HW5⟩
        case measure => simp [intOf]; omega
      ·
        have hk1' := Lib.hid hk1
        rw [hk1] at c0
        rw [he0] at d0
        go_upto_region 7 with fail
        have T0' : ∀ W, Kp No V W → W.cell? ⟨g, off + k * 18, none⟩ = some (.int .i64 x.who) := fun W hW => by have := T0.out W (HKV.out.trans_same hW); rwa [Nat.add_zero] at this
        have q7 : ∀ W, Kp No V W → W.cell? ⟨b8, 7, none⟩ = some (.string x.s.key) := fun W hW => (HBX.out W hW).key
        have q0 : ∀ W, Kp No V W → W.cell? ⟨b9, 0, none⟩ = some (.int .i64 0) := fun W hW => by have := (HBX.out W hW).err; rw [he0] at this; exact this
        clear c0 c1 c2 c3 c4 c5 d0 d1 d2 d3 d4 d5
        refine wp_region_held' (Kp No _) [0,0,0,0,0,0,0,0,0,0,0,2,2] [0,1,2,3,4,5,6,7,8,9,10,11,12] (by kernel_rfl) (by kernel_rfl) (fun _ n h => h.drewN n) (Kp.refl _ _) ?_
        repeat (first
          | (apply wpOrd_skip rfl (by decide) rfl; (focus (go_simp; rfl)))
          | (apply wpOrd_pure rfl rfl rfl; (focus (intro _ _; go_simp; (try go_ints); rfl)); (focus (go_simp; rfl)))
          | (apply wpOrd_read rfl rfl rfl; (focus (intro _; go_simp; (try go_ints); rfl)); (focus (go_simp; rfl))))
        refine wpOrd_eff rfl rfl (fun n1 => ?_)
        go_wp2_with fail
        refine ⟨((Kp.refl _ _).drewN _).alloc _, ?_⟩
        obtain ⟨W6, hW6⟩ : ∃ W, W = (V.drewN n1).alloc (.cells #[.int .i64 0, .string { data := #[] }, .int .i64 0, .int .i64 0, .int .i64 0, .slice none 0 0, .bool false, .int .i64 0, .bool false] 38) := ⟨_, rfl⟩
        have k6 : Kp No V W6 := by rw [hW6]; exact ((Kp.refl _ _).drewN _).alloc _
        have b6 : W6.heap[V.heap.size]? = some (.cells #[.int .i64 0, .string { data := #[] }, .int .i64 0, .int .i64 0, .int .i64 0, .slice none 0 0, .bool false, .int .i64 0, .bool false] 38 (0, 0)) := by rw [hW6]; exact heap_alloc_new (V.drewN n1) _
        rw [← hW6]
        clear hW6
        refine wpOrd_eff rfl rfl (fun n2 => ?_)
        have HB6 := Lib.hid (show (W6.drewN n2).heap[V.heap.size]? = _ from b6)
        go_wp2_with (refine wpList_store_r rfl 38 _ _ rfl V.heap.size _ rfl rfl 38 _ HB6 (by kernel_rfl) (by rfl) (by rfl) ?_)
        have k7 : Kp No V ((W6.drewN n2).setRow V.heap.size #[.int .i64 x.who, .string x.s.key, .int .i64 0, .int .i64 0, .int .i64 0, .slice none 0 0, .bool false, .int .i64 0, .bool false]) := (k6.drewN n2).setRow (.inr (Nat.le_refl _)) _
        refine ⟨k7, ?_⟩
        have b7 := setRow_at (cs := #[.int .i64 x.who, .string x.s.key, .int .i64 0, .int .i64 0, .int .i64 0, .slice none 0 0, .bool false, .int .i64 0, .bool false]) HB6.out
        repeat (first
          | (apply wpOrd_skip rfl (by decide) rfl; (focus (go_simp; rfl)))
          | (apply wpOrd_pure rfl rfl rfl; (focus (intro _ _; go_simp; (try go_ints); rfl)); (focus (go_simp; rfl)))
          | (apply wpOrd_read rfl rfl rfl; (focus (intro _; go_simp; (try go_ints); rfl)); (focus (go_simp; rfl))))
        refine wpOrd_nil (fun nq => ?_)
        obtain ⟨W7, hW7⟩ : ∃ W, W = ((W6.drewN n2).setRow V.heap.size #[.int .i64 x.who, .string x.s.key, .int .i64 0, .int .i64 0, .int .i64 0, .slice none 0 0, .bool false, .int .i64 0, .bool false]).drewN nq := ⟨_, rfl⟩
        rw [← hW7]
        have b7' : W7.heap[V.heap.size]? = some (.cells #[.int .i64 x.who, .string x.s.key, .int .i64 0, .int .i64 0, .int .i64 0, .slice none 0 0, .bool false, .int .i64 0, .bool false] 38 (0, 0)) := by rw [hW7]; exact b7
        have k7' : Kp No V W7 := by rw [hW7]; exact k7.drewN nq
        have hs7 : V.heap.size < W7.heap.size := get_lt b7'
        obtain ⟨c0, c1, c2, c3, c4, c5, d0, d1, d2, d3, d4, d5⟩ := HBX.out W7 k7'
        rw [hk1'.out] at c0
        obtain ⟨W8, hW8⟩ : ∃ W, W = W7.setCells V.heap.size 2 [.int .i64 0, .int .i64 0, .int .i64 x.s.node, .slice none 0 0, .bool true, .int .i64 0] := ⟨_, rfl⟩
        obtain ⟨cur, b8', _, hl8⟩ := setCells_block V.heap.size 38 [.int .i64 0, .int .i64 0, .int .i64 x.s.node, .slice none 0 0, .bool true, .int .i64 0] W7 2 _ b7' (by simp)
        obtain rfl : cur = #[.int .i64 x.who, .string x.s.key, .int .i64 0, .int .i64 0, .int .i64 x.s.node, .slice none 0 0, .bool true, .int .i64 0, .bool false] := Array.toList_inj.1 (hl8.trans rfl)
        have HTh := Lib.hid (there_block (o := 2) (n := 6) b7' (by simp))
        have k8 : Kp No V W8 := by rw [hW8]; exact k7'.trans (Kp.setCells _ _ _ _) (fun i hi hs => by
          have hs : i = V.heap.size := hs
          omega)
        rw [← hW8] at b8'
        have HW8 := Lib.hid hW8
        clear hW7 b7 b7' k7 k6 b6 HB6 hW8 hl8 T0' q7 q0 k7'
        go_upto_region 9 with (refine wpList_store_m rfl _ _ _ rfl V.heap.size 2 _ rfl rfl HTh (by kernel_rfl) (by rfl) ?_)
        rw [← HW8.out]
        clear HW8 HTh c0 c1 c2 c3 c4 c5 d0 d1 d2 d3 d4 d5
        obtain ⟨c0, c1, c2, c3, c4, c5, d0, d1, d2, d3, d4, d5⟩ := HBX.out W8 k8
        rw [hk1'.out] at c0
        obtain ⟨g0, g1, g2, g3, g4, g5, g6, g7, g8⟩ := wr_cells b8'
        have hs8' : V.heap.size < W8.heap.size := get_lt b8'
        obtain ⟨W9, hW9⟩ : ∃ W, W = W8.setCells V.heap.size 2 [.int .i64 x.r.t1, .int .i64 x.r.t2] := ⟨_, rfl⟩
        obtain ⟨cur, b9', _, hl9⟩ := setCells_block V.heap.size 38 [.int .i64 x.r.t1, .int .i64 x.r.t2] W8 2 _ b8' (by simp)
        obtain rfl : cur = #[.int .i64 x.who, .string x.s.key, .int .i64 x.r.t1, .int .i64 x.r.t2, .int .i64 x.s.node, .slice none 0 0, .bool true, .int .i64 0, .bool false] := Array.toList_inj.1 (hl9.trans rfl)
        have HTh := Lib.hid (there_block (o := 2) (n := 2) b8' (by simp))
        have k9 : Kp No V W9 := by rw [hW9]; exact k8.trans (Kp.setCells _ _ _ _) (fun i hi hs => by
          have hs : i = V.heap.size := hs
          omega)
        rw [← hW9] at b9'
        have HW9 := Lib.hid hW9
        clear hW9 hl9 b8'
        go_upto_region 11 with (refine wpList_store_m rfl _ _ _ rfl V.heap.size 2 _ rfl rfl HTh (by kernel_rfl) (by rfl) ?_)
        rw [← HW9.out]
        clear HW9 HTh c0 c1 c2 c3 c4 c5 d0 d1 d2 d3 d4 d5 g0 g1 g2 g3 g4 g5 g6 g7 g8 k8 hs8'
        obtain ⟨c0, c1, c2, c3, c4, c5, d0, d1, d2, d3, d4, d5⟩ := HBX.out W9 k9
        rw [hk1'.out] at c0
        have HK4 := Lib.hid (HKV.out.trans_same k9)
        have HO := Lib.hid (Own.nil W9 5 1)
        have hR := WRel.app inforWrite Try.underlying26 (by decide) HR.out (W := W9) HK4.out ⟨⟨x.who, x.s.key, x.r.t1, x.r.t2, x.s.node, [], true, 0, false⟩, none, 0⟩ HO.out (by omega) #[.int .i64 x.who, .string x.s.key, .int .i64 x.r.t1, .int .i64 x.r.t2, .int .i64 x.s.node, .slice none 0 0, .bool true, .int .i64 0, .bool false] rfl
        obtain ⟨a5, c5', W10, hrun, hw5⟩ := hR
        have hst : (L.take (k + 1)).filterMap wrF = (L.take k).filterMap wrF ++ [⟨x.who, x.s.key, x.r.t1, x.r.t2, x.s.node, [], true, 0, false⟩] := step_yes HE (wrF_D hk1'.out he0)
        rw [← hst] at hw5
        have HX := Lib.hid hrun
        have HW5 := Lib.hid hw5
        clear hrun hw5 hst
        obtain ⟨g0, g1, g2, g3, g4, g5, g6, g7, g8⟩ := wr_cells b9'
        clear b9'
        go_wp2_with (at_builtin; refine wpList_append_run rfl rfl rfl rfl HX.out ?_)
        go_roundw
        case rel => exact ⟨k + 1, nn + 1, a5, c5', by omega, by omega, by go_num, rfl, HW5⟩
        case measure => simp [intOf]; omega
      ·
        have hk1' := Lib.hid hk1
        rw [hk1] at c0
        rw [he0] at d0
        go_upto_region 7 with fail
        have T0' : ∀ W, Kp No V W → W.cell? ⟨g, off + k * 18, none⟩ = some (.int .i64 x.who) := fun W hW => by have := T0.out W (HKV.out.trans_same hW); rwa [Nat.add_zero] at this
        have q7 : ∀ W, Kp No V W → W.cell? ⟨b8, 7, none⟩ = some (.string x.s.key) := fun W hW => (HBX.out W hW).key
        have q0 : ∀ W, Kp No V W → W.cell? ⟨b9, 0, none⟩ = some (.int .i64 9) := fun W hW => by have := (HBX.out W hW).err; rw [he0] at this; exact this
        clear c0 c1 c2 c3 c4 c5 d0 d1 d2 d3 d4 d5
        refine wp_region_held' (Kp No _) [0,0,0,0,0,0,0,0,0,0,0,2,2] [0,1,2,3,4,5,6,7,8,9,10,11,12] (by kernel_rfl) (by kernel_rfl) (fun _ n h => h.drewN n) (Kp.refl _ _) ?_
        repeat (first
          | (apply wpOrd_skip rfl (by decide) rfl; (focus (go_simp; rfl)))
          | (apply wpOrd_pure rfl rfl rfl; (focus (intro _ _; go_simp; (try go_ints); rfl)); (focus (go_simp; rfl)))
          | (apply wpOrd_read rfl rfl rfl; (focus (intro _; go_simp; (try go_ints); rfl)); (focus (go_simp; rfl))))
        refine wpOrd_eff rfl rfl (fun n1 => ?_)
        go_wp2_with fail
        refine ⟨((Kp.refl _ _).drewN _).alloc _, ?_⟩
        obtain ⟨W6, hW6⟩ : ∃ W, W = (V.drewN n1).alloc (.cells #[.int .i64 0, .string { data := #[] }, .int .i64 0, .int .i64 0, .int .i64 0, .slice none 0 0, .bool false, .int .i64 0, .bool false] 38) := ⟨_, rfl⟩
        have k6 : Kp No V W6 := by rw [hW6]; exact ((Kp.refl _ _).drewN _).alloc _
        have b6 : W6.heap[V.heap.size]? = some (.cells #[.int .i64 0, .string { data := #[] }, .int .i64 0, .int .i64 0, .int .i64 0, .slice none 0 0, .bool false, .int .i64 0, .bool false] 38 (0, 0)) := by rw [hW6]; exact heap_alloc_new (V.drewN n1) _
        rw [← hW6]
        clear hW6
        refine wpOrd_eff rfl rfl (fun n2 => ?_)
        have HB6 := Lib.hid (show (W6.drewN n2).heap[V.heap.size]? = _ from b6)
        go_wp2_with (refine wpList_store_r rfl 38 _ _ rfl V.heap.size _ rfl rfl 38 _ HB6 (by kernel_rfl) (by rfl) (by rfl) ?_)
        have k7 : Kp No V ((W6.drewN n2).setRow V.heap.size #[.int .i64 x.who, .string x.s.key, .int .i64 0, .int .i64 0, .int .i64 0, .slice none 0 0, .bool false, .int .i64 0, .bool true]) := (k6.drewN n2).setRow (.inr (Nat.le_refl _)) _
        refine ⟨k7, ?_⟩
        have b7 := setRow_at (cs := #[.int .i64 x.who, .string x.s.key, .int .i64 0, .int .i64 0, .int .i64 0, .slice none 0 0, .bool false, .int .i64 0, .bool true]) HB6.out
        repeat (first
          | (apply wpOrd_skip rfl (by decide) rfl; (focus (go_simp; rfl)))
          | (apply wpOrd_pure rfl rfl rfl; (focus (intro _ _; go_simp; (try go_ints); rfl)); (focus (go_simp; rfl)))
          | (apply wpOrd_read rfl rfl rfl; (focus (intro _; go_simp; (try go_ints); rfl)); (focus (go_simp; rfl))))
        refine wpOrd_nil (fun nq => ?_)
        obtain ⟨W7, hW7⟩ : ∃ W, W = ((W6.drewN n2).setRow V.heap.size #[.int .i64 x.who, .string x.s.key, .int .i64 0, .int .i64 0, .int .i64 0, .slice none 0 0, .bool false, .int .i64 0, .bool true]).drewN nq := ⟨_, rfl⟩
        rw [← hW7]
        have b7' : W7.heap[V.heap.size]? = some (.cells #[.int .i64 x.who, .string x.s.key, .int .i64 0, .int .i64 0, .int .i64 0, .slice none 0 0, .bool false, .int .i64 0, .bool true] 38 (0, 0)) := by rw [hW7]; exact b7
        have k7' : Kp No V W7 := by rw [hW7]; exact k7.drewN nq
        have hs7 : V.heap.size < W7.heap.size := get_lt b7'
        obtain ⟨c0, c1, c2, c3, c4, c5, d0, d1, d2, d3, d4, d5⟩ := HBX.out W7 k7'
        rw [hk1'.out] at c0
        obtain ⟨W8, hW8⟩ : ∃ W, W = W7.setCells V.heap.size 2 [.int .i64 0, .int .i64 0, .int .i64 x.s.node, .slice none 0 0, .bool true, .int .i64 0] := ⟨_, rfl⟩
        obtain ⟨cur, b8', _, hl8⟩ := setCells_block V.heap.size 38 [.int .i64 0, .int .i64 0, .int .i64 x.s.node, .slice none 0 0, .bool true, .int .i64 0] W7 2 _ b7' (by simp)
        obtain rfl : cur = #[.int .i64 x.who, .string x.s.key, .int .i64 0, .int .i64 0, .int .i64 x.s.node, .slice none 0 0, .bool true, .int .i64 0, .bool true] := Array.toList_inj.1 (hl8.trans rfl)
        have HTh := Lib.hid (there_block (o := 2) (n := 6) b7' (by simp))
        have k8 : Kp No V W8 := by rw [hW8]; exact k7'.trans (Kp.setCells _ _ _ _) (fun i hi hs => by
          have hs : i = V.heap.size := hs
          omega)
        rw [← hW8] at b8'
        have HW8 := Lib.hid hW8
        clear hW7 b7 b7' k7 k6 b6 HB6 hW8 hl8 T0' q7 q0 k7'
        go_upto_region 9 with (refine wpList_store_m rfl _ _ _ rfl V.heap.size 2 _ rfl rfl HTh (by kernel_rfl) (by rfl) ?_)
        rw [← HW8.out]
        clear HW8 HTh c0 c1 c2 c3 c4 c5 d0 d1 d2 d3 d4 d5
        obtain ⟨c0, c1, c2, c3, c4, c5, d0, d1, d2, d3, d4, d5⟩ := HBX.out W8 k8
        rw [hk1'.out] at c0
        obtain ⟨g0, g1, g2, g3, g4, g5, g6, g7, g8⟩ := wr_cells b8'
        go_upto_region 11 with fail
        obtain ⟨W9, hW9⟩ : ∃ W, W = W8 := ⟨_, rfl⟩
        subst hW9
        have k9 := k8
        have b9' := b8'
        clear g0 g1 g2 g3 g4 g5 g6 g7 g8 k8 b8'
        have HK4 := Lib.hid (HKV.out.trans_same k9)
        have HO := Lib.hid (Own.nil W9 5 1)
        have hR := WRel.app inforWrite Try.underlying26 (by decide) HR.out (W := W9) HK4.out ⟨⟨x.who, x.s.key, 0, 0, x.s.node, [], true, 0, true⟩, none, 0⟩ HO.out (by omega) #[.int .i64 x.who, .string x.s.key, .int .i64 0, .int .i64 0, .int .i64 x.s.node, .slice none 0 0, .bool true, .int .i64 0, .bool true] rfl
        obtain ⟨a5, c5', W10, hrun, hw5⟩ := hR
        have hst : (L.take (k + 1)).filterMap wrF = (L.take k).filterMap wrF ++ [⟨x.who, x.s.key, 0, 0, x.s.node, [], true, 0, true⟩] := step_yes HE (wrF_E hk1'.out he0)
        rw [← hst] at hw5
        have HX := Lib.hid hrun
        have HW5 := Lib.hid hw5
        clear hrun hw5 hst
        obtain ⟨g0, g1, g2, g3, g4, g5, g6, g7, g8⟩ := wr_cells b9'
        clear b9'
        go_wp2_with (at_builtin; refine wpList_append_run rfl rfl rfl rfl HX.out ?_)
        go_roundw
        case rel => exact ⟨k + 1, nn + 1, a5, c5', by omega, by omega, by go_num, rfl, HW5⟩
        case measure => simp [intOf]; omega
      iterate 2
        ·
          rw [hk1] at c0
          have f1 : (x.r.err != 0) = true := by simp [he0]
          have f2 : (x.r.err != 9) = true := by simp [he9]
          have hst := step_no HE (wrF_no2 he0 he9)
          have hw := Lib.hid (HR.out.keep HKV.out)
          rw [← hst] at hw
          clear hst
          go_wp2_with fail
          go_roundw
          case rel => exact ⟨k + 1, nn, ao, co, by omega, by omega, by go_num, rfl, hw⟩
          case measure => simp [intOf]; omega
    · obtain rfl : k = L.length := by omega
      have hd := HR.out.done
      rw [List.take_length] at hd
      have HD := Lib.hid hd
      clear hlt hd
      go_wp2_with fail
      go_ret
      obtain ⟨R, h1, h2, h3, h4⟩ := HD.out
      subst h1
      exact ⟨ao, co, R, rfl, h2, h3, h4⟩
end Go.Proofs.Ytojlccligmfcaaa
