/-
  The reference's disk: spot.
-/
import Derived.Test.YtenidddbjobblaaRDisk
import Derived.Test.YtenidddbjobblaaDiskApi
import Derived.WalkKit
import Derived.WalkSpells
import Derived.WalkLawsBesides
import Derived.Outline
namespace Go.Proofs.Ytenidddbjobblaa
open Go.RowKit Go.Mer

set_option maxRecDepth 100000 in
set_option maxHeartbeats 1000000 in
theorem rspot_any (w : World) (r room : Nat) (left : Int) (rv : Value) (L : List RFile) (h : RC w r room left rv L) (k : ByteArray) :
    Calls Try.prog 55 #[.pointer (some ⟨r, 0, none⟩), .string k] w fun e w' => ∃ (i : Nat) (b : Bool), e = .returned (.tuple #[.int .i64 (i : Int), .bool b]) ∧ Spot L k i b ∧ Kp No w w' := by
  obtain ⟨ra, rcap, rfl, hrc, hrd⟩ := h.row.rd
  have HC1 := Lib.hid (show ∀ W, Kp No w W → W.cell? ⟨r, 1, none⟩ = some (.slice ra L.length rcap) ∧ r < W.heap.size from fun W hW => ⟨by rw [cell_at (hW.get h.cell fun x => x)]; rfl, get_lt (hW.get h.cell fun x => x)⟩)
  have HRD := Lib.hid hrd
  have HS := Lib.hid h.sorted
  have hfew := h.few
  clear h hrd
  go_enter Try.func55, Try.ntmps55
  go_wp2_with fail
  rename World => w0
  go_loopw [6] (fun i wr => ∃ j : Nat, j ≤ L.length ∧ i = .int .i64 (j : Int) ∧ Hid (∀ f ∈ L.take j, NLt f.name k) ∧ Hid (Kp No w0 wr)) (fun i _ => L.length - (intOf i).toNat)
  case atStart => exact ⟨0, Nat.zero_le _, rfl, Lib.hid (by simp), Lib.hid (Kp.refl _ _)⟩
  case round =>
    obtain ⟨j, hj, rfl, HL, HKP⟩ := hrel
    obtain ⟨c1, hrl⟩ := HC1.out _ HKP.out
    by_cases hlt : j < L.length
    · obtain ⟨g, off, rfl, l0⟩ := rd_chunk (f := RFile.cells) (c := 3) RFile.cells_len (by decide) HRD.out hlt
      have d0 := l0 _ HKP.out 0 _ rfl
      rw [Nat.add_zero] at d0
      have hgl : g < wr.heap.size := World.block_lt_of_cell? wr _ d0
      have HT := Lib.hid (List.take_succ_eq_append_getElem hlt)
      rcases nlt_tri L[j].name k with hn | hn | hn
      · have f1 := less_yes hn
        have HL2 : Hid (∀ f ∈ L.take (j + 1), NLt f.name k) := Lib.hid fun f hf => by
          rw [HT.out, List.mem_append, List.mem_singleton] at hf
          rcases hf with hf | rfl
          · exact HL.out f hf
          · exact hn
        clear l0 hn
        go_wp2_with fail
        go_roundw
        case rel => exact ⟨j + 1, by omega, by go_num, HL2, HKP⟩
        case measure => simp [intOf]; omega
      · have f1 := less_no (by rw [hn]; exact nlt_irr k : ¬ NLt L[j].name k)
        have f2 : (L[j].name.toList == k.toList) = true := by rw [hn]; exact beq_self_eq_true _
        have HSP := Lib.hid (spot_is hlt hn)
        clear l0 hn
        go_wp2_with fail
        refine wp_region_ord [0,0,0,0,0,1,1,0,0,0,0,0,1,0,0,0,1,0,0,0,0,0] [0,1,2,3,4,5,6,7,8,9,10,11,13,17,20,12,14,15,16,18,19,21] (by kernel_rfl) (by kernel_rfl) ?_
        repeat (first
          | (apply wpOrd_skip rfl (by decide) rfl; (focus (go_simp; rfl)))
          | (apply wpOrd_pure rfl rfl rfl; (focus (intro _ _; go_simp; (try go_ints); rfl)); (focus (go_simp; rfl)))
          | (apply wpOrd_read rfl rfl rfl; (focus (intro _; go_simp; (try go_ints); rfl)); (focus (go_simp; rfl))))
        refine wpOrd_nil (fun nq => ?_)
        have HK2 := Lib.hid (HKP.out.drewN nq)
        go_wp2_with fail
        go_ret2
        exact ⟨j, true, rfl, HSP.out, HK2.out⟩
      · have f1 := less_no (fun h => nlt_irr _ (nlt_trans h hn) : ¬ NLt L[j].name k)
        have f2 : (L[j].name.toList == k.toList) = false := by
          rw [← beq_toListBytes]
          exact beq_false_of_ne (fun e => by rw [e] at hn; exact nlt_irr _ hn)
        have HSP := Lib.hid (spot_no HS.out hj HL.out (fun _ => hn))
        clear l0 hn
        go_wp2_with fail
        refine wp_region_ord [0,0,0,0,0,1,1,0,0,0,0,0,1,0,0,0,1,0,0,0,0,0] [0,1,2,3,4,5,6,7,8,9,10,11,13,17,20,12,14,15,16,18,19,21] (by kernel_rfl) (by kernel_rfl) ?_
        repeat (first
          | (apply wpOrd_skip rfl (by decide) rfl; (focus (go_simp; rfl)))
          | (apply wpOrd_pure rfl rfl rfl; (focus (intro _ _; go_simp; (try go_ints); rfl)); (focus (go_simp; rfl)))
          | (apply wpOrd_read rfl rfl rfl; (focus (intro _; go_simp; (try go_ints); rfl)); (focus (go_simp; rfl))))
        refine wpOrd_nil (fun nq => ?_)
        have HK2 := Lib.hid (HKP.out.drewN nq)
        go_wp2_with fail
        go_ret2
        exact ⟨j, false, rfl, HSP.out, HK2.out⟩
    · obtain rfl : j = L.length := by omega
      have HSP := Lib.hid (spot_no HS.out hj HL.out (fun h => absurd h hlt))
      clear hlt
      go_wp2_with fail
      refine wp_region_ord [0,0,0,0,0,1,1,0,0,0,0,0,1,0,0,0,1,0,0,0,0,0] [0,1,2,3,4,5,6,7,8,9,10,11,13,17,20,12,14,15,16,18,19,21] (by kernel_rfl) (by kernel_rfl) ?_
      repeat (first
        | (apply wpOrd_skip rfl (by decide) rfl; (focus (go_simp; rfl)))
        | (apply wpOrd_pure rfl rfl rfl; (focus (intro _ _; go_simp; (try go_ints); rfl)); (focus (go_simp; rfl)))
        | (apply wpOrd_read rfl rfl rfl; (focus (intro _; go_simp; (try go_ints); rfl)); (focus (go_simp; rfl))))
      refine wpOrd_nil (fun nq => ?_)
      have HK2 := Lib.hid (HKP.out.drewN nq)
      go_wp2_with fail
      go_ret2
      exact ⟨L.length, false, rfl, HSP.out, HK2.out⟩
end Go.Proofs.Ytenidddbjobblaa
