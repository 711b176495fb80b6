/-
  The reference's disk: Used, New.
-/
import Derived.Test.YtenidddbjobblaaRD1
namespace Go.Proofs.Ytenidddbjobblaa
open Go.RowKit Go.Mer

/-- The sum over so many files. -/
theorem totF_take (L : List RFile) {j : Nat} (h : j < L.length) : totF (absR (L.take (j + 1))) = totF (absR (L.take j)) + L[j].data.length := by
  rw [List.take_succ_eq_append_getElem h]
  unfold absR
  rw [List.map_append, totF_append]
  rfl
theorem totF_le (L : List RFile) (j : Nat) : totF (absR (L.take j)) ≤ totF (absR L) := by
  conv => rhs; rw [← List.take_append_drop j L]
  unfold absR
  rw [List.map_append, totF_append]
  omega
set_option maxHeartbeats 1000000 in
theorem rUsed_any (w : World) (r room : Nat) (left : Int) (rv : Value) (L : List RFile) (h : RC w r room left rv L) :
    Calls Try.prog 49 #[.pointer (some ⟨r, 0, none⟩)] w fun e w' => e = .returned (.int .i64 (totF (absR L) : Int)) ∧ Kp No w w' := by
  obtain ⟨ra, rcap, rfl, hrc, hrd⟩ := h.row.rd
  have HC1 := Lib.hid (show ∀ W, Kp No w W → W.cell? ⟨r, 1, none⟩ = some (.slice ra L.length rcap) ∧ r < W.heap.size from fun W hW => ⟨by rw [cell_at (hW.get h.cell fun x => x)]; rfl, get_lt (hW.get h.cell fun x => x)⟩)
  have HRD := Lib.hid hrd
  have HB := Lib.hid (show totF (absR L) ≤ 1073741824 from Nat.le_trans h.fits h.roomy)
  have hfew := h.few
  obtain ⟨T, hT⟩ : ∃ T, T = totF (absR L) := ⟨_, rfl⟩
  rw [← hT]
  have HT := Lib.hid hT
  clear h hrd hT
  go_enter Try.func49, Try.ntmps49
  go_wp2_with fail
  rename World => w0
  go_loopw [3, 4] (fun s i wr => ∃ j N : Nat, j ≤ L.length ∧ i = .int .i64 (j : Int) ∧ s = .int .i64 (N : Int) ∧ Hid (N = totF (absR (L.take j))) ∧ Hid (Kp No w0 wr)) (fun _ i _ => L.length - (intOf i).toNat)
  case atStart => exact ⟨0, 0, Nat.zero_le _, rfl, rfl, Lib.hid rfl, Lib.hid (Kp.refl _ _)⟩
  case round =>
    obtain ⟨j, N, hj, rfl, rfl, HN, HKP⟩ := hrel
    obtain ⟨c1, hrl⟩ := HC1.out _ HKP.out
    by_cases hlt : j < L.length
    · obtain ⟨g, off, rfl, l0⟩ := rd_chunk (f := RFile.cells) (c := 3) RFile.cells_len (by decide) HRD.out hlt
      have d1 := l0 _ HKP.out 1 _ rfl
      have hgl : g < wr.heap.size := World.block_lt_of_cell? wr _ d1
      have hst := totF_take L hlt
      have hle := totF_le L (j + 1)
      have hb := HB.out
      obtain ⟨n, hn⟩ : ∃ n, n = L[j].data.length := ⟨_, rfl⟩
      rw [← hn] at d1 hst
      have HN2 : Hid (N + n = totF (absR (L.take (j + 1)))) := Lib.hid (by have := HN.out; omega)
      have hsm : N + n ≤ 1073741824 := by have := HN.out; omega
      clear l0 hst hle hb hn
      go_wp2_with fail
      go_roundw
      case rel => exact ⟨j + 1, N + n, by omega, by go_num, by go_num, HN2, HKP⟩
      case measure => simp [intOf]; omega
    · obtain rfl : j = L.length := by omega
      have hN := HN.out
      rw [List.take_length, ← HT.out] at hN
      subst hN
      clear hlt
      go_wp2_with fail
      go_ret
      exact ⟨rfl, HKP.out⟩
end Go.Proofs.Ytenidddbjobblaa
