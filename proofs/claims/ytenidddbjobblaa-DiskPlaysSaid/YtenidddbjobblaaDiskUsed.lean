/-
  disk: New, Used; bytes.Clone.
-/
import Derived.Test.YtenidddbjobblaaDisk
import Derived.WalkKit
import Derived.WalkSpells
import Derived.WalkLawsBesides
import Derived.Deep.LoopGhost
import Derived.Lib.Hide
namespace Go.Proofs.Ytenidddbjobblaa
open Go.RowKit Go.Mer

theorem ret_int' {k : IntKind} {a b : Int} (h : a = b) : Ending.returned (.int k a) = .returned (.int k b) := by rw [h]

set_option maxHeartbeats 400000 in
/-- bytes.Clone: the same bytes, in a row of their own. -/
theorem clone_any (a : Option Addr) (c : Nat) (xs : List UInt8) (B : Nat) (w : World) (hr : Rd w B a (u8s xs)) (hm : xs.length ≤ 140737488355328) :
    Calls Try.prog 32 #[.slice a xs.length c] w fun e w' => ∃ v, e = .returned v ∧ Own w' 5 1 v xs.length (u8s xs) ∧ Kp No w w' ∧ ∀ g, v.ownBlock = some g → w.heap.size ≤ g := by
  obtain ⟨i0, hi, hz0, hz1, hz2⟩ := info_parts infoByte
  cases a with
  | none =>
    have hx : xs = [] := by
      rcases Nat.eq_zero_or_pos xs.length with h | h
      · exact List.eq_nil_of_length_eq_zero h
      · obtain ⟨g, off, h1, _⟩ := hr (by rw [u8s_length]; exact h)
        cases h1
    subst hx
    have hq := fun w => Lib.run_eql_slice_nil (P := Try.prog) w 23 5 none 0 c 0 0 Try.underlying23
    simp only [List.length_nil]
    go_enter Try.func32, Try.ntmps32
    go_wp2_with fail
    go_ret
    exact ⟨_, rfl, Own.nil _ _ _, Kp.refl _ _, fun g h => by simp [Value.ownBlock] at h⟩
  | some ad =>
    have hq := fun w => Lib.run_eql_slice_nil (P := Try.prog) w 23 5 (some ad) xs.length c 0 0 Try.underlying23
    have hal : Kp No w (w.alloc (.cells #[] 5)) := (Kp.refl _ _).alloc _
    have hown0 : Own (w.alloc (.cells #[] 5)) 5 1 (.slice (some ⟨w.heap.size, 0, none⟩) 0 0) 0 [] := Own.made w 5 1 #[] 0 0 (Nat.le_refl _) (by simp [maxLen]) (by simp) rfl
    have hsrc : Src (w.alloc (.cells #[] 5)) 1 (.slice (some ad) xs.length c) xs.length (u8s xs) := ⟨by simp [u8s_length], some ad, c, rfl, fun hx => by
      obtain ⟨g, off, h1, h2, h3, h4⟩ := hr hx
      exact ⟨g, off, h1, by simp; omega, Nat.le_refl _, fun j u hu => (hal.cell (p := ⟨g, off + j, none⟩) (by show g < _; omega) (fun x => x)).trans (h4 j u hu)⟩⟩
    obtain ⟨v1, w1, hrun, hown, hkp, hblk⟩ := run_append_Own (P := Try.prog) (w := w.alloc (.cells #[] 5)) 23 23 23 5 i0 (.int .u8 0) 1 1 Try.underlying23 ⟨_, Try.underlying23⟩ hi hz0 hz1 hz2 rfl
      (.slice (some ⟨w.heap.size, 0, none⟩) 0 0) 0 [] hown0 (.slice (some ad) xs.length c) xs.length (u8s xs) hsrc (u8s_one xs) (by simp only [maxLen]; omega) (by omega)
    have HO := Lib.hid hown
    have HK := Lib.hid hkp
    have HB := Lib.hid hblk
    have HR := Lib.hid hrun
    clear hown hkp hblk hown0 hsrc hz0 hz1 hz2 hi hrun
    go_enter Try.func32, Try.ntmps32
    go_wp2_with (at_builtin; refine wpList_append_run rfl rfl rfl rfl HR.out ?_)
    go_ret
    refine ⟨_, rfl, by simpa using HO.out, hal.trans HK.out (fun k hk h => by simp [Value.ownBlock] at h; omega), fun g hg => ?_⟩
    rcases HB.out with h | ⟨g', h, h'⟩
    · have hg2 : v1.ownBlock = some g := hg
      rw [h] at hg2
      simp [Value.ownBlock] at hg2
      omega
    · have hg2 : v1.ownBlock = some g := hg
      rw [h] at hg2
      injection hg2 with hg2
      simp at h'
      omega

/-- New: a disk of its own. -/
theorem new_any (room : Nat) (w : World) (hhi : room ≤ 1073741824) :
    Calls Try.prog 10 #[.int .i64 (room : Int)] w fun e w' =>
      e = .returned (.tuple #[.pointer (some ⟨w.heap.size + 1, 0, none⟩), .int .i64 0]) ∧ Kp No w w' ∧ ∃ F, DiskAt w' (w.heap.size + 1) ⟨room, none, []⟩ F ∧ ∀ k, F k → w.heap.size ≤ k := by
  have hmm := @run_makeMap Try.prog
  go_enter Try.func10, Try.ntmps10
  go_wp2_with fail
  go_ret2
  refine ⟨rfl, ((Kp.refl _ _).alloc _).alloc _, fun k => k = w.heap.size ∨ k = w.heap.size + 1, ⟨w.heap.size, false, 0, [], ?_, rfl, rfl, ?_, ?_⟩, ?_⟩
  · refine { cell := ?_, map := ?_, files := (by simp), blks := (by simp), rows := (by simp), fits := (by simp [absL, totF]), roomy := hhi, few := (by simp), left0 := (by simp), leftM := (by simp) }
    · have := heap_alloc_new (w.alloc (.map #[] 0)) (.cells #[.int .i64 (room : Int), .map (some w.heap.size), .bool false, .int .i64 0] 60)
      simpa using this
    · exact (GMap.made Value.string w).of_heap (by
        rw [Below.heap_alloc _ _ _ (by simp)])
  · rintro k (rfl | rfl | ⟨p, hp, _⟩)
    · exact .inr rfl
    · exact .inl rfl
    · cases hp
  · rintro k (rfl | rfl) <;> simp <;> omega
  · rintro k (rfl | rfl) <;> omega
/-- New refuses. -/
theorem new_bad (room : Int) (w : World) (h : room < 0 ∨ 1073741824 < room) :
    Calls Try.prog 10 #[.int .i64 room] w fun e w' => e = .returned (.tuple #[.pointer none, .int .i64 1]) ∧ w = w' := by
  rcases h with h | h
  · go_enter Try.func10, Try.ntmps10
    go_wp2_with fail
    go_ret2
    exact ⟨rfl, rfl⟩
  · have h1 : ¬ room < 0 := by omega
    go_enter Try.func10, Try.ntmps10
    go_wp2_with fail
    go_ret2
    exact ⟨rfl, rfl⟩

set_option maxHeartbeats 400000 in
/-- Used: how many bytes there are. -/
theorem used_any (w : World) (d m room : Nat) (fused : Bool) (left : Int) (L : FilesR) (hD : DiskC w d m room fused left L) :
    Calls Try.prog 15 #[.pointer (some ⟨d, 0, none⟩)] w fun e w' => e = .returned (.int .i64 (totF (absL L) : Int)) ∧ Kp No w w' := by
  have HD := Lib.hid hD
  have c1 := cell_at hD.cell 1
  simp at c1
  obtain ⟨o, hrun, hit⟩ := run_range_g (P := Try.prog) Try.underlying58 hD.map
  have HI := Lib.hid hit
  clear hit hD
  go_enter Try.func15, Try.ntmps15
  go_wp2_with fail
  go_loopg [3] (restV (absL L) []) (fun g n wr => ∃ V, g = restV (absL L) V ∧ Hid (GIter Value.string wr w.heap.size m (ptrL L) V) ∧ Kp No w wr ∧ n = .int .i64 (totV (absL L) V : Int))
  case atStart => exact ⟨[], rfl, HI.out, (Kp.refl _ _).alloc _, by rw [totV_nil]; rfl⟩
  case round =>
    obtain ⟨V, rfl, hI, hk, rfl⟩ := hrel
    have hD' := HD.out.keep_no hk
    have hsum := totV_le (absL L) V
    have hfit := hD'.fits
    have hroom := hD'.roomy
    rcases run_next_g (P := Try.prog) 0 hI.out with ⟨hall, hnext⟩ | ⟨p, hp, hpV, n, o', hnext, hI', hent⟩
    · have ht := totV_all (l := absL L) (V := V) (fun q hq => by
        obtain ⟨x, hx, rfl⟩ := List.mem_map.1 hq
        exact hall (x.1, x.2.ptr) (List.mem_map.2 ⟨x, hx, rfl⟩))
      have HT := Lib.hid ht
      clear ht hall hD'
      go_wp2_with fail
      go_ret
      exact ⟨ret_int' (by rw [HT.out]), hk⟩
    · obtain ⟨x, hx, rfl⟩ := List.mem_map.1 hp
      have hxa : (x.1, x.2.abs) ∈ absL L := List.mem_map.2 ⟨x, hx, rfl⟩
      have hst := totV_step (V := V) (by rw [keys_absL]; exact HD.out.keys) hxa hpV
      have hsum' := totV_le (absL L) (x.1 :: V)
      have hre := (filter_step (V := V) (by rw [keys_absL]; exact HD.out.keys) hxa hpV).2
      have hrm : w.heap.size ≠ m := hI.out.ne
      have hk' : Kp No w (ChangeMaps.setBlock (wr.drewN n) w.heap.size o') := (hk.drewN n).setBlock (.inr (Nat.le_refl _)) o'
      have hrl : w.heap.size < wr.heap.size := hI.out.lt
      have hf := (HD.out.keep_no hk').files x hx
      have cf := cell_at hf.1 0
      simp at cf
      obtain ⟨fa, fc, hv, _⟩ := hf.2.1.rd
      have cf' : (ChangeMaps.setBlock (wr.drewN n) w.heap.size o').cell? ⟨x.2.blk, 0, none⟩ = some (.slice fa x.2.data.length fc) := by rw [← hv]; exact cf
      have hnx : (Instr.next (.pointer (some ⟨w.heap.size, 0, none⟩)) false 0).run Try.prog wr = .ok (.tuple #[.bool true, .string x.1, .pointer (some ⟨x.2.blk, 0, none⟩)]) (ChangeMaps.setBlock (wr.drewN n) w.heap.size o') := hnext
      have hen : (Instr.entry (.pointer (some ⟨w.heap.size, 0, none⟩))).run Try.prog (ChangeMaps.setBlock (wr.drewN n) w.heap.size o') = .ok (.tuple #[.string x.1, .pointer (some ⟨x.2.blk, 0, none⟩)]) (ChangeMaps.setBlock (wr.drewN n) w.heap.size o') :=
        hent _ (setBlock_at (w := wr.drewN n) hrl o') (by show (wr.heap.setIfInBounds _ o')[m]? = _; rw [Array.getElem?_setIfInBounds_ne hrm])
      have hI2 := Lib.hid hI'
      have hadd : totV (absL L) V + x.2.data.length ≤ totF (absL L) := by have := hst; simp only [FileR.abs] at this; omega
      have hst' := Lib.hid hst
      have hre' := Lib.hid hre
      obtain ⟨W2, hW2⟩ : ∃ W, W = ChangeMaps.setBlock (wr.drewN n) w.heap.size o' := ⟨_, rfl⟩
      rw [← hW2] at cf' hnx hen hI2 hk'
      clear hW2 hnext hent hI' hst hre hv cf hf hsum' hxa hp hpV hI hD' hk
      go_wp2_with fail
      go_roundg (restV (absL L) (x.1 :: V))
      case measure => have := hre'.out; omega
      case rel => exact ⟨x.1 :: V, rfl, hI2.out, hk', by rw [hst'.out]; go_num⟩
end Go.Proofs.Ytenidddbjobblaa
