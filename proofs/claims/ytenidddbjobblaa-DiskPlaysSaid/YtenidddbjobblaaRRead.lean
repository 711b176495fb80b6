/-
  The reference's disk: Read, Names.
-/
import Derived.Test.YtenidddbjobblaaRWalk
import Derived.Deep.CutRange
namespace Go.Proofs.Ytenidddbjobblaa
open Go.RowKit Go.Mer

def RReadPost (w : World) (s : DSt) (name : ByteArray) (e : Ending) (w' : World) : Prop :=
  ∃ v, e = .returned (.tuple #[v, .int .i64 (rdS s.files name).2]) ∧ Own w' 5 1 v (rdS s.files name).1.length (u8s (rdS s.files name).1) ∧ Kp No w w' ∧ (∀ g, v.ownBlock = some g → w.heap.size ≤ g)
set_option maxRecDepth 100000 in
set_option maxHeartbeats 1000000 in
theorem rRead_any (w : World) (r : Nat) (s : DSt) (G : Nat → Prop) (h : RAt w r s G) (name : ByteArray) :
    Calls Try.prog 47 #[.pointer (some ⟨r, 0, none⟩), .string name] w (RReadPost w s name) := by
  obtain ⟨rv, L, hR, hp, hGl⟩ := RRun.start h
  have HR := Lib.hid hR
  have HP := Lib.hid hp
  have hs := rspot_any w r s.room (leftOf s.fuse) rv L hR.c name
  have HSP := Lib.hid hs
  clear hs hR hp hGl h
  go_enter Try.func47, Try.ntmps47
  go_wp2_with fail
  refine HSP.out.mono ?_
  rintro e w3 ⟨i, b, rfl, hsp, hk3⟩
  have HR3 := Lib.hid (HR.out.c.keep_no hk3)
  have HK3 := Lib.hid hk3
  clear hk3 HSP
  cases hsp with
  | no L1 L2 hL h1 h2 =>
    have HE := Lib.hid (show rdS s.files name = ([], 7) by
      unfold rdS
      rw [← gget_perm HP.out HR3.out.sorted.keys, hL, get_no h1 h2])
    clear hL h1 h2
    go_wp2_with fail
    go_ret2
    unfold RReadPost
    rw [HE.out]
    exact ⟨.slice none 0 0, rfl, Own.nil _ _ _, HK3.out, fun g hg => by cases hg⟩
  | is L1 f L2 hL hk =>
    subst hL
    have HE := Lib.hid (show rdS s.files name = (f.data, 0) by
      unfold rdS
      rw [← gget_perm HP.out HR3.out.sorted.keys, ← hk, get_is HR3.out.sorted rfl])
    obtain ⟨g, off, rcap, n, hn, hlt, hcap, hgr, rfl, hcells⟩ := HR3.out.at_
    obtain ⟨i, hi⟩ : ∃ i, i = L1.length := ⟨_, rfl⟩
    rw [← hi] at hlt ⊢
    obtain ⟨c1, d0, d1, d2, fr, fg, rl, gl⟩ := hcells w3 (Kp.refl _ _)
    rw [← hi] at d0 d1 d2
    have HF := Lib.hid (HR3.out.files f (by simp))
    have hmm : f.data.length ≤ 1073741824 := by
      have h1 := HR3.out.fits
      have h2 := HR3.out.roomy
      rw [totF_mid] at h1
      omega
    obtain ⟨a7, c7, W7, hrun, ho7, hk7, hb7⟩ := cpy_bytes w3 f.data f.a f.cap HF.out.1.rd' (by omega)
    have HX7 := Lib.hid hrun
    have HO7 := Lib.hid ho7
    have HK7 := Lib.hid hk7
    have HB7 := Lib.hid hb7
    clear hn hi hcells hk hrun ho7 hk7 hb7
    go_wp2_with (at_builtin; refine wpList_append_run rfl rfl rfl rfl HX7.out ?_)
    go_ret2
    unfold RReadPost
    rw [HE.out]
    exact ⟨_, rfl, HO7.out, HK3.out.trans_same HK7.out, fun g hg => Nat.le_trans HK3.out.size (HB7.out g hg)⟩
theorem infoStr : (Try.prog.info? 9).map (fun i => ((i.zero.map fun z => z.cells.size), i.size, i.bytes)) = some (some 1, 1, 16) := by kernel_rfl
def nameCell (f : RFile) : List Value := [.string f.name]
theorem nameCell_one (f : RFile) : ∀ u ∈ nameCell f, u.oneCell' = true := by
  intro u hu
  simp only [nameCell, List.mem_cons, List.not_mem_nil, or_false] at hu
  subst hu
  rfl
theorem nameCells (L : List RFile) : L.flatMap nameCell = (L.map (·.name)).map Value.string := by
  induction L with
  | nil => rfl
  | cons f L ih => rw [List.flatMap_cons, ih]; rfl
/-- The names, in order. -/
def RNamesPost (w : World) (s : DSt) (e : Ending) (w' : World) : Prop :=
  ∃ (N : List ByteArray) (a : Option Addr) (c : Nat), e = .returned (.slice a N.length c) ∧ N.Pairwise NLt ∧ N.Perm (s.files.map (·.1)) ∧ Rd w' w'.heap.size a (N.map Value.string) ∧ Kp No w w'
set_option maxRecDepth 100000 in
set_option maxHeartbeats 1000000 in
theorem rNames_any (w : World) (r : Nat) (s : DSt) (G : Nat → Prop) (h : RAt w r s G) :
    Calls Try.prog 48 #[.pointer (some ⟨r, 0, none⟩)] w (RNamesPost w s) := by
  obtain ⟨rv, L, hR, hp, hGl⟩ := RRun.start h
  obtain ⟨ra, rcap, hrv, hrc, hrd⟩ := hR.c.row.rd
  have HC1 := Lib.hid (show ∀ W, Kp No w W → W.cell? ⟨r, 1, none⟩ = some (.slice ra L.length rcap) ∧ r < W.heap.size from fun W hW => ⟨by rw [cell_at (hW.get hR.c.cell fun x => x), hrv]; rfl, get_lt (hW.get hR.c.cell fun x => x)⟩)
  have HRD := Lib.hid hrd
  have HP := Lib.hid hp
  have HS := Lib.hid hR.c.sorted
  have hfew := hR.c.few
  clear hR hp hGl h hrd hrv
  go_enter Try.func48, Try.ntmps48
  go_wp2_with fail
  rename World => w0
  go_loopw [3, 4] (fun s i wr => ∃ (j : Nat) (a : Option Addr) (c : Nat), j ≤ L.length ∧ i = .int .i64 (j : Int) ∧ s = .slice a j c ∧ Hid (RowRel 9 1 nameCell w0 wr (.slice a j c) j (L.take j))) (fun _ i _ => L.length - (intOf i).toNat)
  case atStart => exact ⟨0, none, 0, Nat.zero_le _, rfl, rfl, Lib.hid (by simpa using RowRel.nil 9 1 nameCell w0)⟩
  case round =>
    obtain ⟨j, ao, co, hj, rfl, rfl, HR⟩ := hrel
    have HKP := Lib.hid HR.out.2.2.2
    obtain ⟨c1, hrl⟩ := HC1.out _ HKP.out
    by_cases hlt : j < L.length
    · obtain ⟨g, off, rfl, l0⟩ := rd_chunk (f := RFile.cells) (c := 3) RFile.cells_len (by decide) HRD.out hlt
      have d0 := l0 _ HKP.out 0 _ rfl
      rw [Nat.add_zero] at d0
      have hgl : g < wr.heap.size := World.block_lt_of_cell? wr _ d0
      have HT := Lib.hid (List.take_succ_eq_append_getElem hlt)
      obtain ⟨f, hf⟩ : ∃ f, f = L[j] := ⟨_, rfl⟩
      rw [← hf] at d0 HT
      obtain ⟨W5, hW5⟩ : ∃ W, W = wr.alloc (.cells #[.string f.name] 9) := ⟨_, rfl⟩
      have k5 : Kp No wr W5 := by rw [hW5]; exact (Kp.refl _ _).alloc _
      have b5 : W5.heap[wr.heap.size]? = some (.cells #[.string f.name] 9 (0, 0)) := by rw [hW5]; exact heap_alloc_new wr _
      obtain ⟨a6, c6, W6, hrun, hm, _⟩ := (HR.out.keep k5).app Try.underlying41 infoStr nameCell_one [f] (one_src (f := nameCell) (x := f) (fun _ => rfl) b5 rfl) rfl (by unfold maxLen; omega) (by omega)
      rw [← HT.out] at hm
      rw [hW5] at hrun
      have HX6 := Lib.hid hrun
      have HM6 := Lib.hid hm
      clear l0 hf k5 b5 hrun hm hW5
      go_wp2_with (at_builtin; refine wpList_append_run rfl rfl rfl rfl HX6.out ?_)
      go_roundw
      case rel => exact ⟨j + 1, a6, c6, by omega, by go_num, rfl, HM6⟩
      case measure => simp [intOf]; omega
    · obtain rfl : j = L.length := by omega
      have hm := HR.out
      rw [List.take_length] at hm
      have HM := Lib.hid hm
      clear hm hlt
      go_wp2_with fail
      go_ret
      refine ⟨L.map (·.name), ao, co, by simp, List.pairwise_map.2 (show L.Pairwise fun a b => NLt a.name b.name from HS.out), ?_, ?_, HM.out.2.2.2⟩
      · have := HP.out.map (·.1)
        rwa [keys_absR] at this
      · have := HM.out.2.1.rd'
        rwa [nameCells] at this
end Go.Proofs.Ytenidddbjobblaa
