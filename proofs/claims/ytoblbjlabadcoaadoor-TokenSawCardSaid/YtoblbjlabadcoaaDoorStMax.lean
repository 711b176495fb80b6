/-
  The greatest of stamps: hlc's Max.
-/
import Derived.Test.YtoblbjlabadcoaaDoorStamps
namespace Go.Proofs.YtoblbjlabadcoaaDoor
open Go.RowKit Go.Mer

/-! ### The greatest -/
abbrev St := Int × Int
def stp (p s : St) : St := if 0 < cmpH s.1 s.2 p.1 p.2 then s else p
def maxL : List St → St
  | [] => (0, 0)
  | x :: r => r.foldl stp x
theorem maxL_snoc (l : List St) (h : 0 < l.length) (x : St) : maxL (l ++ [x]) = stp (maxL l) x := by
  cases l with
  | nil => simp at h
  | cons y r => simp [maxL]
/-- Stamps' cells. -/
def stC : List St → List Value
  | [] => []
  | p :: r => .int .i64 p.1 :: .int .i64 p.2 :: stC r
theorem stC_len (L : List St) : (stC L).length = L.length * 2 := by
  induction L with
  | nil => rfl
  | cons p r ih => simp only [stC, List.length_cons, ih]; omega
theorem stC_get (L : List St) : ∀ {k : Nat} (h : k < L.length), (stC L)[k * 2]? = some (.int .i64 L[k].1) ∧ (stC L)[k * 2 + 1]? = some (.int .i64 L[k].2) := by
  induction L with
  | nil => intro k h; simp at h
  | cons p r ih =>
    intro k h
    cases k with
    | zero => exact ⟨rfl, rfl⟩
    | succ k =>
      have := ih (k := k) (by simpa using h)
      rw [show (k + 1) * 2 = k * 2 + 1 + 1 from by omega]
      simpa [stC] using this
theorem stC_append (L M : List St) : stC (L ++ M) = stC L ++ stC M := by
  induction L with
  | nil => rfl
  | cons p r ih => simp [stC, ih]
theorem stC_take (L : List St) : ∀ k : Nat, (stC L).take (k * 2) = stC (L.take k) := by
  induction L with
  | nil => intro k; simp [stC]
  | cons p r ih =>
    intro k
    cases k with
    | zero => simp [stC]
    | succ k => rw [show (k + 1) * 2 = k * 2 + 1 + 1 from by omega]; simp [stC, ih]
theorem stC_drop (L : List St) : ∀ k : Nat, (stC L).drop (k * 2) = stC (L.drop k) := by
  induction L with
  | nil => intro k; simp [stC]
  | cons p r ih =>
    intro k
    cases k with
    | zero => simp [stC]
    | succ k => rw [show (k + 1) * 2 = k * 2 + 1 + 1 from by omega]; simp [stC, ih]
theorem stC_one (L : List St) : ∀ u ∈ stC L, u.oneCell' = true := by
  induction L with
  | nil => intro u h; cases h
  | cons p r ih =>
    intro u h
    simp only [stC, List.mem_cons] at h
    rcases h with rfl | rfl | h
    · rfl
    · rfl
    · exact ih u h
theorem rdStamp {w : World} {B : Nat} {a : Option Addr} {L : List St} (h : Rd w B a (stC L)) {k : Nat} (hk : k < L.length) :
    ∃ g off, a = some ⟨g, off, none⟩ ∧ g < B ∧ B ≤ w.heap.size ∧ w.cell? ⟨g, off + k * 2, none⟩ = some (.int .i64 L[k].1) ∧ w.cell? ⟨g, off + k * 2 + 1, none⟩ = some (.int .i64 L[k].2) := by
  obtain ⟨h0, h1⟩ := stC_get L hk
  obtain ⟨g, off, ha, hg, hB, hc⟩ := h (by rw [stC_len]; omega)
  exact ⟨g, off, ha, hg, hB, hc _ _ h0, by rw [Nat.add_assoc]; exact hc _ _ h1⟩
/-- A block of two numbers. -/
def Blk (w : World) (g : Nat) (t : TypeId) (p : St) : Prop := w.heap[g]? = some (.cells #[.int .i64 p.1, .int .i64 p.2] t (0, 0))
theorem Blk.cells {w : World} {g : Nat} {t : TypeId} {p : St} (h : Blk w g t p) : w.cell? ⟨g, 0, none⟩ = some (.int .i64 p.1) ∧ w.cell? ⟨g, 1, none⟩ = some (.int .i64 p.2) ∧ w.frozen? ⟨g, 0, none⟩ = false ∧ w.frozen? ⟨g, 1, none⟩ = false :=
  ⟨by rw [cell_at h]; rfl, by rw [cell_at h]; rfl, free_at h 0, free_at h 1⟩
theorem Blk.put {w : World} {g : Nat} {t : TypeId} {p : St} (h : Blk w g t p) (x y : Int) : Blk ((w.setCell ⟨g, 0, none⟩ (.int .i64 x)).setCell ⟨g, 1, none⟩ (.int .i64 y)) g t (x, y) := set_at (set_at h 0 _) 1 _
theorem Blk.new (w : World) (t : TypeId) (x y : Int) : Blk (w.alloc (.cells #[.int .i64 x, .int .i64 y] t)) w.heap.size t (x, y) := heap_alloc_new w _
theorem Blk.far {w : World} {g : Nat} {t : TypeId} {p : St} (h : Blk w g t p) {g' i : Nat} (hne : g ≠ g') (u : Value) : Blk (w.setCell ⟨g', i, none⟩ u) g t p := set_far h (p := ⟨g', i, none⟩) hne u
theorem Blk.keep {S : Nat → Prop} {w w' : World} {g : Nat} {t : TypeId} {p : St} (h : Blk w g t p) (hk : Kp S w w') (hS : ¬ S g) : Blk w' g t p := hk.get h hS
theorem Blk.drewN {w : World} {g : Nat} {t : TypeId} {p : St} (h : Blk w g t p) (n : Nat) : Blk (w.drewN n) g t p := h
theorem Blk.alloc {w : World} {g : Nat} {t : TypeId} {p : St} (h : Blk w g t p) (o : Obj) : Blk (w.alloc o) g t p := alloc_far h o
theorem maxL_step (L : List St) {k : Nat} (h : k < L.length) : maxL (L.take (k + 1)) = if k = 0 then L[k] else stp (maxL (L.take k)) L[k] := by
  rw [List.take_succ_eq_append_getElem h]
  by_cases h0 : k = 0
  · subst h0; rfl
  · rw [if_neg h0, maxL_snoc _ (by rw [List.length_take]; omega)]
set_option maxRecDepth 100000 in
set_option maxHeartbeats 1000000 in
theorem Max_any (w : World) (a : Option Addr) (cap : Nat) (L : List St) (hR : Rd w w.heap.size a (stC L)) (hl : L.length ≤ 1000) :
    Calls Tryd.prog 19 #[.slice a L.length cap] w fun e w' => e = .returned (stv (maxL L).1 (maxL L).2) ∧ Kp No w w' := by
  have HR := Lib.hid hR
  clear hR
  go_enter Tryd.func19, Tryd.ntmps19
  go_wp2_with fail
  rename World => w0
  go_loopw [8] (fun i wr => ∃ (k : Nat) (p : St), k ≤ L.length ∧ i = .int .i64 (k : Int) ∧ Hid (p = maxL (L.take k)) ∧ Hid (Blk wr w0.heap.size 23 (0, 0)) ∧ Hid (Blk wr (w0.heap.size + 1) 23 p) ∧ Hid (Kp No w0 wr)) (fun i _ => L.length - (intOf i).toNat)
  case atStart =>
    refine ⟨0, (0, 0), Nat.zero_le _, rfl, rfl, ?_, ?_, ((Kp.refl _ _).alloc _).alloc _⟩
    · exact (Blk.new w0 23 0 0).keep (S := No) ((Kp.refl _ _).alloc _) fun x => x
    · have := Blk.new (w0.alloc (.cells #[.int .i64 0, .int .i64 0] 23)) 23 0 0
      exact (by simpa using this : Blk _ _ _ _)
  case round =>
    obtain ⟨k, p, hk, rfl, HP, HB, HM, HK⟩ := hrel
    by_cases hlt : k < L.length
    · obtain ⟨g, off, rfl, hg, _, hc0, hc1⟩ := rdStamp (HR.out.keep HK.out fun _ _ x => x) hlt
      have hg' : g < wr.heap.size := HK.out.lt hg
      obtain ⟨s, hs⟩ : ∃ s, s = L[k] := ⟨_, rfl⟩
      rw [← hs] at hc0 hc1
      have HS := Lib.hid hs
      clear hs
      obtain ⟨m0, m1, f0, f1⟩ := HM.out.cells
      have hbm := get_lt HM.out
      by_cases hk0 : k = 0
      · subst hk0
        simp only [Nat.zero_mul, Nat.add_zero] at hc0 hc1
        go_wp2_with fail
        go_roundw
        case rel =>
          refine ⟨1, s, by omega, rfl, ?_, ?_, ?_, ?_⟩
          · show s = _
            rw [show s = _ from HS.out]
            exact (maxL_step L hlt).symm
          · exact ((HB.out.far (by omega) _).far (by omega) _).alloc _
          · exact (HM.out.put s.1 s.2).alloc _
          · exact ((HK.out.setCell (.inr (by simp)) _).setCell (.inr (by simp)) _).alloc _
        case measure => simp [intOf]; omega
      · have b0 : ((k : Int) == 0) = false := by simpa using hk0
        have hst := Lib.hid (maxL_step L hlt)
        have HK0 := Lib.hid hk0
        clear hk0
        go_wp2_with fail
        refine (Compare_any s.1 s.2 p.1 p.2 _).mono ?_
        rintro e w1 ⟨rfl, hk1⟩
        have hB1 := (HB.out.alloc _).keep hk1 fun x => x
        have hM1 := (HM.out.alloc _).keep hk1 fun x => x
        have hS1 := (Blk.new wr 23 s.1 s.2).keep hk1 fun x => x
        have hK1 := (HK.out.alloc _).trans_same hk1
        obtain ⟨c0, c1, _, _⟩ := hS1.cells
        obtain ⟨d0, d1, f0, f1⟩ := hM1.cells
        have hstp : stp p s = if 0 < cmpH s.1 s.2 p.1 p.2 then s else p := rfl
        obtain ⟨r, hr⟩ : ∃ r, r = cmpH s.1 s.2 p.1 p.2 := ⟨_, rfl⟩
        rw [← hr] at hstp ⊢
        have HSTP := Lib.hid hstp
        have HB1 := Lib.hid hB1
        have HM1 := Lib.hid hM1
        have HK1 := Lib.hid hK1
        clear hr hstp hB1 hM1 hK1 hS1 hk1 m0 m1
        by_cases hpos : 0 < r
        · go_wp2_with fail
          go_roundw
          case rel =>
            refine ⟨k + 1, s, by omega, by go_num, ?_, ?_, ?_, ?_⟩
            · show s = _
              rw [hst.out, if_neg HK0.out, ← show p = _ from HP, ← show s = _ from HS.out, HSTP.out, if_pos hpos]
            · exact (HB1.out.far (by omega) _).far (by omega) _
            · exact HM1.out.put s.1 s.2
            · exact (HK1.out.setCell (.inr (by simp)) _).setCell (.inr (by simp)) _
          case measure => simp [intOf]; omega
        · go_wp2_with fail
          go_roundw
          case rel =>
            refine ⟨k + 1, p, by omega, by go_num, ?_, HB1, HM1, HK1⟩
            show p = _
            rw [hst.out, if_neg HK0.out, ← show p = _ from HP, ← show s = _ from HS.out, HSTP.out, if_neg (by omega)]
          case measure => simp [intOf]; omega
    · obtain rfl : k = L.length := by omega
      obtain ⟨m0, m1, _, _⟩ := HM.out.cells
      obtain ⟨b0, b1, f0, f1⟩ := HB.out.cells
      go_wp2_with fail
      obtain ⟨q0, q1, _, _⟩ := (HB.out.put p.1 p.2).cells
      have hkf : Kp No w0 ((wr.setCell ⟨w0.heap.size, 0, none⟩ (.int .i64 p.1)).setCell ⟨w0.heap.size, 1, none⟩ (.int .i64 p.2)) := (HK.out.setCell (.inr (Nat.le_refl _)) _).setCell (.inr (Nat.le_refl _)) _
      obtain ⟨Wf, hWf⟩ : ∃ W, W = (wr.setCell ⟨w0.heap.size, 0, none⟩ (.int .i64 p.1)).setCell ⟨w0.heap.size, 1, none⟩ (.int .i64 p.2) := ⟨_, rfl⟩
      rw [← hWf] at q0 q1 hkf ⊢
      have hfin : p = maxL L := by
        have h : p = _ := HP
        rwa [List.take_length] at h
      exact bodyPost_ret (v := stv p.1 p.2) (by simp [results, Tryd.results19, go_sem, q0, q1]) rfl ⟨by rw [hfin], hkf⟩
end Go.Proofs.YtoblbjlabadcoaaDoor
