/-
  disk's law DiskKeeps, walked: it answers true.
-/
import Derived.Test.YtenidddbjobblaaBytes
namespace Go.Proofs.Ytenidddbjobblaa
open Go.RowKit Go.Mer

/-! ### The plain law -/
def stK (j : Nat) (l : List UInt8) (m : Nat) : DSt := ⟨1048576, none, if j = 0 then [] else [(⟨#[102]⟩, ⟨l, m⟩)]⟩
theorem stK_write (j : Nat) (l p : List UInt8) (m : Nat) (h0 : j = 0 → l = [] ∧ m = 0) (hb : l.length + p.length ≤ 1048576) : wrS (stK j l m) ⟨#[102]⟩ p = (0, stK (j + 1) (l ++ p) m) := by
  have hn : [(⟨#[102]⟩ : ByteArray)].all nameOk = true := rfl
  have hc : wrCode (stK j l m) ⟨#[102]⟩ p = 0 := by
    unfold wrCode
    rw [if_neg]
    rintro (h | ⟨_, h⟩)
    · unfold stK at h
      split at h
      · simp only [totF_nil] at h; omega
      · simp only [totF_cons, totF_nil] at h; omega
    · unfold stK at h
      split at h <;> simp at h
  unfold wrS five
  rw [if_neg (by simp [stK]), if_pos hn, hc, if_pos rfl]
  by_cases hj : j = 0
  · obtain ⟨rfl, rfl⟩ := h0 hj
    subst hj
    rfl
  · simp [stK, hj, wrFiles, gget, gset]
theorem stK_sync (j : Nat) (l : List UInt8) (m : Nat) : syS (stK (j + 1) l m) ⟨#[102]⟩ = (0, stK (j + 1) l l.length) := by
  have hn : [(⟨#[102]⟩ : ByteArray)].all nameOk = true := rfl
  have hc : syCode (stK (j + 1) l m) ⟨#[102]⟩ = 0 := by
    unfold syCode
    rw [if_neg (by simp [stK, gget])]
  unfold syS five
  rw [if_neg (by simp [stK]), if_pos hn, hc, if_pos rfl]
  simp [stK, syFiles, gget, gset]
theorem stK_read (j : Nat) (l : List UInt8) (m : Nat) (k : Int) (t : UInt8) : rdS (crS (stK (j + 1) l m) k t).files ⟨#[102]⟩ = ((crF k t ⟨l, m⟩).data, 0) := by
  simp [crS, stK, rdS, gget]

theorem torn_at (l : List UInt8) (a b : Nat) (t : UInt8) (k : Nat) (h : k < l.length) : (torn l a b t)[k]'(by rw [torn_length]; exact h) = if a ≤ k ∧ k < b then l[k] ^^^ t else l[k] := by
  simp [torn]
theorem stays_le (k : Int) {x : FileS} (h : x.lasts ≤ x.data.length) : x.lasts ≤ stays k x ∧ stays k x ≤ x.data.length := by
  unfold stays
  have := Nat.mod_lt k.toNat (show 0 < x.data.length - x.lasts + 1 by omega)
  omega
theorem cat_take' (R : List Row) (j : Nat) : (cat (R.take j)).length ≤ (cat R).length := by
  conv => rhs; rw [← List.take_append_drop j R]
  unfold cat
  rw [List.map_append, List.flatten_append, List.length_append]
  omega

set_option maxRecDepth 100000 in
set_option maxHeartbeats 2000000 in
theorem keeps_any (w : World) (synced draw : Int) (tear : UInt8) (hd0 : -9223372036854775808 ≤ draw) (hd1 : draw ≤ 9223372036854775807) (a : Option Addr) (cap : Nat) (R : List Row) (hR : RowsAt w a R) (hl : R.length ≤ 140737488355328) :
    Calls Try.prog 3 #[.slice a R.length cap, .int .i64 synced, .int .i64 draw, .int .u8 (tear.toNat : Int)] w fun e w' => e = .returned (.bool true) ∧ Kp No w w' := by
  go_enter Try.func3, Try.ntmps3
  go_wp2_with fail
  go_loopg [9, 10] R.length (fun g n i wr => ∃ j : Nat, j ≤ R.length ∧ g = R.length - j ∧ i = .int .i64 j ∧ n = .int .i64 (wt (R.take j)) ∧ wr = w)
  case atStart => exact ⟨0, Nat.zero_le _, rfl, rfl, rfl, rfl⟩
  case round =>
    obtain ⟨j, hj, rfl, rfl, rfl, rfl⟩ := hrel
    by_cases hlt : j < R.length
    · obtain ⟨g0, off0, rfl, hg0, hc0, hr0, hm0⟩ := hR.at_ (Kp.refl _ _) hlt
      have hst := Lib.hid (wt_step R hlt)
      by_cases hn : wt (R.take j) ≤ 8000
      · go_wp2_with fail
        go_roundg (R.length - (j + 1))
        case measure => omega
        case rel => exact ⟨j + 1, by omega, rfl, by go_num, by rw [hst.out]; go_num, rfl⟩
      · go_wp2_with fail
        refine (known_any _).mono ?_
        rintro e w' ⟨rfl, hk⟩
        go_wp2_with fail
        go_ret
        exact ⟨rfl, hk⟩
    · by_cases hn : wt (R.take j) ≤ 8000
      · obtain rfl : j = R.length := by omega
        rw [List.take_length] at hn ⊢
        have hlw := wt_len R
        clear hlt hj
        rename World => w0
        have HR := Lib.hid hR
        clear hR
        go_wp2_with fail
        refine (new_any 1048576 _ (by omega)).mono ?_
        rintro e W1 ⟨rfl, hk1, F1, hD1, hF1⟩
        have M1 : Mine w0 W1 (w0.heap.size + 1) (stK 0 [] 0) F1 := ⟨hk1, hD1, hF1⟩
        clear hk1 hD1 hF1
        obtain ⟨d, hd⟩ : ∃ d, d = w0.heap.size + 1 := ⟨_, rfl⟩
        rw [← hd] at M1 ⊢
        clear hd
        obtain ⟨N, hN⟩ : ∃ N : Nat, N = synced.toNat := ⟨_, rfl⟩
        have hNc : ∀ j : Nat, (j : Int) < synced ↔ j < N := fun j => by omega
        clear hN
        go_wp2_with fail
        have T1 : Two w0 W1 d (stK 0 [] 0) F1 (.slice none 0 0) [] (.slice none 0 0) [] := ⟨M1, Own.nil _ _ _, Own.nil _ _ _, fun g h => (by cases h), fun g h => (by cases h), fun g h => (by cases h)⟩
        clear M1
        go_loopg [13, 14, 15] R.length (fun g l1 l2 i wi => ∃ (j : Nat) (F : Nat → Prop) (a1 : Option Addr) (c1 : Nat) (a2 : Option Addr) (c2 : Nat), j ≤ R.length ∧ g = R.length - j ∧ i = .int .i64 j ∧
          l1 = .slice a1 (cat (R.take j)).length c1 ∧ l2 = .slice a2 (cat (R.take (min j N))).length c2 ∧
          Hid (Two w0 wi d (stK j (cat (R.take j)) (cat (R.take (min j N))).length) F l1 (cat (R.take j)) l2 (cat (R.take (min j N)))))
        case atStart => exact ⟨0, F1, none, 0, none, 0, Nat.zero_le _, rfl, rfl, rfl, by simp [cat], by simp [cat]; exact T1⟩
        case round =>
          clear T1
          obtain ⟨j, F, a1, c1, a2, c2, hj, rfl, rfl, rfl, rfl, hT⟩ := hrel
          by_cases hlt : j < R.length
          · obtain ⟨g0, off0, rfl, hg0, hc0, hr0, hm0⟩ := HR.out.at_ hT.out.mine.kp hlt
            have hst := Lib.hid (cat_step R hlt)
            have hgi : g0 < wr.heap.size := hT.out.mine.kp.lt hg0
            have hl1 := cat_take R (j + 1)
            have hl2 := cat_take R j
            have hl3 := cat_take R (min j N)
            have hlen : (cat (R.take j)).length + R[j].data.length ≤ 8000 := by have := hst.out; rw [this, List.length_append] at hl1; omega
            have HW := Lib.hid (Write_any wr d _ F hT.out.mine.disk ⟨#[102]⟩ R[j].a R[j].cap R[j].data (hr0.mono hT.out.mine.kp.size (Nat.le_refl _)) hm0)
            have HR0 := Lib.hid hr0
            clear hr0 hl1
            go_wp2_with fail
            refine (HW.out).mono ?_
            intro e W3 h
            obtain ⟨rfl, F3, T3⟩ := hT.out.step h (stK_write j _ R[j].data _ (fun h0 => by subst h0; simp [cat]) (by omega))
            have hk03 := T3.mine.kp
            obtain ⟨g0', off0', e0, _, hc0', hr3, _⟩ := HR.out.at_ hk03 hlt
            injection e0 with e0
            injection e0 with e1 e2
            subst e1; subst e2
            have hg3 : g0 < W3.heap.size := hk03.lt hg0
            obtain ⟨a3, c3, W4, hrun, ho4, hk4, hb4⟩ := app_bytes W3 _ _ R[j].data T3.o1 R[j].a R[j].cap (hr3.mono hk03.size (Nat.le_refl _)) (by omega)
            have T4 := T3.app hk4 ho4 hb4
            obtain ⟨X, hX⟩ : ∃ X, X = cat (R.take j) ++ R[j].data := ⟨_, rfl⟩
            have hXl : X.length ≤ 8000 := by rw [hX, List.length_append]; exact hlen
            have hXs : cat (R.take (j + 1)) = X := by rw [hX]; exact hst.out
            rw [← hX] at hrun T4
            have HX := Lib.hid hXs
            have HRun := Lib.hid hrun
            have HT4 := Lib.hid T4
            clear h HW T3 hT hr3 hX hXs hst hrun ho4 hk4 hb4 T4 HR0 hc0 hgi hk03
            by_cases hs : (j : Int) < synced
            · have hjN := (hNc j).1 hs
              go_wp2_with (at_builtin; refine wpList_append_run rfl rfl rfl rfl HRun.out ?_)
              have HS := Lib.hid (Sync_any W4 d _ F3 HT4.out.mine.disk ⟨#[102]⟩)
              refine (HS.out).mono ?_
              intro e W5 h
              obtain ⟨rfl, F5, T5⟩ := HT4.out.step h (stK_sync j _ _)
              obtain ⟨a6, c6, W6, hrun6, ho6, hk6, hb6⟩ := cpy_bytes W5 X a3 c3 T5.o1.rd' (by omega)
              have HRun6 := Lib.hid hrun6
              have HT6 := Lib.hid (T5.cpy hk6 ho6 hb6)
              clear h HS T5 hrun6 ho6 hk6 hb6 HRun HT4
              go_wp2_with (at_builtin; refine wpList_append_run rfl rfl rfl rfl HRun6.out ?_)
              go_roundg (R.length - (j + 1))
              case measure => omega
              case rel =>
                have hmin : min (j + 1) N = j + 1 := by omega
                refine ⟨j + 1, F5, a3, c3, a6, c6, by omega, rfl, by go_num, by rw [HX.out], by rw [hmin, HX.out], ?_⟩
                rw [hmin, HX.out]
                exact HT6.out
            · have hjN : ¬ j < N := fun h => hs ((hNc j).2 h)
              go_wp2_with (at_builtin; refine wpList_append_run rfl rfl rfl rfl HRun.out ?_)
              go_roundg (R.length - (j + 1))
              case measure => omega
              case rel =>
                have hmin : min (j + 1) N = min j N := by omega
                refine ⟨j + 1, F3, a3, c3, a2, c2, by omega, rfl, by go_num, by rw [HX.out], by rw [hmin], ?_⟩
                rw [hmin, HX.out]
                exact HT4.out
          · obtain rfl : j = R.length := by omega
            rw [List.take_length] at hT ⊢
            clear hlt hj
            have hA1 := cat_len R
            have hA2 := cat_take' R (min R.length N)
            obtain ⟨A, hA⟩ : ∃ A, A = cat R := ⟨_, rfl⟩
            obtain ⟨S, hS⟩ : ∃ S, S = cat (R.take (min R.length N)) := ⟨_, rfl⟩
            rw [← hA, ← hS] at hT ⊢
            rw [← hA] at hA1 hA2
            rw [← hS] at hA2
            obtain ⟨L, hL⟩ : ∃ L, L = R.length := ⟨_, rfl⟩
            rw [← hL] at hT hlw ⊢
            clear hA hS hL hNc
            have HC := Lib.hid (Crash_any wr d _ F hT.out.mine.disk draw hd0 hd1 tear)
            go_wp2_with fail
            refine (HC.out).mono ?_
            rintro e W4 ⟨rfl, hD4, hK4⟩
            have T4 := hT.out.turn hK4 hD4
            clear HC hD4 hK4 hT
            go_wp2_with fail
            have HRd := Lib.hid (Read_any W4 d _ F T4.mine.disk ⟨#[102]⟩)
            refine (HRd.out).mono ?_
            intro e W5 h
            by_cases hz : L = 0
            · subst hz
              obtain ⟨ab, cb, rfl, _, hk5, _⟩ := h.out (p := []) (c := 7) rfl
              have hk05 := T4.mine.kp.trans_same hk5
              clear h HRd T4 hk5
              go_wp2_with fail
              refine (known_any _).mono ?_
              rintro e w' ⟨rfl, hk⟩
              go_wp2_with fail
              go_ret
              exact ⟨rfl, hk05.trans_same hk⟩
            · obtain ⟨L', rfl⟩ : ∃ L', L = L' + 1 := ⟨L - 1, by omega⟩
              obtain ⟨ab, cb, rfl, ho5, hk5, _⟩ := h.out (stK_read L' A S.length draw tear)
              have T5 := T4.no hk5
              obtain ⟨st, hst⟩ : ∃ st, st = stays draw ⟨A, S.length⟩ := ⟨_, rfl⟩
              obtain ⟨sec, hsec⟩ : ∃ sec, sec = (st - 1) / 16 * 16 := ⟨_, rfl⟩
              obtain ⟨D, hD⟩ : ∃ D, D = (crF draw tear ⟨A, S.length⟩).data := ⟨_, rfl⟩
              rw [← hD] at ho5 ⊢
              have hDe : D = torn (A.take st) (max S.length sec) st tear := by rw [hD, hsec, hst]; rfl
              have hst0 := stays_le draw (x := ⟨A, S.length⟩) hA2
              rw [← hst] at hst0
              obtain ⟨hst1, hst2⟩ := hst0
              simp only at hst1 hst2
              have hDl : D.length = st := by rw [hDe, torn_length, List.length_take]; omega
              rw [hDl] at ho5 ⊢
              have hk05 := T5.mine.kp
              have RA := Lib.hid T5.o1.rd'
              have RD := Lib.hid ho5.rd'
              have HDe := Lib.hid hDe
              have HDl := Lib.hid hDl
              clear h HRd T4 hk5 T5 ho5 hst hD hDe hDl
              by_cases hs0 : st = 0
              · subst hs0
                go_wp2_with fail
                go_loopg [19] 0 (fun g i wi => g = 0 ∧ i = .int .i64 0 ∧ wi = W5)
                case atStart => exact ⟨rfl, rfl, rfl⟩
                case round =>
                  obtain ⟨rfl, rfl, rfl⟩ := hrel
                  go_wp2_with fail
                  refine (known_any _).mono ?_
                  rintro e w' ⟨rfl, hk⟩
                  go_wp2_with fail
                  go_ret
                  exact ⟨rfl, hk05.trans_same hk⟩
              · have hsecz : ((st : Int) - 1) / 16 * 16 = (sec : Int) := by omega
                go_wp2_with fail
                go_loopg [19] st (fun g i wi => ∃ k : Nat, k ≤ st ∧ g = st - k ∧ i = .int .i64 k ∧ wi = W5)
                case atStart => exact ⟨0, Nat.zero_le _, rfl, rfl, rfl⟩
                case round =>
                  obtain ⟨k, hk, rfl, rfl, rfl⟩ := hrel
                  by_cases hlt : k < st
                  · have hkA : k < A.length := by omega
                    have hkD : k < D.length := by rw [HDl.out]; exact hlt
                    obtain ⟨g, off, rfl, hg, _, hc⟩ := RA.out.byte hkA
                    obtain ⟨g', off', rfl, hg', _, hc'⟩ := RD.out.byte hkD
                    have hDk : D[k] = if S.length ≤ k ∧ sec ≤ k then A[k] ^^^ tear else A[k] := by
                      have := torn_at (A.take st) (max S.length sec) st tear k (by rw [List.length_take]; omega)
                      simp only [HDe.out]
                      rw [this]
                      simp only [List.getElem_take]
                      have e : (max S.length sec ≤ k ∧ k < st) ↔ (S.length ≤ k ∧ sec ≤ k) := by omega
                      simp only [e]
                    obtain ⟨x, hx⟩ : ∃ x, x = A[k] := ⟨_, rfl⟩
                    rw [← hx] at hc hDk
                    rw [hDk] at hc'
                    clear hDk hx
                    by_cases hc1 : S.length ≤ k
                    · by_cases hc2 : sec ≤ k
                      · rw [if_pos ⟨hc1, hc2⟩] at hc'
                        have hxx := xor_u8 x tear
                        obtain ⟨z, hz⟩ : ∃ z, z = x ^^^ tear := ⟨_, rfl⟩
                        rw [← hz] at hc' hxx
                        clear hz
                        go_wp2_with fail
                        go_roundg (st - (k + 1))
                        case measure => omega
                        case rel => exact ⟨k + 1, by omega, rfl, by go_num, rfl⟩
                      · rw [if_neg (fun h => hc2 h.2)] at hc'
                        go_wp2_with fail
                        go_roundg (st - (k + 1))
                        case measure => omega
                        case rel => exact ⟨k + 1, by omega, rfl, by go_num, rfl⟩
                    · rw [if_neg (fun h => hc1 h.1)] at hc'
                      go_wp2_with fail
                      go_roundg (st - (k + 1))
                      case measure => omega
                      case rel => exact ⟨k + 1, by omega, rfl, by go_num, rfl⟩
                  · go_wp2_with fail
                    refine (known_any _).mono ?_
                    rintro e w' ⟨rfl, hk⟩
                    go_wp2_with fail
                    go_ret
                    exact ⟨rfl, hk05.trans_same hk⟩
      · go_wp2_with fail
        refine (known_any _).mono ?_
        rintro e w' ⟨rfl, hk⟩
        go_wp2_with fail
        go_ret
        exact ⟨rfl, hk⟩
end Go.Proofs.Ytenidddbjobblaa
