/-
  The law TokenOrder, walked; known.
-/
import Derived.Test.YtoblbjlabadcoaaDoorRPrint
namespace Go.Proofs.YtoblbjlabadcoaaDoor
open Go.RowKit Go.Mer

def cmpS (m c n d : Int) : Int := if m < n ∨ (m = n ∧ c < d) then -1 else if m = n ∧ c = d then 0 else 1
theorem rCmp_any (m c n d : Int) (w : World) : Calls Tryd.prog 11 #[stv m c, stv n d] w fun e w' => e = .returned (.int .i64 (cmpS m c n d)) ∧ Kp No w w' := by
  rcases Int.lt_trichotomy m n with h | h | h
  · have e : (m == n) = false := by simp; omega
    have HV : Hid (cmpS m c n d = -1) := by show cmpS _ _ _ _ = _; unfold cmpS; rw [if_pos (.inl h)]
    go_enter Tryd.func11, Tryd.ntmps11
    go_wp2_with fail
    go_ret
    exact ⟨by rw [show cmpS _ _ _ _ = _ from HV]; rfl, ((Kp.refl _ _).alloc _).alloc _⟩
  · subst h
    rcases Int.lt_trichotomy c d with h | h | h
    · skip
      have HV : Hid (cmpS m c m d = -1) := by show cmpS _ _ _ _ = _; unfold cmpS; rw [if_pos (.inr ⟨rfl, h⟩)]
      go_enter Tryd.func11, Tryd.ntmps11
      go_wp2_with fail
      go_ret
      exact ⟨by rw [show cmpS _ _ _ _ = _ from HV]; rfl, ((Kp.refl _ _).alloc _).alloc _⟩
    · subst h
      have HV : Hid (cmpS m c m c = 0) := by show cmpS _ _ _ _ = _; unfold cmpS; rw [if_neg (by omega), if_pos ⟨rfl, rfl⟩]
      go_enter Tryd.func11, Tryd.ntmps11
      go_wp2_with fail
      go_ret
      exact ⟨by rw [show cmpS _ _ _ _ = _ from HV]; rfl, ((Kp.refl _ _).alloc _).alloc _⟩
    · have e : (c == d) = false := by simp; omega
      have HV : Hid (cmpS m c m d = 1) := by show cmpS _ _ _ _ = _; unfold cmpS; rw [if_neg (by omega), if_neg (by omega)]
      go_enter Tryd.func11, Tryd.ntmps11
      go_wp2_with fail
      go_ret
      exact ⟨by rw [show cmpS _ _ _ _ = _ from HV]; rfl, ((Kp.refl _ _).alloc _).alloc _⟩
  · have e : (m == n) = false := by simp; omega
    have HV : Hid (cmpS m c n d = 1) := by show cmpS _ _ _ _ = _; unfold cmpS; rw [if_neg (by omega), if_neg (by omega)]
    go_enter Tryd.func11, Tryd.ntmps11
    go_wp2_with fail
    go_ret
    exact ⟨by rw [show cmpS _ _ _ _ = _ from HV]; rfl, ((Kp.refl _ _).alloc _).alloc _⟩
theorem tokS_size (m c : Int) : (tokS m c).size = 26 := tokN_len (pk m c)
set_option maxRecDepth 100000 in
theorem known_any (w : World) (ht : Tab16 w) : Calls Tryd.prog 10 #[] w fun e w' => e = .returned (.bool true) ∧ Kp No w w' := by
  have HP := Lib.hid (Print_any 1 2 (by decide) w ht)
  have hcut : (tokS 1 2).extract 0 18 = ⟨#[109, 48, 48, 48, 48, 48, 48, 48, 48, 48, 48, 48, 49, 48, 48, 48, 50, 45]⟩ := by decide +kernel
  have hs := tokS_size 1 2
  obtain ⟨T, hT⟩ : ∃ T, T = tokS 1 2 := ⟨_, rfl⟩
  rw [← hT] at hcut hs HP
  clear hT ht
  go_enter Tryd.func10, Tryd.ntmps10
  go_wp2_with fail
  refine (HP.out).mono ?_
  rintro e w1 ⟨rfl, hk1⟩
  go_wp2_with fail
  go_ret
  exact ⟨rfl, hk1⟩
theorem tokS_list (m c : Int) : (tokS m c).toList = tok m c := by rw [Go.ByteArray.toList_eq]; rfl
theorem pk_cmp {m c n d : Int} (h : isSt m c = true) (h' : isSt n d = true) : (cmpS m c n d = -1 ∧ pk m c < pk n d) ∨ (cmpS m c n d = 0 ∧ pk m c = pk n d) ∨ (cmpS m c n d = 1 ∧ pk n d < pk m c) := by
  obtain ⟨_, _, _, _⟩ := isSt_iff.1 h
  obtain ⟨_, _, _, _⟩ := isSt_iff.1 h'
  unfold cmpS pk
  rcases Int.lt_trichotomy m n with h1 | h1 | h1
  · exact .inl ⟨by rw [if_pos (.inl h1)], by omega⟩
  · rcases Int.lt_trichotomy c d with h2 | h2 | h2
    · exact .inl ⟨by rw [if_pos (.inr ⟨h1, h2⟩)], by omega⟩
    · exact .inr (.inl ⟨by rw [if_neg (by omega), if_pos ⟨h1, h2⟩], by omega⟩)
    · exact .inr (.inr ⟨by rw [if_neg (by omega), if_neg (by omega)], by omega⟩)
  · exact .inr (.inr ⟨by rw [if_neg (by omega), if_neg (by omega)], by omega⟩)
/-- How two texts stand, as the stamps do. -/
theorem texts_stand {m c n d : Int} (h : isSt m c = true) (h' : isSt n d = true) :
    (cmpS m c n d = -1 ∧ Op.bytesLess (tokS m c).toList (tokS n d).toList = true ∧ ((tokS m c).toList == (tokS n d).toList) = false) ∨
    (cmpS m c n d = 0 ∧ Op.bytesLess (tokS m c).toList (tokS n d).toList = false ∧ ((tokS m c).toList == (tokS n d).toList) = true) ∨
    (cmpS m c n d = 1 ∧ Op.bytesLess (tokS m c).toList (tokS n d).toList = false ∧ ((tokS m c).toList == (tokS n d).toList) = false) := by
  rw [tokS_list, tokS_list]
  have e : Op.bytesLess (tok m c) (tok n d) = decide (pk m c < pk n d) := tokN_less (pk_lt h) (pk_lt h')
  rw [e]
  have q : pk m c ≠ pk n d → (tok m c == tok n d) = false := fun hne => beq_false_of_ne fun he => hne (tokN_inj (pk_lt h) (pk_lt h') he)
  rcases pk_cmp h h' with ⟨h1, h2⟩ | ⟨h1, h2⟩ | ⟨h1, h2⟩
  · exact .inl ⟨h1, decide_eq_true h2, q (by omega)⟩
  · refine .inr (.inl ⟨h1, decide_eq_false (by omega), ?_⟩)
    unfold Mer.tok
    rw [h2]
    exact beq_self_eq_true _
  · exact .inr (.inr ⟨h1, decide_eq_false (by omega), q (by omega)⟩)
theorem box1 (w : World) (m c : Int) (t : TypeId) {w' : World} (hk : Kp No (w.alloc (.cells #[.int .i64 m, .int .i64 c] t)) w') : w'.cell? ⟨w.heap.size, 0, none⟩ = some (.int .i64 m) ∧ w'.cell? ⟨w.heap.size, 1, none⟩ = some (.int .i64 c) := by
  have hc := hk.get (heap_alloc_new w _) fun x => x
  exact ⟨by rw [cell_at hc]; rfl, by rw [cell_at hc]; rfl⟩
set_option maxRecDepth 100000 in
set_option maxHeartbeats 1000000 in
theorem Order_any (m c n d : Int) (w : World) (ht : Tab16 w) : Calls Tryd.prog 3 #[stv m c, stv n d] w fun e w' => e = .returned (.bool true) ∧ Kp No w w' := by
  have HT := Lib.hid ht
  clear ht
  obtain ⟨wb, hwb⟩ : ∃ W, W = (w.alloc (.cells #[.int .i64 m, .int .i64 c] 23)).alloc (.cells #[.int .i64 n, .int .i64 d] 23) := ⟨_, rfl⟩
  have hkb : Kp No w wb := by rw [hwb]; exact ((Kp.refl _ _).alloc _).alloc _
  have cells : ∀ W, Kp No wb W → (W.cell? ⟨w.heap.size, 0, none⟩ = some (.int .i64 m) ∧ W.cell? ⟨w.heap.size, 1, none⟩ = some (.int .i64 c)) ∧ W.cell? ⟨w.heap.size + 1, 0, none⟩ = some (.int .i64 n) ∧ W.cell? ⟨w.heap.size + 1, 1, none⟩ = some (.int .i64 d) := fun W hW => by
    rw [hwb] at hW
    refine ⟨box1 w m c 23 (((Kp.refl _ _).alloc _).trans_same hW), ?_⟩
    have := box1 (w.alloc (.cells #[.int .i64 m, .int .i64 c] 23)) n d 23 hW
    simpa using this
  have HC := Lib.hid cells
  have HB := Lib.hid hwb
  clear cells hwb
  cases hA : isSt m c
  · cases hB : isSt n d
    · skip
      have HA := Lib.hid hA
      have HB2 := Lib.hid hB
      clear hA hB
      go_enter Tryd.func3, Tryd.ntmps3
      go_wp2_with fail
      rw [← HB.out]
      refine (Print_no m c HA.out _).mono ?_
      rintro e w1 ⟨rfl, hk1⟩
      obtain ⟨⟨c0, c1⟩, c2, c3⟩ := HC.out w1 hk1
      go_wp2_with fail
      refine (Print_no n d HB2.out _).mono ?_
      rintro e w2 ⟨rfl, hk2⟩
      have hk2' := hk1.trans_same hk2
      clear c0 c1 c2 c3 hk1 hk2
      obtain ⟨⟨c0, c1⟩, c2, c3⟩ := HC.out w2 hk2'
      go_wp2_with fail
      refine (rIs_any _ _ _).mono ?_
      rintro e w3 ⟨rfl, hk3⟩
      rw [HA.out]
      have hk3' := hk2'.trans_same hk3
      clear c0 c1 c2 c3 hk2' hk3
      obtain ⟨⟨c0, c1⟩, c2, c3⟩ := HC.out w3 hk3'
      go_wp2_with fail
      refine (rIs_any _ _ _).mono ?_
      rintro e w4 ⟨rfl, hk4⟩
      rw [HB2.out]
      have hk4' := hk3'.trans_same hk4
      clear c0 c1 c2 c3 hk3' hk4
      go_wp2_with fail
      refine (known_any _ (HT.out.keep (hkb.trans_same hk4'))).mono ?_
      rintro e w5 ⟨rfl, hk5⟩
      go_wp2_with fail
      go_ret
      exact ⟨rfl, (hkb.trans_same hk4').trans_same hk5⟩
    · skip
      have HA := Lib.hid hA
      have HB2 := Lib.hid hB
      clear hA hB
      go_enter Tryd.func3, Tryd.ntmps3
      go_wp2_with fail
      rw [← HB.out]
      refine (Print_no m c HA.out _).mono ?_
      rintro e w1 ⟨rfl, hk1⟩
      obtain ⟨⟨c0, c1⟩, c2, c3⟩ := HC.out w1 hk1
      go_wp2_with fail
      refine (Print_any n d HB2.out _ (HT.out.keep (hkb.trans_same hk1))).mono ?_
      rintro e w2 ⟨rfl, hk2⟩
      have hk2' := hk1.trans_same hk2
      clear c0 c1 c2 c3 hk1 hk2
      obtain ⟨⟨c0, c1⟩, c2, c3⟩ := HC.out w2 hk2'
      go_wp2_with fail
      refine (rIs_any _ _ _).mono ?_
      rintro e w3 ⟨rfl, hk3⟩
      rw [HA.out]
      have hk3' := hk2'.trans_same hk3
      clear c0 c1 c2 c3 hk2' hk3
      obtain ⟨⟨c0, c1⟩, c2, c3⟩ := HC.out w3 hk3'
      go_wp2_with fail
      refine (rIs_any _ _ _).mono ?_
      rintro e w4 ⟨rfl, hk4⟩
      rw [HB2.out]
      have hk4' := hk3'.trans_same hk4
      clear c0 c1 c2 c3 hk3' hk4
      go_wp2_with fail
      refine (known_any _ (HT.out.keep (hkb.trans_same hk4'))).mono ?_
      rintro e w5 ⟨rfl, hk5⟩
      go_wp2_with fail
      go_ret
      exact ⟨rfl, (hkb.trans_same hk4').trans_same hk5⟩
  · cases hB : isSt n d
    · skip
      have HA := Lib.hid hA
      have HB2 := Lib.hid hB
      clear hA hB
      go_enter Tryd.func3, Tryd.ntmps3
      go_wp2_with fail
      rw [← HB.out]
      refine (Print_any m c HA.out _ (HT.out.keep hkb)).mono ?_
      rintro e w1 ⟨rfl, hk1⟩
      obtain ⟨⟨c0, c1⟩, c2, c3⟩ := HC.out w1 hk1
      go_wp2_with fail
      refine (Print_no n d HB2.out _).mono ?_
      rintro e w2 ⟨rfl, hk2⟩
      have hk2' := hk1.trans_same hk2
      clear c0 c1 c2 c3 hk1 hk2
      obtain ⟨⟨c0, c1⟩, c2, c3⟩ := HC.out w2 hk2'
      go_wp2_with fail
      refine (rIs_any _ _ _).mono ?_
      rintro e w3 ⟨rfl, hk3⟩
      rw [HA.out]
      have hk3' := hk2'.trans_same hk3
      clear c0 c1 c2 c3 hk2' hk3
      obtain ⟨⟨c0, c1⟩, c2, c3⟩ := HC.out w3 hk3'
      go_wp2_with fail
      refine (rIs_any _ _ _).mono ?_
      rintro e w4 ⟨rfl, hk4⟩
      rw [HB2.out]
      have hk4' := hk3'.trans_same hk4
      clear c0 c1 c2 c3 hk3' hk4
      go_wp2_with fail
      refine (known_any _ (HT.out.keep (hkb.trans_same hk4'))).mono ?_
      rintro e w5 ⟨rfl, hk5⟩
      go_wp2_with fail
      go_ret
      exact ⟨rfl, (hkb.trans_same hk4').trans_same hk5⟩
    · have hPa := fun W (hW : Kp No w W) => Print_any m c hA W (HT.out.keep hW)
      have hPb := fun W (hW : Kp No w W) => Print_any n d hB W (HT.out.keep hW)
      have hts := texts_stand hA hB
      obtain ⟨S, hS⟩ : ∃ S, S = tokS m c := ⟨_, rfl⟩
      obtain ⟨T, hT'⟩ : ∃ T, T = tokS n d := ⟨_, rfl⟩
      rw [← hS] at hPa
      rw [← hT'] at hPb
      have HPa := Lib.hid hPa
      have HPb := Lib.hid hPb
      clear hPa hPb hA hB
      rcases hts with ⟨h1, h2, h3⟩ | ⟨h1, h2, h3⟩ | ⟨h1, h2, h3⟩
      · skip
        have hl := h2
        have hq := h3
        rw [← hS, ← hT'] at hl hq
        have HV := Lib.hid h1
        clear h1 h2 h3 hS hT'
        go_enter Tryd.func3, Tryd.ntmps3
        go_wp2_with fail
        rw [← HB.out]
        refine (HPa.out _ hkb).mono ?_
        rintro e w1 ⟨rfl, hk1⟩
        obtain ⟨⟨c0, c1⟩, c2, c3⟩ := HC.out w1 hk1
        go_wp2_with fail
        refine (HPb.out _ (hkb.trans_same hk1)).mono ?_
        rintro e w2 ⟨rfl, hk2⟩
        have hk2' := hk1.trans_same hk2
        clear c0 c1 c2 c3 hk1 hk2
        obtain ⟨⟨c0, c1⟩, c2, c3⟩ := HC.out w2 hk2'
        go_wp2_with fail
        refine (rCmp_any _ _ _ _ _).mono ?_
        rintro e w3 ⟨rfl, hk3⟩
        rw [HV.out]
        have hk3' := hk2'.trans_same hk3
        clear c0 c1 c2 c3 hk2' hk3
        go_wp2_with fail
        refine (known_any _ (HT.out.keep (hkb.trans_same hk3'))).mono ?_
        rintro e w5 ⟨rfl, hk5⟩
        go_wp2_with fail
        go_ret
        exact ⟨rfl, (hkb.trans_same hk3').trans_same hk5⟩
      · skip
        have hl := h2
        have hq := h3
        rw [← hS, ← hT'] at hl hq
        have HV := Lib.hid h1
        clear h1 h2 h3 hS hT'
        go_enter Tryd.func3, Tryd.ntmps3
        go_wp2_with fail
        rw [← HB.out]
        refine (HPa.out _ hkb).mono ?_
        rintro e w1 ⟨rfl, hk1⟩
        obtain ⟨⟨c0, c1⟩, c2, c3⟩ := HC.out w1 hk1
        go_wp2_with fail
        refine (HPb.out _ (hkb.trans_same hk1)).mono ?_
        rintro e w2 ⟨rfl, hk2⟩
        have hk2' := hk1.trans_same hk2
        clear c0 c1 c2 c3 hk1 hk2
        obtain ⟨⟨c0, c1⟩, c2, c3⟩ := HC.out w2 hk2'
        go_wp2_with fail
        refine (rCmp_any _ _ _ _ _).mono ?_
        rintro e w3 ⟨rfl, hk3⟩
        rw [HV.out]
        have hk3' := hk2'.trans_same hk3
        clear c0 c1 c2 c3 hk2' hk3
        go_wp2_with fail
        refine (known_any _ (HT.out.keep (hkb.trans_same hk3'))).mono ?_
        rintro e w5 ⟨rfl, hk5⟩
        go_wp2_with fail
        go_ret
        exact ⟨rfl, (hkb.trans_same hk3').trans_same hk5⟩
      · skip
        have hl := h2
        have hq := h3
        rw [← hS, ← hT'] at hl hq
        have HV := Lib.hid h1
        clear h1 h2 h3 hS hT'
        go_enter Tryd.func3, Tryd.ntmps3
        go_wp2_with fail
        rw [← HB.out]
        refine (HPa.out _ hkb).mono ?_
        rintro e w1 ⟨rfl, hk1⟩
        obtain ⟨⟨c0, c1⟩, c2, c3⟩ := HC.out w1 hk1
        go_wp2_with fail
        refine (HPb.out _ (hkb.trans_same hk1)).mono ?_
        rintro e w2 ⟨rfl, hk2⟩
        have hk2' := hk1.trans_same hk2
        clear c0 c1 c2 c3 hk1 hk2
        obtain ⟨⟨c0, c1⟩, c2, c3⟩ := HC.out w2 hk2'
        go_wp2_with fail
        refine (rCmp_any _ _ _ _ _).mono ?_
        rintro e w3 ⟨rfl, hk3⟩
        rw [HV.out]
        have hk3' := hk2'.trans_same hk3
        clear c0 c1 c2 c3 hk2' hk3
        go_wp2_with fail
        refine (known_any _ (HT.out.keep (hkb.trans_same hk3'))).mono ?_
        rintro e w5 ⟨rfl, hk5⟩
        go_wp2_with fail
        go_ret
        exact ⟨rfl, (hkb.trans_same hk3').trans_same hk5⟩
end Go.Proofs.YtoblbjlabadcoaaDoor
