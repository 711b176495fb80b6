/-
  The laws TokenPrints and TokenParses, walked.
-/
import Derived.Test.YtoblbjlabadcoaaDoorRParse
import Derived.Test.YtoblbjlabadcoaaDoorTokLaw1
namespace Go.Proofs.YtoblbjlabadcoaaDoor
open Go.RowKit Go.Mer

theorem parse_tok {m c : Int} {w w' : World} {e : Ending} (h : isSt m c = true) (hp : ParseP (tokS m c) w e w') : e = .returned (.tuple #[tkv m c, .int .i64 0]) ∧ Kp No w w' := by
  obtain ⟨hp, hk⟩ := hp
  rcases hp with ⟨n, d, h', he, rfl⟩ | ⟨hno, _⟩
  · rw [tokS_data] at he
    obtain ⟨rfl, rfl⟩ := tok_inj h' h he
    exact ⟨rfl, hk⟩
  · exact absurd rfl (hno m c h)
theorem parse_shape {s : ByteArray} {w w' : World} {e : Ending} (hp : ParseP s w e w') : Kp No w w' ∧ ∃ m c r : Int, e = .returned (.tuple #[tkv m c, .int .i64 r]) := by
  obtain ⟨hp, hk⟩ := hp
  rcases hp with ⟨m, c, _, _, rfl⟩ | ⟨_, rfl⟩
  · exact ⟨hk, m, c, 0, rfl⟩
  · exact ⟨hk, 0, 0, 10, rfl⟩
theorem ret_inj {m c r m' c' r' : Int} (h : Ending.returned (.tuple #[tkv m c, .int .i64 r]) = .returned (.tuple #[tkv m' c', .int .i64 r'])) : m = m' ∧ c = c' ∧ r = r' := by
  simp at h
  exact ⟨h.1.1, h.1.2, h.2⟩
theorem parse_two {s : ByteArray} {w w' w2 w2' : World} {e e2 : Ending} (hp : ParseP s w e w') (hp2 : ParseP s w2 e2 w2') : ∃ m c r : Int, Kp No w w' ∧ Kp No w2 w2' ∧ e = .returned (.tuple #[tkv m c, .int .i64 r]) ∧ e2 = .returned (.tuple #[tkv m c, .int .i64 r]) := by
  obtain ⟨hp, hk⟩ := hp
  obtain ⟨hp2, hk2⟩ := hp2
  rcases hp with ⟨m, c, h, he, rfl⟩ | ⟨hno, rfl⟩
  · rcases hp2 with ⟨n, d, h', he', rfl⟩ | ⟨hno, _⟩
    · obtain ⟨rfl, rfl⟩ := tok_inj h h' (he.trans he'.symm)
      exact ⟨m, c, 0, hk, hk2, rfl, rfl⟩
    · exact absurd he (hno m c h)
  · rcases hp2 with ⟨n, d, h', he', rfl⟩ | ⟨_, rfl⟩
    · exact absurd he' (hno n d h')
    · exact ⟨0, 0, 10, hk, hk2, rfl, rfl⟩
set_option maxRecDepth 100000 in
set_option maxHeartbeats 1000000 in
theorem Prints_any (m c : Int) (w : World) (hL : LibV w) : Calls Tryd.prog 5 #[stv m c] w fun e w' => e = .returned (.bool true) ∧ Kp No w w' := by
  have HL := Lib.hid hL
  obtain ⟨wb, hwb⟩ : ∃ W, W = w.alloc (.cells #[.int .i64 m, .int .i64 c] 23) := ⟨_, rfl⟩
  have hkb : Kp No w wb := by rw [hwb]; exact (Kp.refl _ _).alloc _
  have HC := Lib.hid (fun W (hW : Kp No wb W) => box1 w m c 23 (hwb ▸ hW))
  have HB := Lib.hid hwb
  clear hwb hL
  cases hA : isSt m c
  · have HA := Lib.hid hA
    clear hA
    go_enter Tryd.func5, Tryd.ntmps5
    go_wp2_with fail
    rw [← HB.out]
    refine (Print_no m c HA.out _).mono ?_
    rintro e w1 ⟨rfl, hk1⟩
    obtain ⟨c0, c1⟩ := HC.out w1 hk1
    go_wp2_with fail
    refine (rPrint_no m c HA.out _).mono ?_
    rintro e w2 ⟨rfl, hk2⟩
    have hk2' := hkb.trans_same (hk1.trans_same hk2)
    clear c0 c1 hk1 hk2
    go_wp2_with fail
    refine (known_any _ (HL.out.tab.keep hk2')).mono ?_
    rintro e w3 ⟨rfl, hk3⟩
    go_wp2_with fail
    go_ret
    exact ⟨rfl, hk2'.trans_same hk3⟩
  · have hPa := fun W (hW : Kp No w W) => Print_any m c hA W (HL.out.tab.keep hW)
    have hPb := fun W => rPrint_any m c hA W
    have hPc := fun W (hW : Kp No w W) => Parse_any (tokS m c) W (HL.out.keep hW)
    have hPd := fun W e w' (h : ParseP (tokS m c) W e w') => parse_tok hA h
    obtain ⟨S, hS⟩ : ∃ S, S = tokS m c := ⟨_, rfl⟩
    rw [← hS] at hPa hPb hPc hPd
    have HPa := Lib.hid hPa
    have HPb := Lib.hid hPb
    have HPc := Lib.hid hPc
    have HPd := Lib.hid hPd
    clear hPa hPb hPc hPd hS hA
    go_enter Tryd.func5, Tryd.ntmps5
    go_wp2_with fail
    rw [← HB.out]
    refine (HPa.out _ hkb).mono ?_
    rintro e w1 ⟨rfl, hk1⟩
    obtain ⟨c0, c1⟩ := HC.out w1 hk1
    go_wp2_with fail
    refine (HPb.out _).mono ?_
    rintro e w2 ⟨rfl, hk2⟩
    have hk2' := hk1.trans_same hk2
    clear c0 c1 hk1 hk2
    go_wp2_with fail
    refine (HPc.out _ (hkb.trans_same hk2')).mono ?_
    intro e w3 hp
    obtain ⟨rfl, hk3⟩ := HPd.out _ _ _ hp
    have hk3' := hk2'.trans_same hk3
    clear hp hk2' hk3
    have hk4 : Kp No wb (w3.alloc (.cells #[.int .i64 m, .int .i64 c] 27)) := hk3'.alloc _
    obtain ⟨c0, c1⟩ := HC.out _ hk4
    go_wp2_with fail
    refine (known_any _ (HL.out.tab.keep (hkb.trans_same hk4))).mono ?_
    rintro e w5 ⟨rfl, hk5⟩
    go_wp2_with fail
    go_ret
    exact ⟨rfl, (hkb.trans_same hk4).trans_same hk5⟩
set_option maxRecDepth 100000 in
set_option maxHeartbeats 1000000 in
theorem Parses_any (s : ByteArray) (hs : s.size ≤ 9223372036854775807) (w : World) (hL : LibV w) : Calls Tryd.prog 6 #[.string s] w fun e w' => e = .returned (.bool true) ∧ Kp No w w' := by
  have HL := Lib.hid hL
  clear hL
  by_cases h : s.size ≤ 1000
  · have hP := Lib.hid (Parse_any s w HL.out)
    have hQ := Lib.hid (fun W => rParse_any s W)
    have h2 := Lib.hid (fun e w' w2 e2 w2' (a : ParseP s w e w') (b : ParseP s w2 e2 w2') => parse_two a b)
    go_enter Tryd.func6, Tryd.ntmps6
    go_wp2_with fail
    refine (hP.out).mono ?_
    intro e w1 hp
    obtain ⟨hk1, m, c, r, rfl⟩ := parse_shape hp
    have HP1 := Lib.hid hp
    clear hp
    go_wp2_with fail
    refine (hQ.out _).mono ?_
    intro e w2 hq
    obtain ⟨m', c', r', _, hk2, e1, rfl⟩ := h2.out _ _ _ _ _ HP1.out hq
    obtain ⟨rfl, rfl, rfl⟩ := ret_inj e1
    obtain ⟨c0, c1, _, _⟩ := box2 w1 m c 27 hk2
    clear hq e1
    have hk3 : Kp No w (w2.alloc (.cells #[.int .i64 m, .int .i64 c] 38)) := ((hk1.alloc _).trans_same hk2).alloc _
    have hlt := hk2.lt (World.block_lt_of_cell? _ ⟨w1.heap.size, 0, none⟩ (by rw [cell_at (heap_alloc_new w1 _)]; rfl))
    simp only at hlt
    go_wp2_with fail
    refine (known_any _ (HL.out.tab.keep hk3)).mono ?_
    rintro e w3 ⟨rfl, hk4⟩
    go_wp2_with fail
    go_ret
    exact ⟨rfl, hk3.trans_same hk4⟩
  · go_enter Tryd.func6, Tryd.ntmps6
    go_wp2_with fail
    go_ret
    exact ⟨rfl, Kp.refl _ _⟩
end Go.Proofs.YtoblbjlabadcoaaDoor
