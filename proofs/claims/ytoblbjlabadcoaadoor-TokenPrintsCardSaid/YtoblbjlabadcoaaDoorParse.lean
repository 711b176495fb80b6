/-
  strconv.ParseUint at base 16; token's Parse.
-/
import Derived.Test.YtoblbjlabadcoaaDoorPUint
import Derived.Test.YtoblbjlabadcoaaDoorShelf
namespace Go.Proofs.YtoblbjlabadcoaaDoor
open Go.RowKit Go.Mer

/-- What the walks ask of the library's variables. -/
structure LibV (w : World) : Prop where
  tab : Tab16 w
  err : ∃ ev, w.cell? ⟨0, 0, none⟩ = some ev ∧ (ev = .nilIface ∨ ∃ te pe, ev = .iface te pe)
theorem LibV.keep {w w' : World} (h : LibV w) (hk : Kp No w w') : LibV w' := by
  obtain ⟨ev, h1, h2⟩ := h.err
  exact ⟨h.tab.keep hk, ev, (hk.cell (World.block_lt_of_cell? w _ h1) fun x => x).trans h1, h2⟩
def PuE (l : List UInt8) (w : World) (e : Ending) (w' : World) : Prop :=
  ((∃ v, uhex l = some v ∧ e = .returned (.tuple #[.int .u64 (v : Int), .nilIface])) ∨ (uhex l = none ∧ ∃ N, e = .returned (.tuple #[.int .u64 0, .iface 82 (.pointer (some ⟨N, 0, none⟩))]))) ∧ Kp No w w'
theorem PU_any (s : ByteArray) (h1 : 1 ≤ s.size) (h16 : s.size ≤ 16) (w : World) (hL : LibV w) :
    Calls Tryd.prog 23 #[.string s, .int .i64 16, .int .i64 64] w (PuE s.data.toList w) := by
  have HL := Lib.hid hL
  have hs : s.size ≤ 281474976710656 := by omega
  clear hL
  go_enter Tryd.func23, Tryd.ntmps23
  go_wp2_with fail
  refine (PU0_any s h1 h16 _).mono ?_
  rintro e w1 ⟨⟨v, hv, rfl⟩ | ⟨hn, rfl⟩, hk1⟩
  · have HV := Lib.hid hv
    clear hv
    go_wp2_with fail
    go_ret2
    exact ⟨.inl ⟨v, HV.out, rfl⟩, hk1⟩
  · have HN := Lib.hid hn
    clear hn
    go_wp2_with fail
    obtain ⟨ev, he1, he2⟩ := (HL.out.keep hk1).err
    refine (Tryd.strconv_toError_syntax _ s _ _ ev _ hs he1 he2).mono ?_
    rintro e w2 ⟨N, rfl, hN, _, hb⟩
    have hk2 := hk1.trans_same (Kp.of_below hb fun k h1 h2 => absurd h1 (by omega))
    clear he1 he2 hb
    go_wp2_with fail
    go_ret2
    exact ⟨.inr ⟨HN.out, N, rfl⟩, hk2⟩
def NoTok (l : List UInt8) : Prop := ∀ m c, isSt m c = true → Mer.tok m c ≠ l
/-- What Parse hands back. -/
def ParseP (s : ByteArray) (w : World) (e : Ending) (w' : World) : Prop :=
  ((∃ m c, isSt m c = true ∧ Mer.tok m c = s.data.toList ∧ e = .returned (.tuple #[tkv m c, .int .i64 0])) ∨ (NoTok s.data.toList ∧ e = .returned (.tuple #[tkv 0 0, .int .i64 10]))) ∧ Kp No w w'
theorem tok_len (m c : Int) : (Mer.tok m c).length = 26 := tokN_len _
theorem noTok_len {s : ByteArray} (h : s.size ≠ 26) : NoTok s.data.toList := fun m c _ he => by
  have := tok_len m c
  rw [he, Array.length_toList] at this
  exact h this
theorem cut16 (s : ByteArray) : (s.extract 1 17).data.toList = (s.data.toList.drop 1).take 16 := by
  rw [ByteArray.data_extract, Array.toList_extract, List.extract_eq_take_drop]
theorem tokS_data (m c : Int) : (tokS m c).data.toList = Mer.tok m c := rfl
theorem neq_tok {m c : Int} {s : ByteArray} : (tokS m c = s) ↔ Mer.tok m c = s.data.toList :=
  ⟨fun h => by rw [← h, tokS_data], fun h => Go.WideShapes.bytes_inj (by rw [tokS_data]; exact h)⟩
theorem noTok_hex {s : ByteArray} (h : uhex ((s.data.toList.drop 1).take 16) = none) : NoTok s.data.toList := fun m c hv he => by
  have e : (s.data.toList.drop 1).take 16 = hexL 16 (pk m c) := by rw [← he]; exact tokN_hex _
  rw [e, uhex_hexL 16 (pk_lt hv)] at h
  cases h
theorem noTok_val {s : ByteArray} {m c : Int} (hv : isSt m c = true) (h : uhex ((s.data.toList.drop 1).take 16) = some (pk m c)) (hne : Mer.tok m c ≠ s.data.toList) : NoTok s.data.toList := fun n d hw he => by
  have e : (s.data.toList.drop 1).take 16 = hexL 16 (pk n d) := by rw [← he]; exact tokN_hex _
  rw [e, uhex_hexL 16 (pk_lt hw)] at h
  obtain ⟨rfl, rfl⟩ := pk_inj hw hv (Option.some.inj h)
  exact hne he
theorem unpack_st {v : Nat} (h : v < 16 ^ 16) : isSt ((v / 65536 : Nat) : Int) ((v % 65536 : Nat) : Int) = true ∧ pk ((v / 65536 : Nat) : Int) ((v % 65536 : Nat) : Int) = v := by
  refine ⟨isSt_iff.2 (by omega), ?_⟩
  unfold pk
  omega
theorem box2 (w : World) (m c : Int) (t : TypeId) {w' : World} (hk : Kp No (w.alloc (.cells #[.int .i64 m, .int .i64 c] t)) w') :
    w'.cell? ⟨w.heap.size, 0, none⟩ = some (.int .i64 m) ∧ w'.cell? ⟨w.heap.size, 1, none⟩ = some (.int .i64 c) ∧ w'.frozen? ⟨w.heap.size, 0, none⟩ = false ∧ w'.frozen? ⟨w.heap.size, 1, none⟩ = false := by
  have hc := hk.get (heap_alloc_new w _) fun x => x
  exact ⟨by rw [cell_at hc]; rfl, by rw [cell_at hc]; rfl, free_at hc 0, free_at hc 1⟩
theorem put2 {w4 : World} {g : Nat} {t : TypeId} {a b : Value} (h : w4.heap[g]? = some (.cells #[a, b] t (0, 0))) (x y : Value) :
    ((w4.setCell ⟨g, 0, none⟩ x).setCell ⟨g, 1, none⟩ y).cell? ⟨g, 0, none⟩ = some x ∧ ((w4.setCell ⟨g, 0, none⟩ x).setCell ⟨g, 1, none⟩ y).cell? ⟨g, 1, none⟩ = some y := by
  have h2 := set_at (set_at h 0 x) 1 y
  exact ⟨by rw [cell_at h2]; rfl, by rw [cell_at h2]; rfl⟩
set_option maxRecDepth 100000 in
set_option maxHeartbeats 1000000 in
theorem Parse_any (s : ByteArray) (w : World) (hL : LibV w) : Calls Tryd.prog 14 #[.string s] w (ParseP s w) := by
  by_cases h26 : s.size = 26
  · have HL := Lib.hid hL
    obtain ⟨T, hT⟩ : ∃ T, T = s.extract 1 17 := ⟨_, rfl⟩
    have hTs : T.size = 16 := by rw [hT, ByteArray.size_extract]; omega
    have hTd : T.data.toList = (s.data.toList.drop 1).take 16 := by rw [hT, cut16]
    obtain ⟨wa, hwa⟩ : ∃ W, W = w.alloc (.cells #[.int .i64 0, .int .i64 0] 27) := ⟨_, rfl⟩
    have hka : Kp No w wa := by rw [hwa]; exact (Kp.refl _ _).alloc _
    have hbox := fun W (h : Kp No wa W) => box2 w 0 0 27 (hwa ▸ h)
    have HBX := Lib.hid hbox
    have HW := Lib.hid hwa
    have HT := Lib.hid hT
    have HTD := Lib.hid hTd
    clear hL hT hTd hwa hbox
    go_enter Tryd.func14, Tryd.ntmps14
    go_wp2_with fail
    rw [← HW.out, ← HT.out]
    refine (PU_any T (by omega) (by omega) _ (HL.out.keep hka)).mono ?_
    rintro e w1 ⟨⟨v, hv, rfl⟩ | ⟨hn, N, rfl⟩, hk1⟩
    · rw [HTD.out] at hv
      have hvl := uhex_lt _ hv
      have hlen : ((s.data.toList.drop 1).take 16).length = 16 := by
        have : s.data.toList.length = 26 := by rw [Array.length_toList]; exact h26
        rw [List.length_take, List.length_drop, this]; rfl
      rw [hlen] at hvl
      have hv64 : v < 18446744073709551616 := hvl
      obtain ⟨hst, hpk⟩ := unpack_st hvl
      have HV := Lib.hid hv
      have HPK := Lib.hid hpk
      clear hv hpk hvl hlen
      go_wp2_with fail
      refine (Unpack_any v _ hv64).mono ?_
      rintro e w2 ⟨rfl, hk2⟩
      have hk2' := hk1.trans_same hk2
      clear hk1 hk2
      generalize ((v / 65536 : Nat) : Int) = m at *
      generalize ((v % 65536 : Nat) : Int) = c at *
      have HST := Lib.hid hst
      clear hst
      go_wp2_with fail
      have hk3' : Kp No wa (w2.alloc (.cells #[.int .i64 m, .int .i64 c] 27)) := hk2'.alloc _
      refine (Print_any m c HST.out _ (HL.out.tab.keep (hka.trans_same hk3'))).mono ?_
      rintro e w4 ⟨rfl, hk4⟩
      obtain ⟨c0, c1, _, _⟩ := box2 w2 m c 27 hk4
      have hk4' := hk3'.trans_same hk4
      obtain ⟨d0, d1, f0, f1⟩ := HBX.out w4 hk4'
      clear hk2' hk3' hk4
      obtain ⟨X, hX⟩ : ∃ X, X = tokS m c := ⟨_, rfl⟩
      rw [← hX]
      have hbc := (HW.out ▸ hk4').get (heap_alloc_new w _) fun x => x
      have HBC := Lib.hid hbc
      by_cases hE : X = s
      · have hq : (X.toList == s.toList) = true := by rw [hE]; exact beq_self_eq_true _
        have HE := Lib.hid (And.intro hX hE)
        clear hX hE hbc
        go_wp2_with fail
        obtain ⟨q0, q1⟩ := put2 HBC.out (.int .i64 m) (.int .i64 c)
        have hkf : Kp No w ((w4.setCell ⟨w.heap.size, 0, none⟩ (.int .i64 m)).setCell ⟨w.heap.size, 1, none⟩ (.int .i64 c)) := ((hka.trans_same hk4').setCell (.inr (Nat.le_refl _)) _).setCell (.inr (Nat.le_refl _)) _
        obtain ⟨Wf, hWf⟩ : ∃ W, W = (w4.setCell ⟨w.heap.size, 0, none⟩ (.int .i64 m)).setCell ⟨w.heap.size, 1, none⟩ (.int .i64 c) := ⟨_, rfl⟩
        rw [← hWf] at q0 q1 hkf ⊢
        exact bodyPost_ret (v := .tuple #[tkv m c, .int .i64 0]) (by simp [results, Tryd.results14, go_sem, q0, q1]) rfl ⟨.inl ⟨m, c, HST.out, neq_tok.1 (HE.out.1 ▸ HE.out.2), rfl⟩, hkf⟩
      · have hq : (X.toList == s.toList) = false := by
          refine beq_false_of_ne fun h => hE (Go.WideShapes.bytes_inj ?_)
          rwa [Go.ByteArray.toList_eq, Go.ByteArray.toList_eq] at h
        have hno : NoTok s.data.toList := noTok_val HST.out (by rw [HPK.out]; exact HV.out) fun h => hE (by rw [hX]; exact neq_tok.2 h)
        have HNo := Lib.hid hno
        clear hX hE hno hbc
        go_wp2_with fail
        obtain ⟨q0, q1⟩ := put2 HBC.out (.int .i64 0) (.int .i64 0)
        have hkf : Kp No w ((w4.setCell ⟨w.heap.size, 0, none⟩ (.int .i64 0)).setCell ⟨w.heap.size, 1, none⟩ (.int .i64 0)) := ((hka.trans_same hk4').setCell (.inr (Nat.le_refl _)) _).setCell (.inr (Nat.le_refl _)) _
        obtain ⟨Wf, hWf⟩ : ∃ W, W = (w4.setCell ⟨w.heap.size, 0, none⟩ (.int .i64 0)).setCell ⟨w.heap.size, 1, none⟩ (.int .i64 0) := ⟨_, rfl⟩
        rw [← hWf] at q0 q1 hkf ⊢
        exact bodyPost_ret (v := .tuple #[tkv 0 0, .int .i64 10]) (by simp [results, Tryd.results14, go_sem, q0, q1]) rfl ⟨.inr ⟨HNo.out, rfl⟩, hkf⟩
    · rw [HTD.out] at hn
      have HNo := Lib.hid (noTok_hex hn)
      clear hn
      go_wp2_with fail
      refine (Unpack_any 0 _ (by decide)).mono ?_
      rintro e w2 ⟨rfl, hk2⟩
      have hk2' := hk1.trans_same hk2
      clear hk1 hk2
      go_wp2_with fail
      have hk3' : Kp No wa (w2.alloc (.cells #[.int .i64 0, .int .i64 0] 27)) := hk2'.alloc _
      refine (Print_any 0 0 (by decide) _ (HL.out.tab.keep (hka.trans_same hk3'))).mono ?_
      rintro e w4 ⟨rfl, hk4⟩
      have hk4' := hk3'.trans_same hk4
      obtain ⟨d0, d1, f0, f1⟩ := HBX.out w4 hk4'
      clear hk2' hk3' hk4
      obtain ⟨X, hX⟩ : ∃ X, X = tokS 0 0 := ⟨_, rfl⟩
      rw [← hX]
      have hbc := (HW.out ▸ hk4').get (heap_alloc_new w _) fun x => x
      have HBC := Lib.hid hbc
      clear hX hbc
      go_wp2_with fail
      obtain ⟨q0, q1⟩ := put2 HBC.out (.int .i64 0) (.int .i64 0)
      have hkf : Kp No w ((w4.setCell ⟨w.heap.size, 0, none⟩ (.int .i64 0)).setCell ⟨w.heap.size, 1, none⟩ (.int .i64 0)) := ((hka.trans_same hk4').setCell (.inr (Nat.le_refl _)) _).setCell (.inr (Nat.le_refl _)) _
      obtain ⟨Wf, hWf⟩ : ∃ W, W = (w4.setCell ⟨w.heap.size, 0, none⟩ (.int .i64 0)).setCell ⟨w.heap.size, 1, none⟩ (.int .i64 0) := ⟨_, rfl⟩
      rw [← hWf] at q0 q1 hkf ⊢
      exact bodyPost_ret (v := .tuple #[tkv 0 0, .int .i64 10]) (by simp [results, Tryd.results14, go_sem, q0, q1]) rfl ⟨.inr ⟨HNo.out, rfl⟩, hkf⟩
  · have hn := Lib.hid (noTok_len h26)
    have b26 : ((s.size : Int) != 26) = true := by rw [bne_iff_ne]; omega
    go_enter Tryd.func14, Tryd.ntmps14
    go_wp2_with fail
    exact bodyPost_ret (v := .tuple #[tkv 0 0, .int .i64 10]) (by simp [results, Tryd.results14, go_sem]) rfl ⟨.inr ⟨hn, rfl⟩, (Kp.refl _ _).alloc _⟩
end Go.Proofs.YtoblbjlabadcoaaDoor
