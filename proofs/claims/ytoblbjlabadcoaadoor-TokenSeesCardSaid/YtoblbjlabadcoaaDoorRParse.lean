/-
  The reference's Parse of a token.
-/
import Derived.Test.YtoblbjlabadcoaaDoorParse
namespace Go.Proofs.YtoblbjlabadcoaaDoor
open Go.RowKit Go.Mer

theorem hexL_mem (m : Nat) : ∀ n, ∀ c ∈ hexL m n, (48 ≤ c.toNat ∧ c.toNat ≤ 57) ∨ (97 ≤ c.toNat ∧ c.toNat ≤ 102) := by
  induction m with
  | zero => intro n c h; cases h
  | succ m ih =>
    intro n c h
    rw [hexL] at h
    rcases List.mem_append.1 h with h | h
    · exact ih _ c h
    · rw [List.mem_singleton] at h
      subst h
      exact (hexd_facts (n % 16) (by omega)).2
theorem or32_low : ∀ n : Fin 256, 97 ≤ n.val → n.val ≤ 102 → (UInt8.ofNat n.val ||| 32) = UInt8.ofNat n.val := by decide +kernel
theorem or32_low' {c : UInt8} (h : 97 ≤ c.toNat) (h' : c.toNat ≤ 102) : c ||| 32 = c := by
  have := or32_low ⟨c.toNat, c.toNat_lt⟩ h h'
  simpa using this
theorem udig_low {c : UInt8} (h : 97 ≤ c.toNat) (h' : c.toNat ≤ 102) : udig c = some (c.toNat - 87) := by
  have e := or32_low' h h'
  have := udig_let (c := c) (by omega) (by rw [e]; exact h) (by rw [e]; exact h')
  rwa [e] at this
theorem noTok_sign {s : ByteArray} {k : Nat} (hk : k < ((s.data.toList.drop 1).take 16).length) (h : ¬ (48 ≤ ((s.data.toList.drop 1).take 16)[k].toNat ∧ ((s.data.toList.drop 1).take 16)[k].toNat ≤ 57)) (h' : ¬ (97 ≤ ((s.data.toList.drop 1).take 16)[k].toNat ∧ ((s.data.toList.drop 1).take 16)[k].toNat ≤ 102)) : NoTok s.data.toList := fun m c _ he => by
  have e : (s.data.toList.drop 1).take 16 = hexL 16 (pk m c) := by rw [← he]; exact tokN_hex _
  have hm : ((s.data.toList.drop 1).take 16)[k] ∈ hexL 16 (pk m c) := e ▸ List.getElem_mem hk
  rcases hexL_mem 16 _ _ hm with hm | hm
  · exact h hm
  · exact h' hm
theorem or_low4 {V d : Nat} (hV : V < 1152921504606846976) (hd : d < 16) : bits .or .u64 ((V : Int) * 16) (d : Int) = ((V * 16 + d : Nat) : Int) := by
  have e : ((V : Int) * 16) = ((2 ^ 4 * V : Nat) : Int) := by omega
  rw [e, bits_or rfl (by show 2 ^ 4 * V < 2 ^ 64; omega) (by show d < 2 ^ 64; omega), ← Nat.two_pow_add_eq_or_of_lt (by omega : d < 2 ^ 4)]
  omega
set_option maxRecDepth 100000 in
set_option maxHeartbeats 1000000 in
theorem rParse_any (s : ByteArray) (w : World) : Calls Tryd.prog 15 #[.string s] w (ParseP s w) := by
  by_cases h26 : s.size = 26
  · obtain ⟨D, hD⟩ : ∃ D, D = (s.data.toList.drop 1).take 16 := ⟨_, rfl⟩
    have hDl : D.length = 16 := by
      have : s.data.toList.length = 26 := by rw [Array.length_toList]; exact h26
      rw [hD, List.length_take, List.length_drop, this]; rfl
    have hix : ∀ k (hk : k < D.length), ∀ W, (Instr.index 9 (.string s) (.int .i64 ((k : Int) + 1))).run Tryd.prog W = .ok (.int .u8 (D[k].toNat : Int)) W := fun k hk W => by
      have hs : k + 1 < s.size := by omega
      have e : D[k] = s[k + 1] := by subst hD; simp; rw [ByteArray.getElem_eq_getElem_data]
      have e2 : ((k : Int) + 1).toNat = k + 1 := by omega
      rw [run_index_string W 9 s .i64 ((k : Int) + 1) Tryd.underlying9, dif_pos ⟨by omega, by omega⟩, e]
      simp only [e2]
    obtain ⟨wa, hwa⟩ : ∃ W, W = w.alloc (.cells #[.int .i64 0, .int .i64 0] 38) := ⟨_, rfl⟩
    have hka : Kp No w wa := by rw [hwa]; exact (Kp.refl _ _).alloc _
    have hbox := fun W (h : Kp No wa W) => box2 w 0 0 38 (hwa ▸ h)
    have HBX := Lib.hid hbox
    have HW := Lib.hid hwa
    have HD := Lib.hid hD
    have HIX := Lib.hid hix
    clear hD hwa hbox hix
    go_enter Tryd.func15, Tryd.ntmps15
    go_wp2_with fail
    rw [← HW.out]
    go_loop [4, 5] (fun x i => ∃ k v : Nat, k ≤ 16 ∧ i = .int .i64 ((k : Int) + 1) ∧ x = .int .u64 (v : Int) ∧ v < 16 ^ k ∧ Hid (uhex (D.take k) = some v)) (fun _ i => 17 - (intOf i).toNat)
    case atStart => exact ⟨0, 0, by omega, rfl, rfl, by decide, rfl⟩
    case round =>
      obtain ⟨k, v, hk, rfl, rfl, hv, HU⟩ := hrel
      by_cases hlt : k < 16
      · have hv60 : v < 1152921504606846976 := Nat.lt_of_lt_of_le hv (Nat.pow_le_pow_right (n := 16) (j := 15) (by decide) (by omega))
        have hkD : k < D.length := by omega
        have hidx := HIX.out k hkD
        obtain ⟨c, hc⟩ : ∃ c, c = D[k] := ⟨_, rfl⟩
        rw [← hc] at hidx
        have hst : ∀ d, udig c = some d → uhex (D.take (k + 1)) = some (v * 16 + d) := fun d hd => uhex_step hkD HU.out (by rw [← hc]; exact hd)
        have hn1 := fun (h : 48 ≤ c.toNat) (h' : c.toNat ≤ 57) => hst _ (udig_num h h')
        have hn2 := fun (h : 97 ≤ c.toNat) (h' : c.toNat ≤ 102) => hst _ (udig_low h h')
        have hn3 : ¬ (48 ≤ c.toNat ∧ c.toNat ≤ 57) → ¬ (97 ≤ c.toNat ∧ c.toNat ≤ 102) → NoTok s.data.toList := fun h h' => by
          have hD := HD.out
          subst hD
          exact noTok_sign hkD (by rw [← hc]; exact h) (by rw [← hc]; exact h')
        have hb := c.toNat_lt
        generalize c.toNat = b at hidx hn1 hn2 hn3 hb
        have HN1 := Lib.hid hn1
        have HN2 := Lib.hid hn2
        have HN3 := Lib.hid hn3
        have HVB := Lib.hid hv
        have hor : ∀ d : Nat, d < 16 → bits .or .u64 ((v : Int) * 16) (d : Int) = ((v * 16 + d : Nat) : Int) := fun d hd => or_low4 hv60 hd
        have HOR := Lib.hid hor
        obtain ⟨V, hV⟩ : ∃ V : Int, V = (v : Int) := ⟨_, rfl⟩
        have hV60 : V < 1152921504606846976 := by omega
        have hV0 : 0 ≤ V := by omega
        have HV := Lib.hid hV
        rw [← hV]
        clear hc hst hn1 hn2 hn3 hv hor hv60 hV
        by_cases hA : 48 ≤ b ∧ b ≤ 57
        · obtain ⟨a1, a2⟩ := hA
          have ho : bits .or .u64 (V * 16) ((b : Int) - 48) = ((v * 16 + (b - 48) : Nat) : Int) := by
            rw [show V = _ from HV.out, show ((b : Int) - 48) = ((b - 48 : Nat) : Int) from by omega]
            exact HOR.out _ (by omega)
          have HO := Lib.hid ho
          clear ho
          go_wp2_with fail
          go_round
          case rel => exact ⟨k + 1, v * 16 + (b - 48), by omega, by go_num, by rw [HO.out], by have hv := HVB.out; rw [Nat.pow_succ]; omega, HN1.out a1 a2⟩
          case measure => simp [intOf]; omega
        · by_cases hB : 97 ≤ b ∧ b ≤ 102
          · obtain ⟨b1, b2⟩ := hB
            have ho : bits .or .u64 (V * 16) ((b : Int) - 97 + 10) = ((v * 16 + (b - 87) : Nat) : Int) := by
              rw [show V = _ from HV.out, show ((b : Int) - 97 + 10) = ((b - 87 : Nat) : Int) from by omega]
              exact HOR.out _ (by omega)
            have HO := Lib.hid ho
            have ha1 : 48 ≤ b := by omega
            have ha2 : 57 < b := by omega
            clear ho hA
            go_wp2_with fail
            go_round
            case rel => exact ⟨k + 1, v * 16 + (b - 87), by omega, by go_num, by rw [HO.out], by have hv := HVB.out; rw [Nat.pow_succ]; omega, HN2.out b1 b2⟩
            case measure => simp [intOf]; omega
          · have hn := Lib.hid (HN3.out hA hB)
            obtain ⟨d0, d1, f0, f1⟩ := HBX.out wa (Kp.refl _ _)
            have hbc := (HW.out ▸ Kp.refl No wa : Kp No (w.alloc (.cells #[.int .i64 0, .int .i64 0] 38)) wa).get (heap_alloc_new w _) fun x => x
            have HBC := Lib.hid hbc
            clear hbc
            have e1 : b < 48 ∨ (57 < b ∧ b < 97) ∨ 102 < b := by omega
            clear hA hB
            rcases e1 with e1 | ⟨e1, e2⟩ | e1
            · skip
              go_wp2_with fail
              obtain ⟨q0, q1⟩ := put2 HBC.out (.int .i64 0) (.int .i64 0)
              have hkf : Kp No w ((wa.setCell ⟨w.heap.size, 0, none⟩ (.int .i64 0)).setCell ⟨w.heap.size, 1, none⟩ (.int .i64 0)) := (hka.setCell (.inr (Nat.le_refl _)) _).setCell (.inr (Nat.le_refl _)) _
              obtain ⟨Wf, hWf⟩ : ∃ W, W = (wa.setCell ⟨w.heap.size, 0, none⟩ (.int .i64 0)).setCell ⟨w.heap.size, 1, none⟩ (.int .i64 0) := ⟨_, rfl⟩
              rw [← hWf] at q0 q1 hkf ⊢
              exact bodyPost_ret (v := .tuple #[tkv 0 0, .int .i64 10]) (by simp [results, Tryd.results15, go_sem, q0, q1]) rfl ⟨.inr ⟨hn.out, rfl⟩, hkf⟩
            · have e3 : 48 ≤ b := by omega
              go_wp2_with fail
              obtain ⟨q0, q1⟩ := put2 HBC.out (.int .i64 0) (.int .i64 0)
              have hkf : Kp No w ((wa.setCell ⟨w.heap.size, 0, none⟩ (.int .i64 0)).setCell ⟨w.heap.size, 1, none⟩ (.int .i64 0)) := (hka.setCell (.inr (Nat.le_refl _)) _).setCell (.inr (Nat.le_refl _)) _
              obtain ⟨Wf, hWf⟩ : ∃ W, W = (wa.setCell ⟨w.heap.size, 0, none⟩ (.int .i64 0)).setCell ⟨w.heap.size, 1, none⟩ (.int .i64 0) := ⟨_, rfl⟩
              rw [← hWf] at q0 q1 hkf ⊢
              exact bodyPost_ret (v := .tuple #[tkv 0 0, .int .i64 10]) (by simp [results, Tryd.results15, go_sem, q0, q1]) rfl ⟨.inr ⟨hn.out, rfl⟩, hkf⟩
            · have e3 : 57 < b := by omega
              have e4 : 97 ≤ b := by omega
              have e5 : 48 ≤ b := by omega
              go_wp2_with fail
              obtain ⟨q0, q1⟩ := put2 HBC.out (.int .i64 0) (.int .i64 0)
              have hkf : Kp No w ((wa.setCell ⟨w.heap.size, 0, none⟩ (.int .i64 0)).setCell ⟨w.heap.size, 1, none⟩ (.int .i64 0)) := (hka.setCell (.inr (Nat.le_refl _)) _).setCell (.inr (Nat.le_refl _)) _
              obtain ⟨Wf, hWf⟩ : ∃ W, W = (wa.setCell ⟨w.heap.size, 0, none⟩ (.int .i64 0)).setCell ⟨w.heap.size, 1, none⟩ (.int .i64 0) := ⟨_, rfl⟩
              rw [← hWf] at q0 q1 hkf ⊢
              exact bodyPost_ret (v := .tuple #[tkv 0 0, .int .i64 10]) (by simp [results, Tryd.results15, go_sem, q0, q1]) rfl ⟨.inr ⟨hn.out, rfl⟩, hkf⟩
      · obtain rfl : k = 16 := by omega
        have hU : uhex D = some v := by
          have h := HU.out
          rwa [List.take_of_length_le (by omega)] at h
        rw [HD.out] at hU
        have hv64 : v < 18446744073709551616 := hv
        obtain ⟨hst, hpk⟩ := unpack_st hv
        have HV := Lib.hid hU
        have HPK := Lib.hid hpk
        clear hU hpk hv
        go_wp2_with fail
        refine (rUnpack_any v _ hv64).mono ?_
        rintro e w2 ⟨rfl, hk2⟩
        generalize ((v / 65536 : Nat) : Int) = m at *
        generalize ((v % 65536 : Nat) : Int) = c at *
        have HST := Lib.hid hst
        clear hst
        go_wp2_with fail
        have hk3' : Kp No wa (w2.alloc (.cells #[.int .i64 m, .int .i64 c] 38)) := hk2.alloc _
        refine (rPrint_any m c HST.out _).mono ?_
        rintro e w4 ⟨rfl, hk4⟩
        obtain ⟨c0, c1, _, _⟩ := box2 w2 m c 38 hk4
        have hk4' := hk3'.trans_same hk4
        obtain ⟨d0, d1, f0, f1⟩ := HBX.out w4 hk4'
        clear hk2 hk3' hk4
        obtain ⟨X, hX⟩ : ∃ X, X = tokS m c := ⟨_, rfl⟩
        rw [← hX]
        have hbc := (HW.out ▸ hk4').get (heap_alloc_new w _) fun x => x
        have HBC := Lib.hid hbc
        by_cases hE : X = s
        · have hq : (X.toList == s.toList) = true := by rw [hE]; exact beq_self_eq_true _
          have HE := Lib.hid (And.intro hX hE)
          clear hX hE hbc
          go_wp2_with fail
          obtain ⟨q0, q1⟩ := put2 HBC.out (.int .i64 m) (.int .i64 c)
          have hkf : Kp No w ((w4.setCell ⟨w.heap.size, 0, none⟩ (.int .i64 m)).setCell ⟨w.heap.size, 1, none⟩ (.int .i64 c)) := ((hka.trans_same hk4').setCell (.inr (Nat.le_refl _)) _).setCell (.inr (Nat.le_refl _)) _
          obtain ⟨Wf, hWf⟩ : ∃ W, W = (w4.setCell ⟨w.heap.size, 0, none⟩ (.int .i64 m)).setCell ⟨w.heap.size, 1, none⟩ (.int .i64 c) := ⟨_, rfl⟩
          rw [← hWf] at q0 q1 hkf ⊢
          exact bodyPost_ret (v := .tuple #[tkv m c, .int .i64 0]) (by simp [results, Tryd.results15, go_sem, q0, q1]) rfl ⟨.inl ⟨m, c, HST.out, neq_tok.1 (HE.out.1 ▸ HE.out.2), rfl⟩, hkf⟩
        · have hq : (X.toList == s.toList) = false := by
            refine beq_false_of_ne fun h => hE (Go.WideShapes.bytes_inj ?_)
            rwa [Go.ByteArray.toList_eq, Go.ByteArray.toList_eq] at h
          have hno : NoTok s.data.toList := noTok_val HST.out (by rw [HPK.out]; exact HV.out) fun h => hE (by rw [hX]; exact neq_tok.2 h)
          have HNo := Lib.hid hno
          clear hX hE hno hbc
          go_wp2_with fail
          obtain ⟨q0, q1⟩ := put2 HBC.out (.int .i64 0) (.int .i64 0)
          have hkf : Kp No w ((w4.setCell ⟨w.heap.size, 0, none⟩ (.int .i64 0)).setCell ⟨w.heap.size, 1, none⟩ (.int .i64 0)) := ((hka.trans_same hk4').setCell (.inr (Nat.le_refl _)) _).setCell (.inr (Nat.le_refl _)) _
          obtain ⟨Wf, hWf⟩ : ∃ W, W = (w4.setCell ⟨w.heap.size, 0, none⟩ (.int .i64 0)).setCell ⟨w.heap.size, 1, none⟩ (.int .i64 0) := ⟨_, rfl⟩
          rw [← hWf] at q0 q1 hkf ⊢
          exact bodyPost_ret (v := .tuple #[tkv 0 0, .int .i64 10]) (by simp [results, Tryd.results15, go_sem, q0, q1]) rfl ⟨.inr ⟨HNo.out, rfl⟩, hkf⟩
  · have hn := Lib.hid (noTok_len h26)
    have b26 : ((s.size : Int) != 26) = true := by rw [bne_iff_ne]; omega
    go_enter Tryd.func15, Tryd.ntmps15
    go_wp2_with fail
    exact bodyPost_ret (v := .tuple #[tkv 0 0, .int .i64 10]) (by simp [results, Tryd.results15, go_sem]) rfl ⟨.inr ⟨hn, rfl⟩, (Kp.refl _ _).alloc _⟩
end Go.Proofs.YtoblbjlabadcoaaDoor
