/-
  internal/strconv.ParseUint at base 16, of at most sixteen signs.
-/
import Derived.Test.YtoblbjlabadcoaaDoorRPrint
import Derived.Deep.Cut
namespace Go.Proofs.YtoblbjlabadcoaaDoor
open Go.RowKit Go.Mer

theorem or32 (c : UInt8) : (c ||| 32).toNat = c.toNat ||| 32 := by simp
theorem lower_any (c : UInt8) (w : World) : Calls Tryd.prog 42 #[.int .u8 (c.toNat : Int)] w fun e w' => e = .returned (.int .u8 ((c ||| 32).toNat : Int)) ∧ w = w' := by
  have hb : bits .or .u8 (c.toNat : Int) 32 = (((c ||| 32).toNat : Nat) : Int) := by
    rw [or32]
    exact bits_or (k := .u8) rfl (b := 32) (by have := c.toNat_lt; show _ < 2 ^ 8; omega) (by decide)
  go_enter Tryd.func42, Tryd.ntmps42
  go_wp2_with fail
  go_ret
  exact ⟨rfl, rfl⟩
theorem udig_num {c : UInt8} (h : 48 ≤ c.toNat) (h' : c.toNat ≤ 57) : udig c = some (c.toNat - 48) := by unfold udig; rw [if_pos ⟨h, h'⟩]
theorem udig_let {c : UInt8} (h : ¬ (48 ≤ c.toNat ∧ c.toNat ≤ 57)) (h1 : 97 ≤ (c ||| 32).toNat) (h2 : (c ||| 32).toNat ≤ 102) : udig c = some ((c ||| 32).toNat - 87) := by unfold udig; rw [if_neg h, if_pos ⟨h1, h2⟩]
theorem udig_not {c : UInt8} (h : ¬ (48 ≤ c.toNat ∧ c.toNat ≤ 57)) (h1 : ¬ (97 ≤ (c ||| 32).toNat ∧ (c ||| 32).toNat ≤ 102)) : udig c = none := by unfold udig; rw [if_neg h, if_neg h1]
theorem uhex_step {l : List UInt8} {k v d : Nat} (hk : k < l.length) (h : uhex (l.take k) = some v) (hd : udig l[k] = some d) : uhex (l.take (k + 1)) = some (v * 16 + d) := by
  rw [List.take_succ_eq_append_getElem hk, uhex_snoc, h]
  simp [ustep, hd]
theorem uhex_stop {l : List UInt8} {k v : Nat} (hk : k < l.length) (h : uhex (l.take k) = some v) (hd : udig l[k] = none) : uhex l = none := by
  have h1 : uhex (l.take (k + 1)) = none := by
    rw [List.take_succ_eq_append_getElem hk, uhex_snoc, h]
    simp [ustep, hd]
  rw [← List.take_append_drop (k + 1) l]
  exact uhex_none_append _ _ h1
theorem three' (a b c : Nat) : c < a ∨ (a ≤ c ∧ c ≤ b) ∨ (a ≤ c ∧ b < c) := by omega
/-- What it hands back. -/
def PuR (l : List UInt8) (w : World) (e : Ending) (w' : World) : Prop :=
  ((∃ v, uhex l = some v ∧ e = .returned (.tuple #[.int .u64 (v : Int), .nilIface])) ∨ (uhex l = none ∧ e = .returned (.tuple #[.int .u64 0, .iface 80 (.int .i64 2)]))) ∧ Kp No w w'
set_option maxRecDepth 100000 in
set_option maxHeartbeats 1000000 in
theorem PU0_any (s : ByteArray) (h1 : 1 ≤ s.size) (h16 : s.size ≤ 16) (w : World) :
    Calls Tryd.prog 30 #[.string s, .int .i64 16, .int .i64 64] w (PuR s.data.toList w) := by
  obtain ⟨c0, w1, hrun, hk1, hr1, hs1⟩ := conv_bytes w s
  have he : s.toList.isEmpty = false := by
    rw [Go.ByteArray.toList_eq]
    cases h : s.data.toList with
    | nil =>
      have h0 : s.data.toList.length = 0 := by rw [h]; rfl
      rw [Array.length_toList] at h0
      have : s.size = 0 := h0
      omega
    | cons _ _ => rfl
  obtain ⟨D, hD⟩ : ∃ D, D = s.data.toList := ⟨_, rfl⟩
  have hDl : D.length = s.size := by rw [hD, Array.length_toList]; rfl
  rw [← hD] at hr1 ⊢
  have HD := Lib.hid hD
  have HR := Lib.hid hr1
  have HDL := Lib.hid hDl
  have hd16 : D.length ≤ 16 := by omega
  clear hD hr1 hDl
  have hw1 : IntKind.u64.wrap 18446744073709551616 = 0 := by decide +kernel
  have hw2 : IntKind.u64.wrap (-1) = 18446744073709551615 := by decide +kernel
  go_enter Tryd.func30, Tryd.ntmps30
  go_wp2_with fail
  clear hw1 hw2
  obtain ⟨C, hC⟩ : ∃ C : Int, C = 1152921504606846976 := ⟨_, rfl⟩
  obtain ⟨M, hM⟩ : ∃ M : Int, M = 18446744073709551615 := ⟨_, rfl⟩
  rw [← hC, ← hM]
  have HCM := Lib.hid (And.intro hC hM)
  clear hC hM
  clear hrun he
  go_loop [12, 13, 101] (fun un n i => ∃ k v : Nat, k ≤ D.length ∧ i = .int .i64 (k : Int) ∧ un = .bool false ∧ n = .int .u64 (v : Int) ∧ v < 16 ^ k ∧ Hid (uhex (D.take k) = some v)) (fun _ _ i => D.length - (intOf i).toNat)
  case atStart => exact ⟨0, 0, Nat.zero_le _, rfl, rfl, rfl, by decide, rfl⟩
  case round =>
    obtain ⟨k, v, hk, rfl, rfl, rfl, hv, HU⟩ := hrel
    have hszl : D.length = s.size := HDL.out
    by_cases hlt : k < D.length
    · have hv60 : v < 1152921504606846976 := Nat.lt_of_lt_of_le hv (Nat.pow_le_pow_right (n := 16) (j := 15) (by decide) (by omega))
      obtain ⟨g, off, e1, hg, _, hcell⟩ := HR.out.byte hlt
      injection e1 with e1
      injection e1 with e1 e2
      subst e1; subst e2
      rw [Nat.zero_add] at hcell
      have hks : k < s.size := by omega
      obtain ⟨c, hc⟩ : ∃ c, c = D[k] := ⟨_, rfl⟩
      rw [← hc] at hcell
      obtain ⟨V, hV⟩ : ∃ V : Int, V = (v : Int) := ⟨_, rfl⟩
      have hVC : decide (C ≤ V) = false := by rw [HCM.out.1]; simp only [decide_eq_false_iff_not]; omega
      have hV60 : V < 1152921504606846976 := by omega
      have hV0 : 0 ≤ V := by omega
      rw [← hV]
      have HV := Lib.hid hV
      clear hV hv60
      have HVB := Lib.hid hv
      have hlow := fun W => lower_any c W
      have hst : ∀ d, udig c = some d → uhex (D.take (k + 1)) = some (v * 16 + d) := fun d hd => uhex_step hlt HU.out (by rw [← hc]; exact hd)
      have hno : udig c = none → uhex D = none := fun hd => uhex_stop hlt HU.out (by rw [← hc]; exact hd)
      have hn1 := fun (h : 48 ≤ c.toNat) (h' : c.toNat ≤ 57) => hst _ (udig_num h h')
      have hn2 := fun (h : ¬ (48 ≤ c.toNat ∧ c.toNat ≤ 57)) (h1 : 97 ≤ (c ||| 32).toNat) (h2 : (c ||| 32).toNat ≤ 102) => hst _ (udig_let h h1 h2)
      have hn3 := fun (h : ¬ (48 ≤ c.toNat ∧ c.toNat ≤ 57)) (h1 : ¬ (97 ≤ (c ||| 32).toNat ∧ (c ||| 32).toNat ≤ 102)) => hno (udig_not h h1)
      have h95 : c.toNat = 95 → (c ||| 32).toNat = 127 := fun h => by
        have : c = 95 := UInt8.toNat_inj.1 (by rw [h]; rfl)
        rw [this]; rfl
      have hb := c.toNat_lt
      have hm := (c ||| 32).toNat_lt
      generalize (c ||| 32).toNat = m at hlow hn1 hn2 hn3 h95 hm
      generalize c.toNat = b at hlow hn1 hn2 hn3 h95 hb hcell
      have HLow := Lib.hid hlow
      have HN1 := Lib.hid hn1
      have HN2 := Lib.hid hn2
      have HN3 := Lib.hid hn3
      have H95 := Lib.hid h95
      clear hc hst hno hv hszl hlow hn1 hn2 hn3 h95
      by_cases hA : 48 ≤ b ∧ b ≤ 57
      · obtain ⟨a1, a2⟩ := hA
        have h95 : ((b : Int) == 95) = false := by simp; omega
        have hM1 : decide (M < V * 16 + ((b : Int) - 48)) = false := by rw [HCM.out.2]; simp only [decide_eq_false_iff_not]; omega
        go_wp2_with fail
        go_round
        case rel => exact ⟨k + 1, v * 16 + (b - 48), by omega, by go_num, rfl, by rw [show V = _ from HV.out]; congr 1; omega, by have hv := HVB.out; rw [Nat.pow_succ]; omega, HN1.out a1 a2⟩
        case measure => simp [intOf]; omega
      · have ha1 : b < 48 ∨ 57 < b := by omega
        have HA := Lib.hid hA
        clear hA
        by_cases hB : 97 ≤ m ∧ m ≤ 122
        · obtain ⟨b1, b2⟩ := hB
          have h95 : ((b : Int) == 95) = false := by
            have := H95.out
            simp
            omega
          by_cases hB2 : m ≤ 102
          · have hM1 : decide (M < V * 16 + ((m : Int) - 97 + 10)) = false := by rw [HCM.out.2]; simp only [decide_eq_false_iff_not]; omega
            rcases ha1 with ha1 | ha1
            · skip
              go_wp2_with fail
              refine (HLow.out _).mono ?_
              rintro e w' ⟨rfl, rfl⟩
              go_wp2_with fail
              refine (HLow.out _).mono ?_
              rintro e w' ⟨rfl, rfl⟩
              go_wp2_with fail
              refine (HLow.out _).mono ?_
              rintro e w' ⟨rfl, rfl⟩
              go_wp2_with fail
              go_round
              case rel => exact ⟨k + 1, v * 16 + (m - 87), by omega, by go_num, rfl, by rw [show V = _ from HV.out]; congr 1; omega, by have hv := HVB.out; rw [Nat.pow_succ]; omega, HN2.out HA.out b1 hB2⟩
              case measure => simp [intOf]; omega
            · have ha2 : 48 ≤ b := by omega
              go_wp2_with fail
              refine (HLow.out _).mono ?_
              rintro e w' ⟨rfl, rfl⟩
              go_wp2_with fail
              refine (HLow.out _).mono ?_
              rintro e w' ⟨rfl, rfl⟩
              go_wp2_with fail
              refine (HLow.out _).mono ?_
              rintro e w' ⟨rfl, rfl⟩
              go_wp2_with fail
              go_round
              case rel => exact ⟨k + 1, v * 16 + (m - 87), by omega, by go_num, rfl, by rw [show V = _ from HV.out]; congr 1; omega, by have hv := HVB.out; rw [Nat.pow_succ]; omega, HN2.out HA.out b1 hB2⟩
              case measure => simp [intOf]; omega
          · rcases ha1 with ha1 | ha1
            · skip
              go_wp2_with fail
              refine (HLow.out _).mono ?_
              rintro e w' ⟨rfl, rfl⟩
              go_wp2_with fail
              refine (HLow.out _).mono ?_
              rintro e w' ⟨rfl, rfl⟩
              go_wp2_with fail
              refine (HLow.out _).mono ?_
              rintro e w' ⟨rfl, rfl⟩
              go_wp2_with fail
              go_ret2
              exact ⟨.inr ⟨HN3.out HA.out (by omega), rfl⟩, hk1⟩
            · have ha2 : 48 ≤ b := by omega
              go_wp2_with fail
              refine (HLow.out _).mono ?_
              rintro e w' ⟨rfl, rfl⟩
              go_wp2_with fail
              refine (HLow.out _).mono ?_
              rintro e w' ⟨rfl, rfl⟩
              go_wp2_with fail
              refine (HLow.out _).mono ?_
              rintro e w' ⟨rfl, rfl⟩
              go_wp2_with fail
              go_ret2
              exact ⟨.inr ⟨HN3.out HA.out (by omega), rfl⟩, hk1⟩
        · have hBn := HN3.out HA.out (by omega)
          have HBN := Lib.hid hBn
          clear hBn
          by_cases h95 : b = 95
          · have hm7 := H95.out h95
            subst h95
            have b2 : 97 ≤ m := by omega
            have b1 : 122 < m := by omega
            clear ha1 hm7
            go_wp2_with fail
            refine (HLow.out _).mono ?_
            rintro e w' ⟨rfl, rfl⟩
            go_wp2_with fail
            refine (HLow.out _).mono ?_
            rintro e w' ⟨rfl, rfl⟩
            go_wp2_with fail
            go_ret2
            exact ⟨.inr ⟨HBN.out, rfl⟩, hk1⟩
          · have h95' : ((b : Int) == 95) = false := by simp; omega
            clear h95
            rcases three' 97 122 m with b1 | b1 | ⟨_, b1⟩
            · rcases ha1 with ha1 | ha1
              · skip
                go_wp2_with fail
                refine (HLow.out _).mono ?_
                rintro e w' ⟨rfl, rfl⟩
                go_wp2_with fail
                go_ret2
                exact ⟨.inr ⟨HBN.out, rfl⟩, hk1⟩
              · have ha2 : 48 ≤ b := by omega
                go_wp2_with fail
                refine (HLow.out _).mono ?_
                rintro e w' ⟨rfl, rfl⟩
                go_wp2_with fail
                go_ret2
                exact ⟨.inr ⟨HBN.out, rfl⟩, hk1⟩
            · exact absurd b1 hB
            · have b2 : 97 ≤ m := by omega
              rcases ha1 with ha1 | ha1
              · skip
                go_wp2_with fail
                refine (HLow.out _).mono ?_
                rintro e w' ⟨rfl, rfl⟩
                go_wp2_with fail
                refine (HLow.out _).mono ?_
                rintro e w' ⟨rfl, rfl⟩
                go_wp2_with fail
                go_ret2
                exact ⟨.inr ⟨HBN.out, rfl⟩, hk1⟩
              · have ha2 : 48 ≤ b := by omega
                go_wp2_with fail
                refine (HLow.out _).mono ?_
                rintro e w' ⟨rfl, rfl⟩
                go_wp2_with fail
                refine (HLow.out _).mono ?_
                rintro e w' ⟨rfl, rfl⟩
                go_wp2_with fail
                go_ret2
                exact ⟨.inr ⟨HBN.out, rfl⟩, hk1⟩
    · obtain rfl : k = D.length := by omega
      go_wp2_with fail
      go_ret2
      have hU := HU.out
      rw [List.take_length] at hU
      exact ⟨.inl ⟨v, hU, rfl⟩, hk1⟩
end Go.Proofs.YtoblbjlabadcoaaDoor
