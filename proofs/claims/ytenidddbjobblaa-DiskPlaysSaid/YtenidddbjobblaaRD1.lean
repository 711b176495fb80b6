/-
  The reference's disk: may, did, spot, Used, Fuse, New.
-/
import Derived.Test.YtenidddbjobblaaRDisk
import Derived.Test.YtenidddbjobblaaDiskApi
import Derived.WalkKit
import Derived.WalkSpells
import Derived.WalkLawsBesides
import Derived.Outline
namespace Go.Proofs.Ytenidddbjobblaa
open Go.RowKit Go.Mer

set_option maxRecDepth 100000 in
set_option maxHeartbeats 1000000 in
theorem rmay_any (w : World) (r room : Nat) (left : Int) (rv : Value) (L : List RFile) (h : RC w r room left rv L) (na : Option Addr) (nc : Nat) (ns : List ByteArray) (hns : Rd w w.heap.size na (ns.map Value.string)) (hnl : ns.length ≤ 1000) :
    Calls Try.prog 54 #[.pointer (some ⟨r, 0, none⟩), .slice na ns.length nc] w fun e w' => e = .returned (.int .i64 (if left = 0 then 9 else if ns.all nameOk = true then 0 else 1)) ∧ Kp No w w' := by
  obtain ⟨ra, rcap, rfl, hrc, hrd⟩ := h.row.rd
  have c0 := cell_at h.cell 0
  have c1 := cell_at h.cell 1
  have c2 := cell_at h.cell 2
  have hrl := get_lt h.cell
  simp at c0 c1 c2
  have HN := Lib.hid hns
  clear h hns c0 c1 hrd hrc
  obtain ⟨q, hq⟩ : ∃ q : Int, q = if left = 0 then 9 else if ns.all nameOk = true then 0 else 1 := ⟨_, rfl⟩
  rw [← hq]
  by_cases h0 : left = 0
  · subst h0
    have HE := Lib.hid hq
    clear hq
    go_enter Try.func54, Try.ntmps54
    go_wp2_with fail
    go_ret
    exact ⟨by rw [HE.out]; rfl, Kp.refl _ _⟩
  · have f0 : (left == 0) = false := by simpa using h0
    rw [if_neg h0] at hq
    have HE := Lib.hid hq
    clear h0 hq
    go_enter Try.func54, Try.ntmps54
    go_wp2_with fail
    rename World => w0
    go_loopw [5] (fun i wr => ∃ k : Nat, k ≤ ns.length ∧ i = .int .i64 (k : Int) ∧ Hid ((ns.take k).all nameOk = true) ∧ Hid (Kp No w0 wr)) (fun i _ => ns.length - (intOf i).toNat)
    case atStart => exact ⟨0, Nat.zero_le _, rfl, Lib.hid (by simp), Lib.hid (Kp.refl _ _)⟩
    case round =>
      obtain ⟨k, hk, rfl, HA, HKP⟩ := hrel
      by_cases hlt : k < ns.length
      · obtain ⟨g, off, rfl, hg, _, hc⟩ := (HN.out.keep HKP.out fun _ _ x => x).at_ (i := k) (u := .string ns[k]) (by simp [hlt])
        have hgl : g < wr.heap.size := Nat.lt_of_lt_of_le hg HKP.out.size
        have HT := Lib.hid (List.take_succ_eq_append_getElem hlt)
        have HNM := Lib.hid (show ns[k] ∈ ns from List.getElem_mem hlt)
        by_cases h1 : ns[k].size < 1
        · have hno : ns.all nameOk = false := by
            rw [List.all_eq_false]
            exact ⟨ns[k], HNM.out, by simp [nameOk]; omega⟩
          have HNO := Lib.hid hno
          clear hno HT HA
          go_wp2_with fail
          go_ret
          exact ⟨by rw [HE.out, HNO.out]; rfl, HKP.out⟩
        · by_cases h2 : 64 < ns[k].size
          · have hno : ns.all nameOk = false := by
              rw [List.all_eq_false]
              exact ⟨ns[k], HNM.out, by simp [nameOk]; omega⟩
            have HNO := Lib.hid hno
            clear hno
            go_wp2_with fail
            go_ret
            exact ⟨by rw [HE.out, HNO.out]; rfl, HKP.out⟩
          · have HA2 : Hid ((ns.take (k + 1)).all nameOk = true) := Lib.hid (by
              rw [HT.out, List.all_append, HA.out]
              simp [nameOk]
              omega)
            go_wp2_with fail
            go_roundw
            case rel => exact ⟨k + 1, by omega, by go_num, HA2, HKP⟩
            case measure => simp [intOf]; omega
      · obtain rfl : k = ns.length := by omega
        have hal := HA.out
        rw [List.take_length] at hal
        have HAL := Lib.hid hal
        clear hal hlt
        go_wp2_with fail
        go_ret
        exact ⟨by rw [HE.out, HAL.out]; rfl, HKP.out⟩
/-- What the fuse tells behind one of the five that was done. -/
theorem left_next {f : Option Nat} (hf : f ≠ some 0) : leftOf (f.map (· - 1)) = if 0 < leftOf f then leftOf f - 1 else leftOf f := by
  cases f with
  | none => rfl
  | some n =>
    show ((n - 1 : Nat) : Int) = if 0 < (n : Int) then (n : Int) - 1 else (n : Int)
    have : 0 < n := by
      rcases Nat.eq_zero_or_pos n with rfl | h
      · exact absurd rfl hf
      · exact h
    rw [if_pos (by omega)]
    omega
set_option maxHeartbeats 400000 in
theorem rdid_any (w : World) (r room : Nat) (left : Int) (rv : Value) (L : List RFile) (h : RC w r room left rv L) :
    Calls Try.prog 56 #[.pointer (some ⟨r, 0, none⟩)] w fun e w' => e = .returned (.int .i64 0) ∧ RC w' r room (if 0 < left then left - 1 else left) rv L ∧ Kp (One r) w w' := by
  have hrow := h.row.rd
  obtain ⟨ra, rcap, rfl, _, _⟩ := hrow
  have c2 := cell_at h.cell 2
  have f2 := free_at h.cell 2
  have hrl := get_lt h.cell
  simp at c2
  have hl0 := h.left0
  have hlM := h.leftM
  by_cases h0 : 0 < left
  · have hk : Kp (One r) w (w.setCell ⟨r, 2, none⟩ (.int .i64 (left - 1))) := (Kp.refl (One r) _).setCell (p := ⟨r, 2, none⟩) (.inl rfl) _
    have h2 := h.setLeft (left - 1) (by omega) (by omega) hk (by have := set_at h.cell 2 (.int .i64 (left - 1)); simpa using this)
    have H2 := Lib.hid h2
    have HK := Lib.hid hk
    clear h h2 hk
    go_enter Try.func56, Try.ntmps56
    go_wp2_with fail
    go_ret
    exact ⟨rfl, H2.out, HK.out⟩
  · have H2 := Lib.hid h
    clear h
    go_enter Try.func56, Try.ntmps56
    go_wp2_with fail
    go_ret
    exact ⟨rfl, H2.out, Kp.refl _ _⟩
end Go.Proofs.Ytenidddbjobblaa
