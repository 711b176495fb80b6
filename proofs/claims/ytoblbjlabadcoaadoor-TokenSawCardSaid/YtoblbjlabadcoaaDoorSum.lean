/-
  The check sum of rows of bytes: octet's and the reference's.
-/
import Derived.Test.YtoblbjlabadcoaaDoorHlc
import Derived.Test.YtoblbjlabadcoaaDoorArgs
namespace Go.Proofs.YtoblbjlabadcoaaDoor
open Go.RowKit Go.Mer

def catR (R : List Row) : List UInt8 := (R.map Row.data).flatten
theorem catR_step (R : List Row) {j : Nat} (h : j < R.length) : catR (R.take (j + 1)) = catR (R.take j) ++ R[j].data := by
  rw [List.take_succ_eq_append_getElem h]
  unfold catR
  rw [List.map_append, List.flatten_append]
  simp
theorem take_snocB (l : List UInt8) {k : Nat} (h : k < l.length) : l.take (k + 1) = l.take k ++ [l[k]] := List.take_succ_eq_append_getElem h
theorem low1 {z : Nat} (h : z < 4294967296) : bits .and .u32 (z : Int) 1 = ((z % 2 : Nat) : Int) := by
  have := bits_and (k := .u32) rfl (a := z) (b := 1) h (by decide)
  rw [Nat.and_one_is_mod] at this
  exact this
theorem crc_step {z : Nat} (h : z < 4294967296) : bits .xor .u32 ((z : Int) / 2) (bits .and .u32 3988292384 (-bits .and .u32 (z : Int) 1 % 4294967296)) = ((crcBit z : Nat) : Int) := by
  rw [low1 h]
  have e2 : (z : Int) / 2 = ((z / 2 : Nat) : Int) := by omega
  rw [e2]
  unfold crcBit
  by_cases h1 : z % 2 = 1
  · rw [if_pos h1, h1]
    have e3 : bits .and .u32 3988292384 (-((1 : Nat) : Int) % 4294967296) = ((3988292384 : Nat) : Int) := by decide +kernel
    rw [e3]
    exact bits_xor rfl (by show _ < 2 ^ 32; omega) (by decide)
  · rw [if_neg h1, show z % 2 = 0 from by omega]
    have e3 : bits .and .u32 3988292384 (-((0 : Nat) : Int) % 4294967296) = ((0 : Nat) : Int) := by decide +kernel
    rw [e3, bits_xor rfl (by show _ < 2 ^ 32; omega) (by decide), Nat.xor_zero]
theorem crc_step1 {z : Nat} (h : z < 4294967296) (h1 : z % 2 = 1) : bits .xor .u32 ((z : Int) / 2) 3988292384 = ((crcBit z : Nat) : Int) := by
  have e2 : (z : Int) / 2 = ((z / 2 : Nat) : Int) := by omega
  unfold crcBit
  rw [if_pos h1, e2]
  exact bits_xor (b := 3988292384) rfl (by show _ < 2 ^ 32; omega) (by decide)
theorem crc_not {z : Nat} (h : z < 4294967296) : bits .xor .u32 IntKind.u32.max (z : Int) = ((z ^^^ 4294967295 : Nat) : Int) := by
  have := bits_xor (k := .u32) rfl (a := 4294967295) (b := z) (by decide) h
  rw [Nat.xor_comm] at this
  exact this
set_option maxRecDepth 100000 in
theorem Sum_any (w : World) (a : Option Addr) (cap : Nat) (R : List Row) (hR : RowsAt w a R) (hl : R.length ≤ 140737488355328) :
    Calls Tryd.prog 18 #[.slice a R.length cap] w fun e w' => e = .returned (.int .u32 (crc (catR R) : Int)) ∧ w = w' := by
  have HR := Lib.hid hR
  clear hR
  go_enter Tryd.func18, Tryd.ntmps18
  go_wp2_with fail
  go_loop [3, 10] (fun v i => ∃ j c : Nat, j ≤ R.length ∧ i = .int .i64 j ∧ v = .int .u32 (c : Int) ∧ Hid (c = crcRun 4294967295 (catR (R.take j))) ∧ c < 4294967296) (fun _ i => R.length - (intOf i).toNat)
  case atStart => exact ⟨0, 4294967295, Nat.zero_le _, rfl, rfl, rfl, by decide⟩
  case round =>
    obtain ⟨j, c, hj, rfl, rfl, HC, hc⟩ := hrel
    by_cases hlt : j < R.length
    · obtain ⟨g0, off0, rfl, hg0, hc0, hr0, hm0⟩ := HR.out.at_ (Kp.refl _ _) hlt
      have HS := Lib.hid (catR_step R hlt)
      obtain ⟨D, hD⟩ : ∃ D, D = R[j].data := ⟨_, rfl⟩
      obtain ⟨ra, hra⟩ : ∃ ra, ra = R[j].a := ⟨_, rfl⟩
      obtain ⟨rc, hrc⟩ : ∃ rc, rc = R[j].cap := ⟨_, rfl⟩
      rw [← hD, ← hra] at hr0
      rw [← hD, ← hra, ← hrc] at hc0
      rw [← hD] at hm0 HS
      clear hD hra hrc
      have HR0 := Lib.hid hr0
      clear hr0
      go_wp2_with fail
      go_loop [3, 16] (fun v i => ∃ k c' : Nat, k ≤ D.length ∧ i = .int .i64 k ∧ v = .int .u32 (c' : Int) ∧ Hid (c' = crcRun c (D.take k)) ∧ c' < 4294967296) (fun _ i => D.length - (intOf i).toNat)
      case atStart => exact ⟨0, c, Nat.zero_le _, rfl, rfl, rfl, hc⟩
      case round =>
        obtain ⟨k, c', hk, rfl, rfl, HC', hc'⟩ := hrel
        by_cases hkl : k < D.length
        · obtain ⟨g, off, rfl, hg, _, hcell⟩ := HR0.out.byte hkl
          have HT := Lib.hid (take_snocB D hkl)
          have hlt1 := xb_lt hc' D[k]
          have hb8 := D[k].toNat_lt
          obtain ⟨bv, hbv⟩ : ∃ bv, bv = D[k].toNat := ⟨_, rfl⟩
          rw [← hbv] at hcell hlt1 hb8
          have hx := bits_xor (k := .u32) rfl (a := c') (b := bv) hc' (by show _ < 2 ^ 32; omega)
          obtain ⟨y, hy⟩ : ∃ y, y = c' ^^^ bv := ⟨_, rfl⟩
          rw [← hy] at hx hlt1
          have HY := Lib.hid hy
          have HB := Lib.hid hbv
          clear hy hbv
          go_wp2_with fail
          go_loop [3, 24] (fun v i => ∃ q z : Nat, q ≤ 8 ∧ i = .int .i64 q ∧ v = .int .u32 (z : Int) ∧ Hid (z = crcBits q y) ∧ z < 4294967296) (fun _ i => 8 - (intOf i).toNat)
          case atStart => exact ⟨0, y, Nat.zero_le _, rfl, rfl, rfl, hlt1⟩
          case round =>
            obtain ⟨q, z, hq, rfl, rfl, HZ, hz⟩ := hrel
            clear hx
            by_cases hq8 : q < 8
            · go_wp2_with fail
              go_round
              case rel => exact ⟨q + 1, crcBit z, by omega, by go_num, by rw [crc_step hz], by show _ = _; rw [crcBits_succ, ← show z = _ from HZ.out], crcBit_lt hz⟩
              case measure => simp [intOf]; omega
            · obtain rfl : q = 8 := by omega
              go_wp2_with fail
              go_round
              case rel =>
                refine ⟨k + 1, z, by omega, by go_num, rfl, ?_, hz⟩
                show z = _
                rw [HT.out, crcRun_snoc, ← show c' = _ from HC'.out, show z = _ from HZ.out, show y = _ from HY.out, show bv = _ from HB.out]
                rfl
              case measure => simp [intOf]; omega
        · obtain rfl : k = D.length := by omega
          go_wp2_with fail
          go_round
          case rel =>
            refine ⟨j + 1, c', by omega, by go_num, rfl, ?_, hc'⟩
            show c' = _
            rw [HS.out, crcRun_append, ← show c = _ from HC.out, show c' = _ from HC'.out, List.take_length]
          case measure => simp [intOf]; omega
    · obtain rfl : j = R.length := by omega
      go_wp2_with fail
      go_ret
      refine ⟨?_, rfl⟩
      have : crc (catR R) = c ^^^ 4294967295 := by rw [show c = _ from HC.out, List.take_length]; rfl
      rw [this, ← crc_not hc]
      rfl
set_option maxRecDepth 100000 in
theorem rSum_any (w : World) (a : Option Addr) (cap : Nat) (D : List UInt8) (hD : Rd w w.heap.size a (u8s D)) (hl : D.length ≤ 140737488355328) :
    Calls Tryd.prog 22 #[.slice a D.length cap] w fun e w' => e = .returned (.int .u32 (crc D : Int)) ∧ w = w' := by
  have HD := Lib.hid hD
  clear hD
  go_enter Tryd.func22, Tryd.ntmps22
  go_wp2_with fail
  go_loop [3, 4] (fun v i => ∃ k c' : Nat, k ≤ D.length ∧ i = .int .i64 k ∧ v = .int .u32 (c' : Int) ∧ Hid (c' = crcRun 4294967295 (D.take k)) ∧ c' < 4294967296) (fun _ i => D.length - (intOf i).toNat)
  case atStart => exact ⟨0, 4294967295, Nat.zero_le _, rfl, rfl, rfl, by decide⟩
  case round =>
    obtain ⟨k, c', hk, rfl, rfl, HC', hc'⟩ := hrel
    by_cases hkl : k < D.length
    · obtain ⟨g, off, rfl, hg, _, hcell⟩ := HD.out.byte hkl
      have HT := Lib.hid (take_snocB D hkl)
      have hlt1 := xb_lt hc' D[k]
      have hb8 := D[k].toNat_lt
      obtain ⟨bv, hbv⟩ : ∃ bv, bv = D[k].toNat := ⟨_, rfl⟩
      rw [← hbv] at hcell hlt1 hb8
      have hx := bits_xor (k := .u32) rfl (a := c') (b := bv) hc' (by show _ < 2 ^ 32; omega)
      obtain ⟨y, hy⟩ : ∃ y, y = c' ^^^ bv := ⟨_, rfl⟩
      rw [← hy] at hx hlt1
      have HY := Lib.hid hy
      have HB := Lib.hid hbv
      clear hy hbv
      go_wp2_with fail
      go_loop [3, 5] (fun v i => ∃ q z : Nat, q ≤ 8 ∧ i = .int .i64 q ∧ v = .int .u32 (z : Int) ∧ Hid (z = crcBits q y) ∧ z < 4294967296) (fun _ i => 8 - (intOf i).toNat)
      case atStart => exact ⟨0, y, Nat.zero_le _, rfl, rfl, rfl, hlt1⟩
      case round =>
        obtain ⟨q, z, hq, rfl, rfl, HZ, hz⟩ := hrel
        clear hx
        by_cases hq8 : q < 8
        · have HL := Lib.hid (low1 hz)
          by_cases h1 : z % 2 = 1
          · have HN := Lib.hid (crc_step1 hz h1)
            have hlo : bits .and .u32 (z : Int) 1 = 1 := by rw [HL.out, h1]; rfl
            have HH := Lib.hid h1
            clear h1
            go_wp2_with fail
            go_round
            case rel => exact ⟨q + 1, crcBit z, by omega, by go_num, by rw [HN.out], by show _ = _; rw [crcBits_succ, ← show z = _ from HZ.out], crcBit_lt hz⟩
            case measure => simp [intOf]; omega
          · have e0 : crcBit z = z / 2 := by unfold crcBit; rw [if_neg h1]
            have hlo : bits .and .u32 (z : Int) 1 = 0 := by rw [HL.out, show z % 2 = 0 from by omega]; rfl
            have HE := Lib.hid e0
            have HH := Lib.hid h1
            clear h1 e0
            go_wp2_with fail
            go_round
            case rel => exact ⟨q + 1, z / 2, by omega, by go_num, by go_num, by show _ = _; rw [crcBits_succ, ← show z = _ from HZ.out, HE.out], by omega⟩
            case measure => simp [intOf]; omega
        · obtain rfl : q = 8 := by omega
          go_wp2_with fail
          go_round
          case rel =>
            refine ⟨k + 1, z, by omega, by go_num, rfl, ?_, hz⟩
            show z = _
            rw [HT.out, crcRun_snoc, ← show c' = _ from HC'.out, show z = _ from HZ.out, show y = _ from HY.out, show bv = _ from HB.out]
            rfl
          case measure => simp [intOf]; omega
    · obtain rfl : k = D.length := by omega
      go_wp2_with fail
      go_ret
      refine ⟨?_, rfl⟩
      have : crc D = c' ^^^ 4294967295 := by rw [show c' = _ from HC'.out, List.take_length]; rfl
      rw [this, ← crc_not hc']
      rfl
end Go.Proofs.YtoblbjlabadcoaaDoor
