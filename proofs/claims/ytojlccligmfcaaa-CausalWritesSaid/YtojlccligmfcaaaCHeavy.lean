/-
  Whether events are heavy.
-/
import Derived.Test.YtojlccligmfcaaaCaus
import Derived.Test.YtojlccligmfcaaaRegion
import Derived.WalkKit
import Derived.WalkSpells
import Derived.WalkLawsBesides
import Derived.Outline
namespace Go.Proofs.Ytojlccligmfcaaa
open Go.RowKit Go.Mer

def HvP (w : World) (L : List EvR) (e : Ending) (w' : World) : Prop := ∃ b : Bool, e = .returned (.bool b) ∧ (b = false → (∀ x ∈ L, x.Li) ∧ L.length ≤ 150) ∧ Kp No w w'
set_option maxRecDepth 100000 in
set_option maxHeartbeats 2000000 in
theorem heavy_any (w : World) (a : Option Addr) (cap : Nat) (L : List EvR) (h : EvsAt w a L) (hz : ∀ x ∈ L, x.Sz) (hl : L.length ≤ 140737488351232) :
    Calls Try.prog 6 #[.slice a L.length cap] w (HvP w L) := by
  have HA := Lib.hid h
  have HZ := Lib.hid hz
  clear h hz
  go_enter Try.func6, Try.ntmps6
  go_wp2_with fail
  rename World => w0
  go_loopw [3, 4] (fun s i wr => ∃ k N : Nat, k ≤ L.length ∧ N ≤ 8000 ∧ i = .int .i64 (k : Int) ∧ s = .int .i64 (N : Int) ∧ Hid (∀ x ∈ L.take k, x.Li) ∧ Hid (Kp No w0 wr)) (fun _ i _ => L.length - (intOf i).toNat)
  case atStart => exact ⟨0, 0, Nat.zero_le _, by omega, rfl, rfl, Lib.hid (by simp), Lib.hid (Kp.refl _ _)⟩
  case round =>
    obtain ⟨k, N, hk, hN, rfl, rfl, HLI, HKP⟩ := hrel
    by_cases hlt : k < L.length
    · obtain ⟨g, off, rfl, l0⟩ := rd_chunk (f := EvR.cells) (c := 18) EvR.cells_len (by decide) HA.out.top hlt
      have HE := Lib.hid (List.take_succ_eq_append_getElem hlt)
      have hsz := HZ.out _ (List.getElem_mem hlt)
      have hat := (HA.out.each _ (List.getElem_mem hlt)).keep HKP.out
      obtain ⟨x, hx⟩ : ∃ x, x = L[k] := ⟨_, rfl⟩
      rw [← hx] at l0 hsz hat HE
      obtain ⟨who, ⟨kind, node, n, m, by_, s1, s2, key, to, va, vcap, val⟩, ⟨err, an, q1, q2, found, aa, acap, aval, pa, pcap, pairs⟩⟩ := x
      have t8 := l0 wr HKP.out 8 _ rfl
      have t9 := l0 wr HKP.out 9 _ rfl
      have t10 := l0 wr HKP.out 10 _ rfl
      have t16 := l0 wr HKP.out 16 _ rfl
      have HL0 := Lib.hid (show ∀ W, Kp No w0 W → W.cell? ⟨g, off + k * 18 + 17, none⟩ = some (.slice pa pairs.length pcap) from fun W hW => l0 W hW 17 _ rfl)
      obtain ⟨z1, z2, z3, z4, z5, z6⟩ := hsz
      have HZ6 := Lib.hid z6
      have HAT := Lib.hid hat.r
      clear hx l0 hat z6
      simp only at z1 z2 z3 z4 z5
      have h5 : 8000 < key.size ∨ (key.size ≤ 8000 ∧ 8000 < to.size) ∨ (key.size ≤ 8000 ∧ to.size ≤ 8000 ∧ 8000 < val.length) ∨ (key.size ≤ 8000 ∧ to.size ≤ 8000 ∧ val.length ≤ 8000 ∧ 8000 < aval.length) ∨ (key.size ≤ 8000 ∧ to.size ≤ 8000 ∧ val.length ≤ 8000 ∧ aval.length ≤ 8000) := by omega
      rcases h5 with h1 | ⟨h1, h2⟩ | ⟨h1, h2, h3⟩ | ⟨h1, h2, h3, h4⟩ | ⟨h1, h2, h3, h4⟩
      iterate 4
        · go_wp2_with fail
          go_ret
          exact ⟨true, rfl, (fun h => by cases h), HKP.out⟩
      · go_wp2_with fail
        refine wp_region_ord [0,0,0,0,0,0,0,1,1,0,0,0,0,0,0,1,1,0,0,0,0,0,0,1,1,0,0,0,0,0,0,1,1,0,0] [0,1,2,3,4,5,6,7,10,11,12,13,14,15,18,19,20,21,22,23,26,27,28,29,30,31,8,9,16,17,24,25,32,33,34] (by kernel_rfl) (by kernel_rfl) ?_
        repeat (first
          | (apply wpOrd_skip rfl (by decide) rfl; (focus (go_simp; rfl)))
          | (apply wpOrd_pure rfl rfl rfl; (focus (intro _ _; go_simp; (try go_ints); rfl)); (focus (go_simp; rfl)))
          | (apply wpOrd_read rfl rfl rfl; (focus (intro _; go_simp; (try go_ints); rfl)); (focus (go_simp; rfl))))
        refine wpOrd_nil (fun nq => ?_)
        obtain ⟨W1, hW1⟩ : ∃ W1, W1 = wr.drewN nq := ⟨_, rfl⟩
        have HKP1 := Lib.hid (show Kp No w0 W1 by rw [hW1]; exact HKP.out.drewN nq)
        have HAT1 := Lib.hid (show AnsR.At W1 _ by rw [hW1]; exact HAT.out.keep ((Kp.refl _ _).drewN nq))
        rw [← hW1]
        obtain ⟨M0, hM0⟩ : ∃ M, M = N + 10 + key.size + to.size + val.length + aval.length := ⟨_, rfl⟩
        have hM0' : (N : Int) + 10 + key.size + to.size + val.length + aval.length = (M0 : Int) := by rw [hM0]; push_cast; rfl
        rw [hM0']
        have hM1 : N + 10 ≤ M0 := by omega
        have hM2 : M0 ≤ 40010 := by omega
        clear hW1 t8 t9 t10 t16 hM0 hM0'
        go_wp2_with fail
        go_loopw [3, 5] (fun s i wr => ∃ j M : Nat, j ≤ pairs.length ∧ j ≤ M ∧ M ≤ 40010 ∧ i = .int .i64 (j : Int) ∧ s = .int .i64 (M : Int) ∧ Hid (∀ p ∈ pairs.take j, p.key.size ≤ 8000 ∧ p.data.length ≤ 8000) ∧ Hid (Kp No W1 wr)) (fun _ i _ => pairs.length - (intOf i).toNat)
        case atStart => exact ⟨0, M0, Nat.zero_le _, Nat.zero_le _, hM2, rfl, rfl, Lib.hid (by simp), Lib.hid (Kp.refl _ _)⟩
        case round =>
          obtain ⟨j, M, hj, hjM, hM, rfl, rfl, HPK, HK2⟩ := hrel
          have HK3 := Lib.hid (HKP1.out.trans_same HK2.out)
          have t17 := HL0.out _ HK3.out
          by_cases hjl : j < pairs.length
          · obtain ⟨g', off', rfl, l1⟩ := rd_chunk (f := PairR.cells) (c := 2) (fun _ => rfl) (by decide) HAT1.out.top hjl
            have HE2 := Lib.hid (List.take_succ_eq_append_getElem hjl)
            have hq := HZ6.out _ (List.getElem_mem hjl)
            obtain ⟨p, hp⟩ : ∃ p, p = pairs[j] := ⟨_, rfl⟩
            rw [← hp] at l1 HE2 hq
            obtain ⟨pkey, ppa, ppc, pdat⟩ := p
            have q0 := l1 _ HK2.out 0 _ rfl
            have q1 := l1 _ HK2.out 1 _ rfl
            rw [Nat.add_zero] at q0
            obtain ⟨y1, y2⟩ := hq
            simp only at y1 y2
            clear l1 hp
            obtain ⟨M1, hM1⟩ : ∃ M1, M1 = M + 5 + pkey.size + pdat.length := ⟨_, rfl⟩
            have hM1' : (M : Int) + 5 + pkey.size + pdat.length = (M1 : Int) := by rw [hM1]; push_cast; rfl
            have HM1 := Lib.hid hM1
            have hb1 : j + 1 ≤ M1 := by omega
            have hb2 : M1 ≤ 281474976742480 := by omega
            clear hM1
            go_wp2_with fail
            refine wp_region_ord [0,0,0,0,0,0,0,1,0,0,0,1,1,0,0,0,0,0,0,1,0,0,0,1,1,0,0] [0,1,2,3,4,5,6,8,14,15,16,17,18,20,7,9,10,11,12,13,19,21,22,23,24,25,26] (by kernel_rfl) (by kernel_rfl) ?_
            repeat (first
              | (apply wpOrd_skip rfl (by decide) rfl; (focus (go_simp; rfl)))
              | (apply wpOrd_pure rfl rfl rfl; (focus (intro _ _; go_simp; (try go_ints); rfl)); (focus (go_simp; rfl)))
              | (apply wpOrd_read rfl rfl rfl; (focus (intro _; go_simp; (try go_ints); rfl)); (focus (go_simp; rfl))))
            refine wpOrd_nil (fun nq => ?_)
            (try rw [hM1'])
            clear hM1'
            have HK4 := Lib.hid (HK2.out.drewN nq)
            have HK5 := Lib.hid (HK3.out.drewN nq)
            clear q0 q1 t17
            rcases Nat.lt_or_ge 8000 M1 with hh | hh
            · go_wp2_with fail
              go_ret
              exact ⟨true, rfl, (fun h => by cases h), HK5.out⟩
            · have hsm : pkey.size ≤ 8000 ∧ pdat.length ≤ 8000 := by have := HM1.out; omega
              have HPK2 : Hid (∀ p ∈ pairs.take (j + 1), p.key.size ≤ 8000 ∧ p.data.length ≤ 8000) := Lib.hid fun p hp => by
                rw [HE2.out, List.mem_append, List.mem_singleton] at hp
                rcases hp with hp | rfl
                · exact HPK.out p hp
                · exact hsm
              clear hsm
              go_wp2_with fail
              go_roundw
              case rel => exact ⟨j + 1, M1, by omega, by omega, by omega, by go_num, by go_num, HPK2, HK4⟩
              case measure => simp [intOf]; omega
          · obtain rfl : j = pairs.length := by omega
            clear hjl
            rcases Nat.lt_or_ge 8000 M with hh | hh
            · go_wp2_with fail
              go_ret
              exact ⟨true, rfl, (fun h => by cases h), HK3.out⟩
            · have HLI2 : Hid (∀ x ∈ L.take (k + 1), x.Li) := Lib.hid fun x hx => by
                rw [HE.out, List.mem_append, List.mem_singleton] at hx
                rcases hx with hx | rfl
                · exact HLI.out x hx
                · exact ⟨h1, h2, h3, h4, (by show pairs.length ≤ _; omega), fun p hp => HPK.out p (by rw [List.take_length]; exact hp)⟩
              go_wp2_with fail
              go_roundw
              case rel => exact ⟨k + 1, M, by omega, by omega, by go_num, rfl, HLI2, HK3⟩
              case measure => simp [intOf]; omega
    · obtain rfl : k = L.length := by omega
      clear hlt
      go_wp2_with fail
      go_ret
      exact ⟨_, rfl, (fun hb => ⟨fun x hx => HLI.out x (by rw [List.take_length]; exact hx), by have h := of_decide_eq_false hb; omega⟩), HKP.out⟩
end Go.Proofs.Ytojlccligmfcaaa
