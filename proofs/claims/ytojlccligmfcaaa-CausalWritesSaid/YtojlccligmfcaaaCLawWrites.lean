/-
  The law CausalWrites, walked.
-/
import Derived.Test.YtojlccligmfcaaaCKnown
import Derived.Test.YtojlccligmfcaaaCHeavy
import Derived.Test.YtojlccligmfcaaaCRWrites
import Derived.Test.YtojlccligmfcaaaCWritten
namespace Go.Proofs.Ytojlccligmfcaaa
open Go.RowKit Go.Mer

set_option maxRecDepth 100000 in
set_option maxHeartbeats 4000000 in
theorem writes_law (w : World) (a : Option Addr) (cap : Nat) (L : List EvR) (h : EvsAt w a L) (hz : ∀ x ∈ L, x.Sz) (hl : L.length ≤ 140737488351232) :
    Calls Try.prog 3 #[.slice a L.length cap] w fun e w' => e = .returned (.bool true) ∧ Kp No w w' := by
  have HH := Lib.hid (heavy_any w a cap L h hz hl)
  have HA := Lib.hid h
  clear h hz
  go_enter Try.func3, Try.ntmps3
  go_wp2_with fail
  refine HH.out.mono ?_
  rintro e w1 ⟨hv, rfl, hb, hk1⟩
  have HB := Lib.hid hb
  have HK1 := Lib.hid hk1
  clear hb hk1 HH
  cases hv with
  | true =>
    go_wp2_with fail
    go_ret
    exact ⟨rfl, HK1.out⟩
  | false =>
    obtain ⟨hli, h150⟩ := HB.out rfl
    have HLX := Lib.hid hli
    have HLI := Lib.hid (show ∀ x ∈ L, x.s.val.length ≤ 140737488355328 from fun x hx => by have := (hli x hx).val; omega)
    clear hli HB
    have hc := Writes_any w1 a cap L (HA.out.keep HK1.out) (by omega) HLI.out
    have HC := Lib.hid hc
    clear hc
    go_wp2_with fail
    with_reducible refine HC.out.mono ?_
    rintro e w2 ⟨b2, c2, R2, rfl, hR2, hA2, hk2⟩
    have HR2 := Lib.hid hR2
    have HA2 := Lib.hid hA2
    have HK12 := Lib.hid hk2
    have HK2 := Lib.hid (HK1.out.trans_same hk2)
    clear HC hR2 hA2 hk2
    have hc := plain_any w2 a cap L (HA.out.keep HK2.out) (by omega)
    have HC := Lib.hid hc
    clear hc
    go_wp2_with fail
    with_reducible refine HC.out.mono ?_
    rintro e w3 ⟨b3, c3, rfl, hA3, hk3⟩
    have HA3 := Lib.hid hA3
    have HK23 := Lib.hid hk3
    have HK3 := Lib.hid (HK2.out.trans_same hk3)
    clear HC hA3 hk3
    have hc := rWrites_any w3 b3 c3 L HA3.out (by omega) HLI.out
    have HC := Lib.hid hc
    clear hc
    go_wp2_with fail
    with_reducible refine HC.out.mono ?_
    rintro e w4 ⟨b4, c4, R4, rfl, hR4, hA4, hk4⟩
    have hlen : R4.length = R2.length := by
      have h1 := congrArg List.length (hR4.trans HR2.out.symm)
      simpa using h1
    have HM := Lib.hid (show ∀ k (h2 : k < R2.length) (h4 : k < R4.length), R2[k].p = R4[k].p ∧ R2[k].p.val.length ≤ 140737488355328 from fun k h2 h4 => by
      have e1 : (R2.map (·.p))[k]? = (R4.map (·.p))[k]? := by rw [HR2.out, hR4]
      rw [List.getElem?_map, List.getElem?_map, List.getElem?_eq_getElem h2, List.getElem?_eq_getElem h4] at e1
      refine ⟨Option.some.inj e1, ?_⟩
      exact (wr_small HR2.out HLX.out).1 _ (List.getElem_mem h2))
    have hR2l : R2.length ≤ 1000 := by
      have h1 := congrArg List.length HR2.out
      have h2 := List.length_filterMap_le wrF L
      simp only [List.length_map] at h1
      omega
    have HA4 := Lib.hid hA4
    have HK4 := Lib.hid (HK3.out.trans_same hk4)
    have HA2' := Lib.hid (HA2.out.keep (HK23.out.trans_same hk4))
    have HL := Lib.hid hlen
    rw [hlen]
    clear HC hR4 hA4 hk4 hlen HA2
    go_wp2_with fail
    go_loopw [5] (fun i wr => ∃ k : Nat, k ≤ R2.length ∧ i = .int .i64 (k : Int) ∧ Hid (Kp No w4 wr)) (fun i _ => R2.length - (intOf i).toNat)
    case atStart => exact ⟨0, Nat.zero_le _, rfl, Lib.hid (Kp.refl _ _)⟩
    case round =>
      obtain ⟨k, hk, rfl, HKP⟩ := hrel
      by_cases hlt : k < R2.length
      · have hlt4 : k < R4.length := by have := HL.out; omega
        obtain ⟨g, off, rfl, l0⟩ := rd_chunk (f := WrR.cells) (c := 9) WrR.cells_len (by decide) HA2'.out.top hlt
        obtain ⟨g', off', rfl, l1⟩ := rd_chunk (f := WrR.cells) (c := 9) WrR.cells_len (by decide) HA4.out.top hlt4
        obtain ⟨hp, hpl⟩ := HM.out k hlt hlt4
        have hr2 := (HA2'.out.each _ (List.getElem_mem hlt)).kp HKP.out
        have hr4 := (HA4.out.each _ (List.getElem_mem hlt4)).kp HKP.out
        have hsg : g < wr.heap.size := World.block_lt_of_cell? wr _ (l0 wr HKP.out 0 _ rfl)
        have hsg' : g' < wr.heap.size := World.block_lt_of_cell? wr _ (l1 wr HKP.out 0 _ rfl)
        obtain ⟨x, hx⟩ : ∃ x, x = R2[k] := ⟨_, rfl⟩
        obtain ⟨y, hy⟩ : ∃ y, y = R4[k] := ⟨_, rfl⟩
        rw [← hx] at l0 hp hpl hr2
        rw [← hy] at l1 hp hr4
        have RX := Lib.hid (show ∀ W, Kp No wr W → W.rangeAt g (off + k * 9) x.cells from fun W hW j v hv => l0 W (HKP.out.trans_same hW) j v hv)
        have RY := Lib.hid (show ∀ W, Kp No wr W → W.rangeAt g' (off' + k * 9) y.cells from fun W hW j v hv => l1 W (HKP.out.trans_same hW) j v hv)
        have HWA := Lib.hid (fun n => written_any (wr.drewN n) x y hp (hr2.kp ((Kp.refl _ _).drewN n)) (hr4.kp ((Kp.refl _ _).drewN n)) hpl)
        have hlt4' : (k : Int) < (R4.length : Int) := by omega
        clear hx hy l0 l1 hp hpl hr2 hr4
        go_wp2_with fail
        refine wp_region_held' (Kp No wr) [0,0,0,0,0,0,0,0,2,0] [0,1,2,3,4,5,6,7,8,9] (by kernel_rfl) (by kernel_rfl) (fun _ n h => h.drewN n) (Kp.refl _ _) ?_
        repeat (first
          | (apply wpOrd_skip rfl (by decide) rfl; (focus (go_simp; rfl)))
          | (apply wpOrd_pure rfl rfl rfl; (focus (intro _ _; go_simp; (try go_ints); rfl)); (focus (go_simp; rfl)))
          | (apply wpOrd_read rfl rfl rfl; (focus (intro _; go_simp; (try go_ints); rfl)); (focus (go_simp; rfl))))
        refine wpOrd_pure rfl rfl rfl (v := .agg x.cells.toArray) (fun W0 hW => exec_load_w 37 _ rfl g (off + k * 9) rfl x.cells _ (RX.out W0 hW) Try.underlying37 rfl (by kernel_rfl)) rfl ?_
        repeat (first
          | (apply wpOrd_skip rfl (by decide) rfl; (focus (go_simp; rfl)))
          | (apply wpOrd_pure rfl rfl rfl; (focus (intro _ _; go_simp; (try go_ints); rfl)); (focus (go_simp; rfl)))
          | (apply wpOrd_read rfl rfl rfl; (focus (intro _; go_simp; (try go_ints); rfl)); (focus (go_simp; rfl))))
        refine wpOrd_pure rfl rfl rfl (v := .agg y.cells.toArray) (fun W0 hW => exec_load_w 38 _ rfl g' (off' + k * 9) rfl y.cells _ (RY.out W0 hW) Try.underlying38 rfl (by kernel_rfl)) rfl ?_
        refine wpOrd_eff rfl rfl (fun n1 => ?_)
        go_wp2_with fail
        refine (HWA.out n1).mono ?_
        rintro e w5 ⟨rfl, hk5⟩
        have K5 : Kp No wr w5 := hk5.of_drewN
        have HK5 := Lib.hid (HKP.out.trans_same K5)
        clear hk5
        go_wp2_with fail
        repeat (first
          | (apply wpOrd_skip rfl (by decide) rfl; (focus (go_simp; rfl)))
          | (apply wpOrd_pure rfl rfl rfl; (focus (intro _ _; go_simp; (try go_ints); rfl)); (focus (go_simp; rfl)))
          | (apply wpOrd_read rfl rfl rfl; (focus (intro _; go_simp; (try go_ints); rfl)); (focus (go_simp; rfl))))
        refine wpOrd_nil (fun nq => ?_)
        have HK6 := Lib.hid (HK5.out.drewN nq)
        clear K5
        go_wp2_with fail
        go_roundw
        case rel => exact ⟨k + 1, by omega, by go_num, HK6⟩
        case measure => simp [intOf]; omega
      · obtain rfl : k = R2.length := by omega
        have HK5 := Lib.hid (HK4.out.trans_same HKP.out)
        clear hlt
        go_wp2_with fail
        refine (known_any _).mono ?_
        rintro e w5 ⟨rfl, hk5⟩
        have HK6 := Lib.hid (HK5.out.trans_same hk5)
        clear hk5
        go_wp2_with fail
        go_ret
        exact ⟨rfl, HK6.out⟩
end Go.Proofs.Ytojlccligmfcaaa
