/-
  The law DiskPlays, walked.
-/
import Derived.Test.YtenidddbjobblaaStood
import Derived.Test.YtenidddbjobblaaRCopy
import Derived.Test.YtenidddbjobblaaDCopy
import Derived.Test.YtenidddbjobblaaRD3
import Derived.Test.YtenidddbjobblaaDiskKnown
import Derived.Deep.CutRange
namespace Go.Proofs.Ytenidddbjobblaa
open Go.RowKit Go.Mer

set_option maxRecDepth 100000 in
set_option maxHeartbeats 4000000 in
theorem plays_any (w : World) (room : Int) (hroom : I64 room) (a : Option Addr) (cap : Nat) (L : List StR) (h : StsAt w a L) (hl : L.length ≤ 140737488351232) :
    Calls Try.prog 7 #[.int .i64 room, .slice a L.length cap] w fun e w' => e = .returned (.bool true) ∧ Kp No w w' := by
  have HA := Lib.hid h
  have HH := Lib.hid (hvy_any w a cap L h hl)
  clear h
  have kc := fun (w : World) (C : Array Value) (n c : Nat) => Lib.run_convert_bytes_const (P := Try.prog) w 23 5 C n c Try.underlying23 Try.underlying5
  go_enter Try.func7, Try.ntmps7
  go_wp2_with fail
  refine HH.out.mono ?_
  rintro e w1 ⟨hv, rfl, hlv, hk1⟩
  have HLV := Lib.hid hlv
  have HK1 := Lib.hid hk1
  clear hlv hk1 HH
  cases hv with
  | true =>
    go_wp2_with fail
    refine (known_any _).mono ?_
    rintro e w2 ⟨rfl, hk2⟩
    have HK2 := Lib.hid (HK1.out.trans_same hk2)
    clear hk2
    go_wp2_with fail
    go_ret
    exact ⟨rfl, HK2.out⟩
  | false =>
  have HLI := Lib.hid (HLV.out rfl)
  clear HLV
  by_cases hbad : room < 0 ∨ 1073741824 < room
  · have hn := new_bad room w1 hbad
    have HN := Lib.hid hn
    have hrn := rNew_bad room w1 hbad
    have HRN := Lib.hid hrn
    clear hn hrn hbad
    go_wp2_with fail
    refine HN.out.mono ?_
    rintro e w2 ⟨rfl, rfl⟩
    go_wp2_with fail
    refine HRN.out.mono ?_
    rintro e w3 ⟨rfl, rfl⟩
    go_wp2_with fail
    refine (known_any _).mono ?_
    rintro e w4 ⟨rfl, hk4⟩
    have HK4 := Lib.hid (HK1.out.trans_same hk4)
    clear hk4
    go_wp2_with fail
    go_ret
    exact ⟨rfl, HK4.out⟩
  · obtain ⟨R, rfl⟩ : ∃ R : Nat, room = (R : Int) := ⟨room.toNat, by omega⟩
    have hRb : R ≤ 1073741824 := by omega
    have hn := new_any R w1 hRb
    have HN := Lib.hid hn
    clear hn hbad
    go_wp2_with fail
    refine HN.out.mono ?_
    rintro e w2 ⟨rfl, hk2, F0, hD0, hF0⟩
    obtain ⟨d0, hd0⟩ : ∃ x, x = w1.heap.size + 1 := ⟨_, rfl⟩
    rw [← hd0] at hD0 ⊢
    have hrn := rNew_any R w2 hRb
    have HRN := Lib.hid hrn
    have HD0 := Lib.hid hD0
    have HF0 := Lib.hid hF0
    have HK12 := Lib.hid hk2
    have HK2 := Lib.hid (HK1.out.trans_same hk2)
    clear hrn hk2 hD0 hF0 hd0 HN
    go_wp2_with fail
    refine HRN.out.mono ?_
    rintro e w3 ⟨r0, rfl, hk3, G0, hR0, hG0⟩
    have hB0 : Bo w w3 d0 r0 ⟨R, none, []⟩ ⟨R, none, []⟩ F0 G0 := ⟨HK2.out.trans_same hk3, HD0.out.keep_no hk3, hR0, fun k h1 h2 => by
      have h3 := HD0.out.lt k h1
      have h4 := hG0 k h2
      omega, fun k h1 => Nat.le_trans HK1.out.size (HF0.out k h1), fun k h1 => Nat.le_trans HK2.out.size (hG0 k h1)⟩
    have HB0 := Lib.hid hB0
    clear hk3 hR0 hG0 hB0 HRN
    go_wp2_with fail
    go_loopw [5, 7, 9, 10] (fun s5 s7 s9 _ wr => ∃ (i d r : Nat) (s : DSt) (F G : Nat → Prop), i ≤ L.length ∧ i ≤ 120 ∧ s5 = .pointer (some ⟨d, 0, none⟩) ∧ s7 = .pointer (some ⟨r, 0, none⟩) ∧ s9 = .int .i64 (i : Int) ∧ Hid (NmOk s) ∧ Hid (Bo w wr d r s s F G)) (fun _ _ s9 _ _ => L.length - (intOf s9).toNat)
    case atStart => exact ⟨0, d0, r0, _, F0, G0, Nat.zero_le _, by omega, rfl, rfl, rfl, Lib.hid (fun p hp => by cases hp), HB0⟩
    case round =>
      obtain ⟨i, d, r, s, F, G, hi, hi120, rfl, rfl, rfl, HNM, HB⟩ := hrel
      by_cases hlt : i < L.length
      · by_cases h120 : i < 120
        · obtain ⟨g, off, rfl, l0⟩ := rd_chunk (f := StR.cells) (c := 6) StR.cells_len (by decide) HA.out.top hlt
          have hat := (HA.out.each _ (List.getElem_mem hlt))
          have hli := HLI.out _ (by
            have h1 : (L.take 120)[i]'(by rw [List.length_take]; omega) = L[i] := List.getElem_take
            rw [← h1]
            exact List.getElem_mem _ : L[i] ∈ L.take 120)
          obtain ⟨x, hx⟩ : ∃ x, x = L[i] := ⟨_, rfl⟩
          rw [← hx] at l0 hat hli
          have hxo : 0 < (u8s x.b).length → ∀ k o, x.ba = some ⟨k, o, none⟩ → k < w.heap.size := fun h0 k o hk => by
            obtain ⟨g', off', h1, h2, _⟩ := hat.b h0
            rw [hk] at h1
            injection h1 with h1
            injection h1 with h1 _
            rw [h1]
            exact h2
          have t0 := l0 _ HB.out.kp 0 _ rfl
          have t1 := l0 _ HB.out.kp 1 _ rfl
          have t2 := l0 _ HB.out.kp 2 _ rfl
          have t3 := l0 _ HB.out.kp 3 _ rfl
          have t4 := l0 _ HB.out.kp 4 _ rfl
          have t5 := l0 _ HB.out.kp 5 _ rfl
          rw [Nat.add_zero] at t0
          have gl : g < wr.heap.size := World.block_lt_of_cell? wr _ t0
          have HAT := Lib.hid (hat.kp HB.out.kp)
          have HLx := Lib.hid (show x.b.length ≤ 8000 by have : x.a.size + x.to_.size + x.b.length ≤ 8000 := hli; omega)
          have HXO := Lib.hid hxo
          clear l0 hat hli hx hxo
          by_cases h8 : x.kind = 8
          · rw [h8] at t0
            have hc := Copy_any wr d s F HB.out.dk
            have HC := Lib.hid hc
            clear hc t1 t2 t3 t4 t5
            go_wp2_with fail
            refine HC.out.mono ?_
            rintro e w4 ⟨d2, fs, rfl, hk4, hfs, F2, hD2, hF2⟩
            have HB4 := Lib.hid (HB.out.no hk4)
            have hrc := rCopy_any w4 r s G HB4.out.rk
            have HRC := Lib.hid hrc
            have HK4 := Lib.hid hk4
            have HFS := Lib.hid hfs
            have HD2 := Lib.hid hD2
            have HF2 := Lib.hid hF2
            clear hrc hk4 hfs hD2 hF2 HC t0 gl
            go_wp2_with fail
            refine HRC.out.mono ?_
            rintro e w5 ⟨r2, rfl, hk5, G2, hR2, hG2⟩
            have hR2' : RAt w5 r2 ⟨s.room, none, fs⟩ G2 := by
              obtain ⟨rv, Lr, q1, q2, q3, q4⟩ := hR2
              exact ⟨rv, Lr, q1, q2.trans HFS.out.symm, q3, q4⟩
            have hB5 : Bo w w5 d2 r2 ⟨s.room, none, fs⟩ ⟨s.room, none, fs⟩ F2 G2 := ⟨HB4.out.kp.trans_same hk5, HD2.out.keep_no hk5, hR2', fun k h1 h2 => by
              have h3 := HD2.out.lt k h1
              have h4 := hG2 k h2
              omega, fun k h1 => Nat.le_trans HB.out.kp.size (HF2.out k h1), fun k h1 => Nat.le_trans HB4.out.kp.size (hG2 k h1)⟩
            have HB5 := Lib.hid hB5
            have HOld := Lib.hid (HB4.out.dk.keep_no hk5)
            have HNMc := Lib.hid (show NmOk ⟨s.room, none, fs⟩ from fun p hp => HNM.out p (HFS.out.mem_iff.1 hp))
            have HFno := Lib.hid (show ∀ k, F k → ¬ F2 k ∧ ¬ G2 k ∧ w.heap.size ≤ k from fun k hk => by
              have h1 := HB.out.dk.lt k hk
              refine ⟨fun h => ?_, fun h => ?_, HB.out.fn k hk⟩
              · have := HF2.out k h; omega
              · have := hG2 k h; have := HK4.out.size; omega)
            have HG2l := Lib.hid (show ∀ k, G2 k → k < w5.heap.size from hR2.lt)
            have HF2l := Lib.hid (show ∀ k, F2 k → k < w5.heap.size from fun k hk => Nat.lt_of_lt_of_le (HD2.out.lt k hk) hk5.size)
            clear hk5 hR2 hG2 hR2' hB5 HRC
            obtain ⟨W6, hW6⟩ : ∃ V, V = w5.alloc (.cells #[.int .u8 120] 5 (1, 1 + 1)) := ⟨_, rfl⟩
            have k6 : Kp No w5 W6 := by rw [hW6]; exact (Kp.refl _ _).alloc _
            have d6 : Rd W6 W6.heap.size (some ⟨w5.heap.size, 0, none⟩) (u8s [120]) := by rw [hW6]; exact Rd.const _ _ _ _ _ rfl
            have hwo := Write_any W6 d s F (HOld.out.keep_no k6) { data := #[115, 112, 111, 105, 108, 116] } (some ⟨w5.heap.size, 0, none⟩) 1 [120] d6 (by simp)
            have HWO := Lib.hid hwo
            have HB6 := Lib.hid (HB5.out.no k6)
            have HS6 := Lib.hid k6.size
            have HW6 := Lib.hid hW6
            clear k6 d6 hwo hW6
            go_wp2_with fail
            rw [← HW6.out]
            refine HWO.out.mono ?_
            rintro e w7 ⟨rfl, F7, hD7, hf7, hk7⟩
            have HB7 := Lib.hid (HB6.out.other hk7 HFno.out)
            have hcr := Crash_any w7 d _ F7 hD7 0 (by decide) (by decide) 1
            have HCR := Lib.hid hcr
            have HF7 := Lib.hid (show ∀ k, F7 k → ¬ F2 k ∧ ¬ G2 k ∧ w.heap.size ≤ k from fun k hk => by
              rcases hf7 k hk with h1 | h1
              · exact HFno.out k h1
              · have h2 := HS6.out
                have h3 := HB5.out.kp.size
                refine ⟨fun h => ?_, fun h => ?_, by omega⟩
                · have := HF2l.out k h; omega
                · have := HG2l.out k h; omega)
            clear hD7 hf7 hk7 hcr HWO
            go_wp2_with fail
            refine HCR.out.mono ?_
            rintro e w8 ⟨rfl, _, hk8⟩
            have HB8 := Lib.hid (HB7.out.other hk8 HF7.out)
            clear hk8 HCR
            go_wp2_with fail
            go_roundw
            case rel => exact ⟨i + 1, d2, r2, _, F2, G2, by omega, by omega, rfl, rfl, by go_num, HNMc, HB8⟩
            case measure => simp [intOf]; omega
          · have f8 : (x.kind == 8) = false := by simpa using h8
            have hdo := does_any w wr d r s F G HB.out HNM.out x HAT.out HLx.out HXO.out
            have HDO := Lib.hid (show Calls Try.prog 26 #[.pointer (some ⟨d, 0, none⟩), .pointer (some ⟨r, 0, none⟩), .agg #[.int .i64 x.kind, .int .i64 x.n, .string x.a, .string x.to_, .slice x.ba x.b.length x.bcap, .int .u8 (x.tear.toNat : Int)]] wr (DoesP w d r) from hdo)
            clear hdo h8
            go_wp2_with fail
            refine HDO.out.mono ?_
            rintro e w4 ⟨s', F', G', rfl, hnm, hB4⟩
            have hst := stood_any w w4 d r s' F' G' hB4 hnm
            have HST := Lib.hid hst
            have HNM4 := Lib.hid hnm
            clear hst hnm hB4 HDO t0 t1 t2 t3 t4 t5 gl
            go_wp2_with fail
            refine HST.out.mono ?_
            rintro e w5 ⟨rfl, hB5⟩
            have HB5 := Lib.hid hB5
            clear hB5 HST
            go_wp2_with fail
            go_roundw
            case rel => exact ⟨i + 1, d, r, s', F', G', by omega, by omega, rfl, rfl, by go_num, HNM4, HB5⟩
            case measure => simp [intOf]; omega
        · obtain rfl : i = 120 := by omega
          clear h120
          go_wp2_with fail
          refine (known_any _).mono ?_
          rintro e w4 ⟨rfl, hk4⟩
          have HK4 := Lib.hid (HB.out.kp.trans_same hk4)
          clear hk4
          go_wp2_with fail
          go_ret
          exact ⟨rfl, HK4.out⟩
      · obtain rfl : i = L.length := by omega
        clear hlt
        go_wp2_with fail
        refine (known_any _).mono ?_
        rintro e w4 ⟨rfl, hk4⟩
        have HK4 := Lib.hid (HB.out.kp.trans_same hk4)
        clear hk4
        go_wp2_with fail
        go_ret
        exact ⟨rfl, HK4.out⟩
end Go.Proofs.Ytenidddbjobblaa
