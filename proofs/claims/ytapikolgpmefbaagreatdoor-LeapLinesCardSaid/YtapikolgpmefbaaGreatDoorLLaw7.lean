/-
  The law LeapPrint, of any table.
-/
import Derived.Test.YtapikolgpmefbaaGreatDoorLLaw6
import Derived.Test.YtapikolgpmefbaaGreatDoorLPrintT
import Derived.Test.YtapikolgpmefbaaGreatDoorLTables
namespace Go.Proofs.YtapikolgpmefbaaGreatDoor
open Go.RowKit Go.Mer

theorem lnOk_row {x : Int × Int} (h : x.2 ≤ 1000) : LnOk (row0 x) := fun _ _ _ => by
  rw [row0_cut]
  have := dec_len 3 x.2.toNat (by omega)
  show (Lib.decDigits x.2.toNat).length ≤ 18
  omega
theorem lnOk_end (e : Int) : LnOk (end0 e) := fun h => by
  have hp : Lib.hasPrefix (end0 e) expB = true := by
    unfold Lib.hasPrefix end0
    rw [List.isPrefixOf_iff_prefix]
    exact List.prefix_append _ _
  rw [hp] at h
  cases h
theorem lnOk_tab {L : List (Int × Int)} {e : Int} (h : isF L e = true) : ∀ x ∈ tabL L e, LnOk (Lib.trimSuffix x [10]) := by
  intro x hx
  unfold tabL at hx
  rw [List.mem_append] at hx
  rcases hx with hx | hx
  · obtain ⟨y, hy, rfl⟩ := List.mem_map.1 hx
    unfold rowL
    rw [trim_nl]
    obtain ⟨i, hi, rfl⟩ := List.getElem_of_mem hy
    exact lnOk_row (isF_day h (i := i) (by simp)).2.2.2
  · rw [List.mem_singleton] at hx
    subst hx
    unfold endL
    rw [trim_nl]
    exact lnOk_end e
set_option maxRecDepth 10000 in
set_option maxHeartbeats 4000000 in
theorem Print_law (w : World) (a : Option Addr) (cap : Nat) (L : List (Int × Int)) (e : Int) (hR : Rd w w.heap.size a (tbV L)) (ht : Pow w) :
    Calls Tryz.prog 3 #[.agg #[.slice a L.length cap, .int .i64 e]] w fun e' w' => e' = .returned (.bool true) ∧ Kp No w w' := by
  obtain ⟨W0, hW0⟩ : ∃ W0, W0 = w.alloc (.cells #[.slice a L.length cap, .int .i64 e] 24 (0, 0)) := ⟨_, rfl⟩
  have hb : W0.heap[w.heap.size]? = some (.cells #[.slice a L.length cap, .int .i64 e] 24 (0, 0)) := by rw [hW0]; exact heap_alloc_new w _
  have hk0 : Kp No w W0 := by rw [hW0]; exact (Kp.refl _ _).alloc _
  have HK := Lib.hid hk0
  obtain ⟨K, hK⟩ : ∃ K, K = L.length := ⟨_, rfl⟩
  rcases Nat.lt_or_ge 300 K with h | h
  · have h1 : decide (300 < K) = true := decide_eq_true h
    have h2 : decide ((300 : Int) < (K : Int)) = true := by rw [decide_eq_true_iff]; omega
    rw [← hK] at hW0
    rw [← hK]
    have HW := Lib.hid hW0
    clear hW0 hk0 hR hb hK h ht
    go_enter Tryz.func3, Tryz.ntmps3
    go_wp2_with fail
    go_ret
    exact ⟨rfl, by rw [← HW.out]; exact HK.out⟩
  · have h1 : decide (300 < K) = false := by rw [decide_eq_false_iff_not]; omega
    have h2 : decide ((300 : Int) < (K : Int)) = false := by rw [decide_eq_false_iff_not]; omega
    have how := own_any W0 L e a cap w.heap.size (hR.keep hk0 fun _ _ x => x) (by omega)
    have c0 : ∀ W, Kp No W0 W → W.cell? ⟨w.heap.size, 0, none⟩ = some (.slice a L.length cap) := fun W h => by rw [cell_at (h.get hb fun x => x)]; rfl
    have c1 : ∀ W, Kp No W0 W → W.cell? ⟨w.heap.size, 1, none⟩ = some (.int .i64 e) := fun W h => by rw [cell_at (h.get hb fun x => x)]; rfl
    have HRD := Lib.hid hR
    have HT := Lib.hid ht
    have HKL := Lib.hid hK
    have H300 := Lib.hid h
    cases hif : isF L e with
    | false =>
      have hpr := fun (a' : Option Addr) (c' : Nat) (W : World) (hh : Rd W W.heap.size a' (tbV L)) (hc : L.length ≤ c') => Print_no L e W a' c' _ hh (by omega) hc hif
      have hrp := fun (W : World) (hW : Kp No W0 W) => rlPrint_no L e W a cap w.heap.size (hR.keep (hk0.trans_same hW) fun _ _ x => x) (by omega) hif
      rw [← hK] at hrp hpr how hW0 c0
      rw [← hK]
      have HPR := Lib.hid hpr
      have HRP := Lib.hid hrp
      have HOW := Lib.hid how
      have HW := Lib.hid hW0
      have HC0 := Lib.hid c0
      have HC1 := Lib.hid c1
      clear hif hrp hpr how hW0 hb hk0 hR hK h c0 c1 ht
      go_enter Tryz.func3, Tryz.ntmps3
      go_wp2_with fail
      rw [← HW.out]
      refine HOW.out.mono ?_
      rintro e' w2 ⟨a', c', rfl, ho, _, hk2, hc'⟩
      have HO2 := Lib.hid ho
      have HK2 := Lib.hid hk2
      have HC2 := Lib.hid hc'
      clear ho hk2 hc' HOW
      go_wp2_with fail
      refine (HPR.out a' c' w2 HO2.out.rd' HC2.out).mono ?_
      rintro e' w3 ⟨rfl, hk3⟩
      have hk03 := HK2.out.trans_same hk3
      have d0 := HC0.out w3 hk03
      have d1 := HC1.out w3 hk03
      have HP4 := Lib.hid (HRP.out w3 hk03)
      have HK3 := Lib.hid hk03
      clear hk3 hk03
      go_wp2_with fail
      refine HP4.out.mono ?_
      rintro e' w4 ⟨rfl, hk4⟩
      have HK34 := Lib.hid (HK3.out.trans_same hk4)
      have HK4 := Lib.hid (HK.out.trans_same HK34.out)
      clear hk4 d0 d1
      go_wp2_with fail
      refine (known_any _).mono ?_
      rintro e' w5 ⟨rfl, hk5⟩
      have HK5 := Lib.hid (HK4.out.trans_same hk5)
      clear hk5
      go_wp2_with fail
      go_ret
      exact ⟨rfl, HK5.out⟩
    | true =>
      have hpr := fun (a' : Option Addr) (c' : Nat) (W : World) (hh : Rd W W.heap.size a' (tbV L)) (hc : L.length ≤ c') (hp : Pow W) => Print_yes L e W a' c' _ hh hc hif hp
      have hrp := fun (W : World) (hW : Kp No W0 W) => rlPrint_yes L e W a cap w.heap.size (hR.keep (hk0.trans_same hW) fun _ _ x => x) hif
      have hps := fun W => Parse_any ⟨(textL L e).toArray⟩ W (by have := textL_len hif; show (textL L e).length ≤ _; omega) (by
        show ∀ x ∈ linesOf (textL L e), _
        rw [textL, linesOf_flat _ (tabL_nl L e)]
        exact fun x hx _ => lnOk_tab hif x hx)
      rw [show (ByteArray.mk (textL L e).toArray).data.toList = textL L e from rfl, parseT_text hif] at hps
      have hts := fun (W : World) (b : Option Addr) (cb Bb : Nat) (hB : Rd W Bb b (tbV L)) (hW : Kp No W0 W) => tables_same W L e b a cb cap Bb w.heap.size hB (hR.keep (hk0.trans_same hW) fun _ _ x => x) (by omega)
      unfold TabP at hps
      simp only at hps
      rw [← hK] at hrp hpr how hW0 c0 hps hts
      rw [← hK]
      obtain ⟨S, hS⟩ : ∃ S : ByteArray, S = ⟨(textL L e).toArray⟩ := ⟨_, rfl⟩
      rw [← hS] at hrp hpr hps
      have HPR := Lib.hid (fun a' c' W hh hc => hpr a' c' W hh hc)
      have HRP := Lib.hid hrp
      have HPS := Lib.hid hps
      have HTS := Lib.hid hts
      have HOW := Lib.hid how
      have HW := Lib.hid hW0
      have HC0 := Lib.hid c0
      have HC1 := Lib.hid c1
      clear hps hts hS
      clear hif hrp hpr how hW0 hb hk0 hR hK h c0 c1 ht
      go_enter Tryz.func3, Tryz.ntmps3
      go_wp2_with fail
      rw [← HW.out]
      refine HOW.out.mono ?_
      rintro e' w2 ⟨a', c', rfl, ho, _, hk2, hc'⟩
      have HO2 := Lib.hid ho
      have HK2 := Lib.hid hk2
      have HC2 := Lib.hid hc'
      clear ho hk2 hc' HOW
      go_wp2_with fail
      refine (HPR.out a' c' w2 HO2.out.rd' HC2.out (HT.out.keep (HK.out.trans_same HK2.out))).mono ?_
      rintro e' w3 ⟨rfl, hk3⟩
      have hk03 := HK2.out.trans_same hk3
      have d0 := HC0.out w3 hk03
      have d1 := HC1.out w3 hk03
      have HP4 := Lib.hid (HRP.out w3 hk03)
      have HK3 := Lib.hid hk03
      clear hk3 hk03
      go_wp2_with fail
      refine HP4.out.mono ?_
      rintro e' w4 ⟨rfl, hk4⟩
      have HK34 := Lib.hid (HK3.out.trans_same hk4)
      have HK4 := Lib.hid (HK.out.trans_same HK34.out)
      clear hk4 d0 d1
      go_wp2_with fail
      refine (HPS.out _).mono ?_
      rintro e' w5 ⟨⟨a5, c5, rfl, hc5, hr5⟩, hk5⟩
      obtain ⟨W6, hW6⟩ : ∃ W, W = w5.alloc (.cells #[.slice a5 K c5, .int .i64 e] 24 (0, 0)) := ⟨_, rfl⟩
      have hk6 : Kp No w5 W6 := by rw [hW6]; exact (Kp.refl _ _).alloc _
      have hk06 := HK34.out.trans_same (hk5.trans_same hk6)
      have d0 := HC0.out W6 hk06
      have d1 := HC1.out W6 hk06
      rw [hW6] at d0 d1
      have HT6 := Lib.hid (HTS.out W6 a5 c5 _ (hr5.keep hk6 fun _ _ x => x) hk06)
      have HK6 := Lib.hid (HK4.out.trans_same (hk5.trans_same hk6))
      have HW6 := Lib.hid hW6
      clear hW6 hk6 hk06 hk5 hr5 hc5
      go_wp2_with fail
      rw [← HW6.out]
      refine HT6.out.mono ?_
      rintro e' w7 ⟨rfl, hk7⟩
      have HK7 := Lib.hid (HK6.out.trans_same hk7)
      clear hk7 d0 d1
      go_wp2_with fail
      refine (known_any _).mono ?_
      rintro e' w8 ⟨rfl, hk8⟩
      have HK8 := Lib.hid (HK7.out.trans_same hk8)
      clear hk8
      go_wp2_with fail
      go_ret
      exact ⟨rfl, HK8.out⟩
end Go.Proofs.YtapikolgpmefbaaGreatDoor
