/-
  A table's text: leap's Parse.
-/
import Derived.Test.YtapikolgpmefbaaGreatDoorLParse0
import Derived.Test.YtapikolgpmefbaaGreatDoorRound
namespace Go.Proofs.YtapikolgpmefbaaGreatDoor
open Go.RowKit Go.Mer

set_option maxHeartbeats 4000000 in
theorem Parse_any (B : ByteArray) (w : World) (hB : B.size ≤ 1000000) (hok : ∀ x ∈ linesOf B.data.toList, ¬ (Lib.trimSuffix x [10]).head? = some 35 → LnOk (Lib.trimSuffix x [10])) : Calls Tryz.prog 10 #[.string B] w fun e w' => TabP (parseT B.data.toList) e w' ∧ Kp No w w' := by
  obtain ⟨r, hr⟩ : ∃ r, r = parseT B.data.toList := ⟨_, rfl⟩
  rw [← hr]
  refine calls_of_wp_mark Tryz.func10 rfl ?_
  simp only [Tryz.ntmps10, List.size_toArray, List.length_cons, List.length_nil, Nat.reduceAdd, Nat.reduceSub, Array.replicate_succ, Array.replicate_zero, List.push_toArray, List.append_toArray, List.nil_append, List.cons_append]
  unfold parseT at hr
  rcases Nat.lt_or_ge 8192 B.size with hl | hl
  · have hd : decide (8192 < B.size) = true := decide_eq_true hl
    have hd2 : decide ((8192 : Int) < (B.size : Int)) = true := by rw [decide_eq_true_iff]; omega
    have HR := Lib.hid (show r = ([], 0, 0, 5) by rw [hr, if_pos (show 8192 < B.data.toList.length from hl)])
    clear hr
    go_wp2_with fail
    refine .inl (bodyPost_ret (v := .tuple #[.agg #[.slice none 0 0, .int .i64 0], .int .i64 0, .int .i64 5]) (by simp [results, Tryz.results10, go_sem]) rfl ⟨?_, ((((Kp.refl _ _).alloc _).alloc _).alloc _)⟩)
    rw [HR.out]
    exact ⟨none, 0, rfl, Nat.le_refl _, Rd.nil _ _ _⟩
  · have hd : decide (8192 < B.size) = false := by rw [decide_eq_false_iff_not]; omega
    have hd2 : decide ((8192 : Int) < (B.size : Int)) = false := by rw [decide_eq_false_iff_not]; omega
    rw [if_neg (by show ¬ 8192 < B.size; omega)] at hr
    have HR := Lib.hid hr
    have HOK := Lib.hid hok
    have HSZ := Lib.hid hB
    clear hr hok hB hl
    go_wp2_with fail
    obtain ⟨W0, hW0⟩ : ∃ W, W = (((((w.alloc (.cells #[.slice none 0 0, .int .i64 0] 24)).alloc (.cells #[.int .i64 0] 3)).alloc (.cells #[.int .i64 0] 25)).alloc (.cells #[.slice none 0 0, .int .i64 0] 24)).alloc (.cells #[.int .i64 0] 3)).alloc (.cells #[.bool false] 4) := ⟨_, rfl⟩
    rw [← hW0]
    have hs0 : W0.heap.size = w.heap.size + 6 := by rw [hW0]; simp
    have hPI0 : PI w [] none 0 (.slice none 0 0) W0 := by
      refine ⟨?_, by simpa [tbV] using Mer.Own.nil W0 38 2, fun g h => by simp [Value.ownBlock] at h, by rw [hW0]; exact (((((((Kp.refl _ _).alloc _).alloc _).alloc _).alloc _).alloc _).alloc _)⟩
      rw [hW0]
      refine ⟨?_, ?_, ?_, ?_, ?_, ?_⟩
      · exact alloc_far (alloc_far (alloc_far (alloc_far (alloc_far (heap_alloc_new w _) _) _) _) _) _
      · exact alloc_far (alloc_far (alloc_far (alloc_far (heap_alloc_new' _ _ (by simp)) _) _) _) _
      · exact alloc_far (alloc_far (alloc_far (heap_alloc_new' _ _ (by simp)) _) _) _
      · exact alloc_far (alloc_far (heap_alloc_new' _ _ (by simp)) _) _
      · exact alloc_far (heap_alloc_new' _ _ (by simp)) _
      · exact heap_alloc_new' _ _ (by simp)
    have HP0 := Lib.hid hPI0
    have HS0 := Lib.hid hs0
    clear hW0 hs0 hPI0
    refine (Lines_any B W0).mono ?_
    rintro e w1 ⟨rfl, hw1⟩
    rw [HS0.out]
    have hb1 : w1.heap[w.heap.size + 6]? = some (.cells #[.string B] 9 (0, 0)) := by rw [hw1, ← HS0.out]; exact heap_alloc_new W0 _
    have hs1 : w1.heap.size = w.heap.size + 7 := by rw [hw1]; simp [HS0.out]
    have hP1 : PI w [] none 0 (.slice none 0 0) w1 := HP0.out.keep (by rw [hw1]; exact (Kp.refl _ _).alloc _)
    have HB1 := Lib.hid hb1
    have HS1 := Lib.hid hs1
    have HP1 := Lib.hid hP1
    clear hw1 hb1 hs1 hP1
    go_wp2_with fail
    refine wp_rangeFunc_cell2 (u := 8) HS1.out rfl (enters_of Tryz.func39 (by kernel_rfl) rfl) (Lines1_iter (w.heap.size + 6) B.data.toList HSZ.out) HB1.out
      (PIk w r (linesOf B.data.toList)) (PXx w r) ?hI ?hIx ?h0 ?assign ?body ?done ?stop
    case hI =>
      rintro k A W ⟨L, E, v, h1, h2, h3⟩ hk
      exact ⟨L, E, v, h1, h2, Lib.hid (h3.out.keep hk)⟩
    case hIx =>
      rintro A W ⟨n, c, h1, h2⟩ hk
      exact ⟨n, c, h1, Lib.hid (h2.out.keep hk)⟩
    case h0 => exact ⟨[], none, _, Lib.hid HR.out, Lib.hid ⟨by decide, fun y hy => by cases hy⟩, HP1⟩
    case assign =>
      intro l x W K hK
      have hsem := Oper.semAt_some l
      gi_wp2
      exact hK
    case body =>
      rintro l k x W hx ⟨L, E, v, HRS, HL, HPI⟩ hbW
      have hsem := Oper.semAt_some l
      rw [List.getElem?_map] at hx
      obtain ⟨ln, hln, hx⟩ := Option.map_eq_some_iff.1 hx
      have hdrop : (linesOf B.data.toList).drop k = ln :: (linesOf B.data.toList).drop (k + 1) := by
        have := List.getElem?_eq_some_iff.1 hln
        rw [← this.2]
        exact List.drop_eq_getElem_cons this.1
      have hrs := HRS.out
      rw [hdrop] at hrs
      have hkb : k < 2000000 := by
        have h1 := (List.getElem?_eq_some_iff.1 hln).1
        have h2 := linesOf_len B.data.toList
        have h3 : B.data.toList.length ≤ 1000000 := HSZ.out
        omega
      have hlok := HOK.out ln (List.mem_of_getElem? hln)
      have hlsz : ln.length ≤ 1000000 := by
        have h1 := linesOf_mem B.data.toList ln (List.mem_of_getElem? hln)
        have h3 : B.data.toList.length ≤ 1000000 := HSZ.out
        omega
      obtain ⟨X, hX⟩ : ∃ X : ByteArray, X = ⟨ln.toArray⟩ := ⟨_, rfl⟩
      have hXl : X.data.toList = ln := by rw [hX]
      obtain rfl : .string X = x := by rw [← hx, hX]; rfl
      obtain ⟨row, hrow⟩ : ∃ l, l = Lib.trimSuffix ln [10] := ⟨_, rfl⟩
      obtain ⟨R, hR⟩ : ∃ X : ByteArray, X = ⟨row.toArray⟩ := ⟨_, rfl⟩
      have hRl : R.data.toList = row := by rw [hR]
      have hts := fun W => Tryz.strings_TrimSuffix X ⟨#[10]⟩ W (Nat.le_trans (show X.size ≤ ln.length by rw [← hXl]; exact Nat.le_refl _) (by omega))
      rw [hXl, show (ByteArray.mk #[10]).data.toList = [10] from rfl, ← hrow, ← hR] at hts
      have HTS := Lib.hid hts
      have HRL := Lib.hid (And.intro hrow (And.intro hRl hrs))
      have HLOK := Lib.hid hlok
      have HKB := Lib.hid hkb
      have HLN := Lib.hid hlsz
      have HPI' := HPI.out
      obtain ⟨⟨p0, p1, p2, p3, p4, p5⟩, pO, pV, pK⟩ := HPI'
      have z4 := cell_at p4 0
      have f4 := free_at p4 0
      simp at z4
      have hwk : wrap64 ((k : Int) + 1) = ((k + 1 : Nat) : Int) := by rw [IntWalk.wrap64_in _ (by omega)]; push_cast; rfl
      have HWK := Lib.hid hwk
      have HBW := Lib.hid hbW
      clear hx hln hdrop hrs hkb hlok hlsz hX hXl hrow hR hRl hts p0 p1 p2 p3 p4 p5 pO pV pK hwk hbW
      gi_wp2_with fail
      rw [HWK.out]
      obtain ⟨Wa, hWa⟩ : ∃ Wa, Wa = W.setCell ⟨w.heap.size + 1 + 1 + 1 + 1, 0, none⟩ (.int .i64 ((k + 1 : Nat) : Int)) := ⟨_, rfl⟩
      rw [← hWa]
      have HPA := Lib.hid (show PI w L E (k + 1) v Wa by rw [hWa]; exact HPI.out.line.1)
      have HKA := Lib.hid (show Kp (SP w v) W Wa by rw [hWa]; exact HPI.out.line.2)
      clear hWa z4 f4
      refine ⟨trivial, rfl, CallsIn.mono (CallsIn.inRound l (callsIn_wide.2 (HTS.out _))) ?_⟩
      rintro e w2 ⟨rfl, rfl⟩
      rcases (show row = [] ∨ ∃ c q, row = c :: q by cases row with | nil => exact .inl rfl | cons c q => exact .inr ⟨c, q, rfl⟩) with hrow | ⟨c, q, hrow⟩
      · have hR0 : R.toList = [] := by rw [ByteArray.toList_eq, HRL.out.2.1, hrow]
        have HZ := Lib.hid (show r = linesP (k + 1) L E ((linesOf B.data.toList).drop (k + 1)) by
          rw [HRL.out.2.2, linesP_cons, rowP, ← HRL.out.1, hrow, if_pos (.inl rfl)])
        clear hrow
        gi_wp2_with fail
        exact round_ok HPI.out HKA.out HBW.out HZ.out HL.out HPA.out
      · have hR0 : ¬ R.toList = [] := by rw [ByteArray.toList_eq, HRL.out.2.1, hrow]; simp
        have hidx : ∀ W, (Instr.index 9 (.string R) (.int .i64 0)).run Tryz.prog W = .ok (.int .u8 (c.toNat : Int)) W := str_index R 0 c (by rw [HRL.out.2.1, hrow]; rfl)
        by_cases hc : c = 35
        · subst hc
          have HZ := Lib.hid (show r = linesP (k + 1) L E ((linesOf B.data.toList).drop (k + 1)) by
            rw [HRL.out.2.2, linesP_cons, rowP, ← HRL.out.1, hrow, if_pos (.inr rfl)])
          clear hrow
          gi_wp2_with fail
          exact round_ok HPI.out HKA.out HBW.out HZ.out HL.out HPA.out
        · have e7 : ¬ (c.toNat : Int) = 35 := fun h => hc (UInt8.toNat_inj.1 (show c.toNat = 35 by omega))
          have e8 : ((c.toNat : Int) == 35) = false := by rw [beq_eq_false_iff_ne]; exact e7
          have hRE : R.toList.isEmpty = false := by
            cases hd : R.toList with
            | nil => exact absurd hd hR0
            | cons x q => rfl
          have hnr : ¬ (row = [] ∨ row.head? = some 35) := by
            rw [hrow]
            rintro (h | h)
            · cases h
            · exact hc (by simpa using h)
          obtain ⟨d, o, okk, hx⟩ : ∃ d o okk, (d, o, okk) = lineF row := ⟨_, _, _, rfl⟩
          have hro : rowP L E ln = if (!okk || E.isSome) = true then .error 10 else if (decide (o < 0) && endsF L d) = true then .ok (L, some d) else if (decide (0 ≤ o) && followF L (d, o)) = true then .ok (L ++ [(d, o)], E) else .error 12 := by
            rw [rowP, ← HRL.out.1, if_neg hnr, ← hx]
          have hline := fun W => line_any R W (by
            have h1 : R.size = row.length := by rw [← HRL.out.2.1]; rfl
            have h2 : row.length ≤ ln.length := by rw [HRL.out.1]; exact trimSuffix_len _ _
            have := HLN.out
            omega) (by rw [HRL.out.2.1, HRL.out.1]; exact HLOK.out (by rw [← HRL.out.1]; exact fun h => hnr (.inr h)))
          rw [HRL.out.2.1, ← hx] at hline
          have hr2 : r = match rowP L E ln with
              | .error c => ([], 0, (k : Int) + 1, c)
              | .ok (L', E') => linesP (k + 1) L' E' ((linesOf B.data.toList).drop (k + 1)) := by
            rw [HRL.out.2.2, linesP_cons]
            cases rowP L E ln with
            | error c => rfl
            | ok p => rfl
          rw [hro] at hr2
          have HLI := Lib.hid hline
          have HR2 := Lib.hid hr2
          obtain ⟨_, a, cap, rfl, hvc, _⟩ := HPI.out.2.1
          have HVC := Lib.hid hvc
          clear hrow hc hnr hro hx hline hvc hr2
          gi_wp2_with fail
          unfold lineV at HLI
          refine ⟨trivial, rfl, CallsIn.mono (CallsIn.inRound l (callsIn_wide.2 (HLI.out _))) ?_⟩
          rintro e w3 ⟨rfl, hk3⟩
          obtain ⟨W4, hW4⟩ : ∃ W4, W4 = w3.alloc (.cells #[.int .i64 d, .int .i64 o] 38 (0, 0)) := ⟨_, rfl⟩
          have hk4 : Kp No w2 W4 := by rw [hW4]; exact hk3.alloc _
          have HP4 := Lib.hid (HPA.out.no hk4)
          have HK4 := Lib.hid (HKA.out.trans_no hk4)
          have HW4 := Lib.hid hW4
          have HLB := Lib.hid (show W4.heap[w3.heap.size]? = some (.cells #[.int .i64 d, .int .i64 o] 38 (0, 0)) by rw [hW4]; exact heap_alloc_new w3 _)
          have hp4 := HP4.out
          rw [hW4] at hp4
          have z3 := cell_at hp4.1.2.2.2.1 0
          have z4 := cell_at hp4.1.2.2.2.2.1 0
          have z5 := cell_at hp4.1.2.2.2.2.2 0
          simp at z3 z4 z5
          clear hk3 hk4 hW4 hp4
          cases okk with
          | false =>
            have HE := Lib.hid (show r = ([], 0, (k : Int) + 1, 10) by rw [HR2.out]; rfl)
            gi_wp2_with fail
            have HPq := Lib.hid (HW4.out ▸ HP4.out)
            have HKq := Lib.hid (HW4.out ▸ HK4.out)
            clear z3 z4 z5
            refine round_region_held (fun V => V.heap[w.heap.size + 1 + 1 + 1 + 1]? = some (.cells #[.int .i64 ((k + 1 : Nat) : Int)] 3 (0, 0))) [0,0,2,2,2] [0,1,2,3,4] (by kernel_rfl) (by kernel_rfl) (by kernel_rfl) (fun _ _ h => h) (HPq.out.1.2.2.2.2.1) ?_
            have z4S : ∀ V : World, V.heap[w.heap.size + 1 + 1 + 1 + 1]? = some (.cells #[.int .i64 ((k + 1 : Nat) : Int)] 3 (0, 0)) → V.cell? ⟨w.heap.size + 1 + 1 + 1 + 1, 0, none⟩ = some (.int .i64 ((k + 1 : Nat) : Int)) := fun V h => cell_at h 0
            repeat (first
              | (apply wpOrd_skip rfl (by decide) rfl; (focus (go_simp; rfl)))
              | (apply wpOrd_pure rfl rfl rfl; (focus (intro _ _; go_simp; (try go_ints); rfl)); (focus (go_simp; rfl)))
              | (apply wpOrd_read rfl rfl rfl; (focus (intro _; go_simp; (try go_ints); rfl)); (focus (go_simp; rfl))))
            refine wpOrd_name (F := GX w W (.slice a L.length cap) (k + 1) 0 0) ?_ (GX.start HPq.out HKq.out)
            intro V1 hg1
            refine wpOrd_eff rfl rfl (fun q1 => ?_)
            have HG1 := Lib.hid (hg1.drewN q1)
            have y0 := cell_at (hg1.drewN q1).1 0
            have y1 := cell_at (hg1.drewN q1).1 1
            have g0 := free_at (hg1.drewN q1).1 0
            have g1 := free_at (hg1.drewN q1).1 1
            simp at y0 y1
            clear hg1
            go_wp2_with fail
            have hg2 := HG1.out.set0
            refine ⟨hg2.2.2.2.1, ?_⟩
            clear y0 y1 g0 g1
            refine wpOrd_name (F := GX w W (.slice a L.length cap) (k + 1) 0 0) ?_ hg2
            clear hg2
            intro V2 hg2
            refine wpOrd_eff rfl rfl (fun q2 => ?_)
            have HG2 := Lib.hid (hg2.drewN q2)
            have y0 := cell_at (hg2.drewN q2).2.1 0
            have g0 := free_at (hg2.drewN q2).2.1 0
            simp at y0
            clear hg2
            go_wp2_with fail
            have hg3 := HG2.out.set1 ((k + 1 : Nat) : Int)
            refine ⟨hg3.2.2.2.1, ?_⟩
            clear y0 g0
            refine wpOrd_name (F := GX w W (.slice a L.length cap) (k + 1) ((k + 1 : Nat) : Int) 0) ?_ hg3
            clear hg3
            intro V3 hg3
            refine wpOrd_eff rfl rfl (fun q3 => ?_)
            have HG3 := Lib.hid (hg3.drewN q3)
            have y0 := cell_at (hg3.drewN q3).2.2.1 0
            have g0 := free_at (hg3.drewN q3).2.2.1 0
            simp at y0
            clear hg3
            go_wp2_with fail
            have hg4 := HG3.out.set2 10
            refine ⟨hg4.2.2.2.1, ?_⟩
            clear y0 g0 z4S
            have HG4 := Lib.hid hg4
            clear hg4
            refine wpOrd_nil (fun q4 => ?_)
            gi_wp2_with fail
            refine round_err HPI.out ((HG4.out.drewN q4).2.2.2.2.1) (n := ((k + 1 : Nat) : Int)) (c := 10) (by rw [HE.out]; push_cast; rfl) ⟨⟨(HG4.out.drewN q4).1, (HG4.out.drewN q4).2.1, (HG4.out.drewN q4).2.2.1⟩, (HG4.out.drewN q4).2.2.2.2.2⟩
          | true =>
            cases E with
            | some e0 =>
              have HE := Lib.hid (show r = ([], 0, (k : Int) + 1, 10) by rw [HR2.out]; rfl)
              rw [show (some e0).isSome = true from rfl] at z5
              gi_wp2_with fail
              have HPq := Lib.hid (HW4.out ▸ HP4.out)
              have HKq := Lib.hid (HW4.out ▸ HK4.out)
              clear z3 z4 z5
              refine round_region_held (fun V => V.heap[w.heap.size + 1 + 1 + 1 + 1]? = some (.cells #[.int .i64 ((k + 1 : Nat) : Int)] 3 (0, 0))) [0,0,2,2,2] [0,1,2,3,4] (by kernel_rfl) (by kernel_rfl) (by kernel_rfl) (fun _ _ h => h) (HPq.out.1.2.2.2.2.1) ?_
              have z4S : ∀ V : World, V.heap[w.heap.size + 1 + 1 + 1 + 1]? = some (.cells #[.int .i64 ((k + 1 : Nat) : Int)] 3 (0, 0)) → V.cell? ⟨w.heap.size + 1 + 1 + 1 + 1, 0, none⟩ = some (.int .i64 ((k + 1 : Nat) : Int)) := fun V h => cell_at h 0
              repeat (first
                | (apply wpOrd_skip rfl (by decide) rfl; (focus (go_simp; rfl)))
                | (apply wpOrd_pure rfl rfl rfl; (focus (intro _ _; go_simp; (try go_ints); rfl)); (focus (go_simp; rfl)))
                | (apply wpOrd_read rfl rfl rfl; (focus (intro _; go_simp; (try go_ints); rfl)); (focus (go_simp; rfl))))
              refine wpOrd_name (F := GX w W (.slice a L.length cap) (k + 1) 0 0) ?_ (GX.start HPq.out HKq.out)
              intro V1 hg1
              refine wpOrd_eff rfl rfl (fun q1 => ?_)
              have HG1 := Lib.hid (hg1.drewN q1)
              have y0 := cell_at (hg1.drewN q1).1 0
              have y1 := cell_at (hg1.drewN q1).1 1
              have g0 := free_at (hg1.drewN q1).1 0
              have g1 := free_at (hg1.drewN q1).1 1
              simp at y0 y1
              clear hg1
              go_wp2_with fail
              have hg2 := HG1.out.set0
              refine ⟨hg2.2.2.2.1, ?_⟩
              clear y0 y1 g0 g1
              refine wpOrd_name (F := GX w W (.slice a L.length cap) (k + 1) 0 0) ?_ hg2
              clear hg2
              intro V2 hg2
              refine wpOrd_eff rfl rfl (fun q2 => ?_)
              have HG2 := Lib.hid (hg2.drewN q2)
              have y0 := cell_at (hg2.drewN q2).2.1 0
              have g0 := free_at (hg2.drewN q2).2.1 0
              simp at y0
              clear hg2
              go_wp2_with fail
              have hg3 := HG2.out.set1 ((k + 1 : Nat) : Int)
              refine ⟨hg3.2.2.2.1, ?_⟩
              clear y0 g0
              refine wpOrd_name (F := GX w W (.slice a L.length cap) (k + 1) ((k + 1 : Nat) : Int) 0) ?_ hg3
              clear hg3
              intro V3 hg3
              refine wpOrd_eff rfl rfl (fun q3 => ?_)
              have HG3 := Lib.hid (hg3.drewN q3)
              have y0 := cell_at (hg3.drewN q3).2.2.1 0
              have g0 := free_at (hg3.drewN q3).2.2.1 0
              simp at y0
              clear hg3
              go_wp2_with fail
              have hg4 := HG3.out.set2 10
              refine ⟨hg4.2.2.2.1, ?_⟩
              clear y0 g0 z4S
              have HG4 := Lib.hid hg4
              clear hg4
              refine wpOrd_nil (fun q4 => ?_)
              gi_wp2_with fail
              refine round_err HPI.out ((HG4.out.drewN q4).2.2.2.2.1) (n := ((k + 1 : Nat) : Int)) (c := 10) (by rw [HE.out]; push_cast; rfl) ⟨⟨(HG4.out.drewN q4).1, (HG4.out.drewN q4).2.1, (HG4.out.drewN q4).2.2.1⟩, (HG4.out.drewN q4).2.2.2.2.2⟩
            | none =>
              rw [show (none : Option Int).isSome = false from rfl] at z5
              have hrd := (HW4.out ▸ HP4.out).2.1.rd'
              rcases Int.lt_or_le o 0 with ho | ho
              · have do1 : decide (o < 0) = true := decide_eq_true ho
                have do2 : decide (0 ≤ o) = false := by rw [decide_eq_false_iff_not]; omega
                have HEN := Lib.hid (ends_any L d _ a cap _ hrd (Nat.le_trans HL.out.1 (by decide)))
                clear hrd ho
                gi_wp2_with fail
                refine ⟨trivial, rfl, CallsIn.mono (CallsIn.inRound l (callsIn_wide.2 HEN.out)) ?_⟩
                rintro e w5 ⟨rfl, hk5⟩
                have HP5 := Lib.hid ((HW4.out ▸ HP4.out : PI w L none (k + 1) (.slice a L.length cap) _).no hk5)
                have HK5 := Lib.hid ((HW4.out ▸ HK4.out : Kp (SP w (.slice a L.length cap)) W _).trans_no hk5)
                clear hk5 z3 z4 z5
                cases hen : endsF L d with
                | true =>
                  have HZ := Lib.hid (show r = linesP (k + 1) L (some d) ((linesOf B.data.toList).drop (k + 1)) by rw [HR2.out, do1, hen]; rfl)
                  have x3 := cell_at HP5.out.1.2.2.2.1 1
                  have x5 := cell_at HP5.out.1.2.2.2.2.2 0
                  have f3 := free_at HP5.out.1.2.2.2.1 1
                  have f5 := free_at HP5.out.1.2.2.2.2.2 0
                  simp at x3 x5
                  clear hen
                  gi_wp2_with fail
                  exact round_ok HPI.out (HK5.out.trans_same (HP5.out.ended d).2) HBW.out HZ.out HL.out (HP5.out.ended d).1
                | false =>
                  have HE := Lib.hid (show r = ([], 0, (k : Int) + 1, 12) by rw [HR2.out, do1, do2, hen]; rfl)
                  clear hen
                  have x3 := cell_at HP5.out.1.2.2.2.1 0
                  simp at x3
                  gi_wp2_with fail
                  refine ⟨trivial, ?_⟩
                  gi_wp2_with fail
                  clear x3
                  refine round_region_held (fun V => V.heap[w.heap.size + 1 + 1 + 1 + 1]? = some (.cells #[.int .i64 ((k + 1 : Nat) : Int)] 3 (0, 0))) [0,0,2,2,2] [0,1,2,3,4] (by kernel_rfl) (by kernel_rfl) (by kernel_rfl) (fun _ _ h => h) (HP5.out.1.2.2.2.2.1) ?_
                  have z4S : ∀ V : World, V.heap[w.heap.size + 1 + 1 + 1 + 1]? = some (.cells #[.int .i64 ((k + 1 : Nat) : Int)] 3 (0, 0)) → V.cell? ⟨w.heap.size + 1 + 1 + 1 + 1, 0, none⟩ = some (.int .i64 ((k + 1 : Nat) : Int)) := fun V h => cell_at h 0
                  repeat (first
                    | (apply wpOrd_skip rfl (by decide) rfl; (focus (go_simp; rfl)))
                    | (apply wpOrd_pure rfl rfl rfl; (focus (intro _ _; go_simp; (try go_ints); rfl)); (focus (go_simp; rfl)))
                    | (apply wpOrd_read rfl rfl rfl; (focus (intro _; go_simp; (try go_ints); rfl)); (focus (go_simp; rfl))))
                  refine wpOrd_name (F := GX w W (.slice a L.length cap) (k + 1) 0 0) ?_ (GX.start HP5.out HK5.out)
                  intro V1 hg1
                  refine wpOrd_eff rfl rfl (fun q1 => ?_)
                  have HG1 := Lib.hid (hg1.drewN q1)
                  have y0 := cell_at (hg1.drewN q1).1 0
                  have y1 := cell_at (hg1.drewN q1).1 1
                  have g0 := free_at (hg1.drewN q1).1 0
                  have g1 := free_at (hg1.drewN q1).1 1
                  simp at y0 y1
                  clear hg1
                  go_wp2_with fail
                  have hg2 := HG1.out.set0
                  refine ⟨hg2.2.2.2.1, ?_⟩
                  clear y0 y1 g0 g1
                  refine wpOrd_name (F := GX w W (.slice a L.length cap) (k + 1) 0 0) ?_ hg2
                  clear hg2
                  intro V2 hg2
                  refine wpOrd_eff rfl rfl (fun q2 => ?_)
                  have HG2 := Lib.hid (hg2.drewN q2)
                  have y0 := cell_at (hg2.drewN q2).2.1 0
                  have g0 := free_at (hg2.drewN q2).2.1 0
                  simp at y0
                  clear hg2
                  go_wp2_with fail
                  have hg3 := HG2.out.set1 ((k + 1 : Nat) : Int)
                  refine ⟨hg3.2.2.2.1, ?_⟩
                  clear y0 g0
                  refine wpOrd_name (F := GX w W (.slice a L.length cap) (k + 1) ((k + 1 : Nat) : Int) 0) ?_ hg3
                  clear hg3
                  intro V3 hg3
                  refine wpOrd_eff rfl rfl (fun q3 => ?_)
                  have HG3 := Lib.hid (hg3.drewN q3)
                  have y0 := cell_at (hg3.drewN q3).2.2.1 0
                  have g0 := free_at (hg3.drewN q3).2.2.1 0
                  simp at y0
                  clear hg3
                  go_wp2_with fail
                  have hg4 := HG3.out.set2 12
                  refine ⟨hg4.2.2.2.1, ?_⟩
                  clear y0 g0 z4S
                  have HG4 := Lib.hid hg4
                  clear hg4
                  refine wpOrd_nil (fun q4 => ?_)
                  gi_wp2_with fail
                  refine round_err HPI.out ((HG4.out.drewN q4).2.2.2.2.1) (n := ((k + 1 : Nat) : Int)) (c := 12) (by rw [HE.out]; push_cast; rfl) ⟨⟨(HG4.out.drewN q4).1, (HG4.out.drewN q4).2.1, (HG4.out.drewN q4).2.2.1⟩, (HG4.out.drewN q4).2.2.2.2.2⟩
              · have do1 : decide (o < 0) = false := by rw [decide_eq_false_iff_not]; omega
                have do2 : decide (0 ≤ o) = true := decide_eq_true ho
                clear ho
                have l0 := cell_at HLB.out 0
                have l1 := cell_at HLB.out 1
                rw [HW4.out] at l0 l1
                simp at l0 l1
                have HFO := Lib.hid (follows_any L (d, o) _ a cap _ hrd (Nat.le_trans HL.out.1 (by decide)) HL.out.2)
                gi_wp2_with fail
                refine ⟨trivial, ?_⟩
                gi_wp2_with fail
                refine ⟨trivial, rfl, CallsIn.mono (CallsIn.inRound l (callsIn_wide.2 HFO.out)) ?_⟩
                rintro e w5 ⟨rfl, hk5⟩
                have HP5 := Lib.hid ((HW4.out ▸ HP4.out : PI w L none (k + 1) (.slice a L.length cap) _).no hk5)
                have HK5 := Lib.hid ((HW4.out ▸ HK4.out : Kp (SP w (.slice a L.length cap)) W _).trans_no hk5)
                have HLB5 := Lib.hid (hk5.get (HW4.out ▸ HLB.out) fun x => x)
                clear hk5 z3 z4 z5 l0 l1 hrd
                cases hfo : followF L (d, o) with
                | true =>
                  have HZ := Lib.hid (show r = linesP (k + 1) (L ++ [(d, o)]) none ((linesOf B.data.toList).drop (k + 1)) by rw [HR2.out, do1, do2, hfo]; rfl)
                  have HFF := Lib.hid (followF_off hfo)
                  have x3 := cell_at HP5.out.1.2.2.2.1 0
                  have f3 := free_at HP5.out.1.2.2.2.1 0
                  have l0 := cell_at HLB5.out 0
                  have l1 := cell_at HLB5.out 1
                  simp at x3 l0 l1
                  have hs5 : w.heap.size + 7 ≤ w5.heap.size := by have h1 := get_lt HBW.out; have h2 := HK5.out.size; omega
                  obtain ⟨W6, hW6⟩ : ∃ W6, W6 = w5.alloc (.cells #[.int .i64 d, .int .i64 o] 38 (0, 0)) := ⟨_, rfl⟩
                  have hk6 : Kp No w5 W6 := by rw [hW6]; exact (Kp.refl _ _).alloc _
                  have HP6 := Lib.hid (HP5.out.no hk6)
                  have HK6 := Lib.hid (HK5.out.trans_no hk6)
                  have HS6 := Lib.hid (Nat.le_trans hs5 hk6.size)
                  obtain ⟨a', c', W7, hrun, hown, hkp, hblk⟩ := leap_app (P := Tryz.prog) (T := 22) (bytes := 16) Tryz.underlying22 (by kernel_rfl) (by decide) HP6.out.2.1 (by have := HL.out.1; omega) (show W6.heap[w5.heap.size]? = some (.cells #[.int .i64 (d, o).1, .int .i64 (d, o).2] 38 (0, 0)) by rw [hW6]; exact heap_alloc_new w5 _)
                  have HPM := Lib.hid (HP6.out.more hkp hown hblk HS6.out)
                  have HP7 := Lib.hid (show W7.heap[w.heap.size + 1 + 1 + 1]? = some (.cells #[.slice a L.length cap, .int .i64 0] 24 (0, 0)) from hkp.get HP6.out.1.2.2.2.1 (fun h => by have := HP6.out.2.2.1 _ h; omega))
                  have y3 := cell_at HP7.out 0
                  have g3 := free_at HP7.out 0
                  simp at y3
                  rw [hW6] at hrun
                  have HRUN := Lib.hid hrun
                  clear hfo hW6 hk6 hrun hown hkp hblk hs5
                  gi_wp2_with (gi_at_builtin; refine wpListIn_append_run rfl rfl rfl rfl HRUN.out ?_; clear HRUN)
                  exact round_ok HPI.out (HK6.out.trans_same HPM.out.2) HBW.out HZ.out ⟨by have := HFF.out.2.2.2; rw [List.length_append]; simp; omega, fun y hy => by
                    rw [List.getLast?_append] at hy
                    simp at hy
                    subst hy
                    exact ⟨HFF.out.2.1, HFF.out.2.2.1⟩⟩ HPM.out.1
                | false =>
                  have HE := Lib.hid (show r = ([], 0, (k : Int) + 1, 12) by rw [HR2.out, do1, do2, hfo]; rfl)
                  clear hfo
                  gi_wp2_with fail
                  refine round_region_held (fun V => V.heap[w.heap.size + 1 + 1 + 1 + 1]? = some (.cells #[.int .i64 ((k + 1 : Nat) : Int)] 3 (0, 0))) [0,0,2,2,2] [0,1,2,3,4] (by kernel_rfl) (by kernel_rfl) (by kernel_rfl) (fun _ _ h => h) (HP5.out.1.2.2.2.2.1) ?_
                  have z4S : ∀ V : World, V.heap[w.heap.size + 1 + 1 + 1 + 1]? = some (.cells #[.int .i64 ((k + 1 : Nat) : Int)] 3 (0, 0)) → V.cell? ⟨w.heap.size + 1 + 1 + 1 + 1, 0, none⟩ = some (.int .i64 ((k + 1 : Nat) : Int)) := fun V h => cell_at h 0
                  repeat (first
                    | (apply wpOrd_skip rfl (by decide) rfl; (focus (go_simp; rfl)))
                    | (apply wpOrd_pure rfl rfl rfl; (focus (intro _ _; go_simp; (try go_ints); rfl)); (focus (go_simp; rfl)))
                    | (apply wpOrd_read rfl rfl rfl; (focus (intro _; go_simp; (try go_ints); rfl)); (focus (go_simp; rfl))))
                  refine wpOrd_name (F := GX w W (.slice a L.length cap) (k + 1) 0 0) ?_ (GX.start HP5.out HK5.out)
                  intro V1 hg1
                  refine wpOrd_eff rfl rfl (fun q1 => ?_)
                  have HG1 := Lib.hid (hg1.drewN q1)
                  have y0 := cell_at (hg1.drewN q1).1 0
                  have y1 := cell_at (hg1.drewN q1).1 1
                  have g0 := free_at (hg1.drewN q1).1 0
                  have g1 := free_at (hg1.drewN q1).1 1
                  simp at y0 y1
                  clear hg1
                  go_wp2_with fail
                  have hg2 := HG1.out.set0
                  refine ⟨hg2.2.2.2.1, ?_⟩
                  clear y0 y1 g0 g1
                  refine wpOrd_name (F := GX w W (.slice a L.length cap) (k + 1) 0 0) ?_ hg2
                  clear hg2
                  intro V2 hg2
                  refine wpOrd_eff rfl rfl (fun q2 => ?_)
                  have HG2 := Lib.hid (hg2.drewN q2)
                  have y0 := cell_at (hg2.drewN q2).2.1 0
                  have g0 := free_at (hg2.drewN q2).2.1 0
                  simp at y0
                  clear hg2
                  go_wp2_with fail
                  have hg3 := HG2.out.set1 ((k + 1 : Nat) : Int)
                  refine ⟨hg3.2.2.2.1, ?_⟩
                  clear y0 g0
                  refine wpOrd_name (F := GX w W (.slice a L.length cap) (k + 1) ((k + 1 : Nat) : Int) 0) ?_ hg3
                  clear hg3
                  intro V3 hg3
                  refine wpOrd_eff rfl rfl (fun q3 => ?_)
                  have HG3 := Lib.hid (hg3.drewN q3)
                  have y0 := cell_at (hg3.drewN q3).2.2.1 0
                  have g0 := free_at (hg3.drewN q3).2.2.1 0
                  simp at y0
                  clear hg3
                  go_wp2_with fail
                  have hg4 := HG3.out.set2 12
                  refine ⟨hg4.2.2.2.1, ?_⟩
                  clear y0 g0 z4S
                  have HG4 := Lib.hid hg4
                  clear hg4
                  refine wpOrd_nil (fun q4 => ?_)
                  gi_wp2_with fail
                  refine round_err HPI.out ((HG4.out.drewN q4).2.2.2.2.1) (n := ((k + 1 : Nat) : Int)) (c := 12) (by rw [HE.out]; push_cast; rfl) ⟨⟨(HG4.out.drewN q4).1, (HG4.out.drewN q4).2.1, (HG4.out.drewN q4).2.2.1⟩, (HG4.out.drewN q4).2.2.2.2.2⟩
    case done =>
      rintro D W ⟨L, E, v, HRS, HL, HPI⟩ hBD hD
      have HBD := Lib.hid hBD
      have HD := Lib.hid hD
      have hdr : (linesOf B.data.toList).drop ((linesOf B.data.toList).map strV).length = [] := by rw [List.length_map]; exact List.drop_length
      have hrs := HRS.out
      rw [hdr] at hrs
      obtain ⟨k, hk⟩ : ∃ k, k = ((linesOf B.data.toList).map strV).length := ⟨_, rfl⟩
      have hkb : k ≤ 1000000 := by
        rw [hk, List.length_map]
        exact Nat.le_trans (linesOf_len _) HSZ.out
      rw [← hk] at hrs HPI
      have HRS2 := Lib.hid hrs
      have HKB := Lib.hid hkb
      have x5 := cell_at HPI.out.1.2.2.2.2.2 0
      simp at x5
      clear hBD hD hdr hrs hk hkb HRS
      cases E with
      | none =>
        rw [show (none : Option Int).isSome = false from rfl] at x5
        have hwk : wrap64 ((k : Int) + 1) = ((k + 1 : Nat) : Int) := by rw [IntWalk.wrap64_in _ (by have := HKB.out; omega)]; push_cast; rfl
        have HWK := Lib.hid hwk
        clear hwk
        go_wp2_with fail
        refine wp_region_held' (fun V => V.heap[w.heap.size + 1 + 1 + 1 + 1]? = some (.cells #[.int .i64 (k : Int)] 3 (0, 0))) [0,0,0,2,2,2] [0,1,2,3,4,5] (by kernel_rfl) (by kernel_rfl) (fun _ _ h => h) (HPI.out.1.2.2.2.2.1) ?_
        have z4S : ∀ V : World, V.heap[w.heap.size + 1 + 1 + 1 + 1]? = some (.cells #[.int .i64 (k : Int)] 3 (0, 0)) → V.cell? ⟨w.heap.size + 1 + 1 + 1 + 1, 0, none⟩ = some (.int .i64 (k : Int)) := fun V h => cell_at h 0
        clear x5
        repeat (first
          | (apply wpOrd_skip rfl (by decide) rfl; (focus (go_simp; rfl)))
          | (apply wpOrd_pure rfl rfl rfl; (focus (intro _ _; go_simp; (try go_ints); rfl)); (focus (go_simp; rfl)))
          | (apply wpOrd_read rfl rfl rfl; (focus (intro _; go_simp; (try go_ints); rfl)); (focus (go_simp; rfl))))
        rw [HWK.out]
        refine wpOrd_name (F := GX w W v k 0 0) ?_ (GX.start HPI.out (Kp.refl _ _))
        intro V1 hg1
        refine wpOrd_eff rfl rfl (fun q1 => ?_)
        have HG1 := Lib.hid (hg1.drewN q1)
        have y0 := cell_at (hg1.drewN q1).1 0
        have y1 := cell_at (hg1.drewN q1).1 1
        have g0 := free_at (hg1.drewN q1).1 0
        have g1 := free_at (hg1.drewN q1).1 1
        simp at y0 y1
        clear hg1
        go_wp2_with fail
        have hg2 := HG1.out.set0
        refine ⟨hg2.2.2.2.1, ?_⟩
        clear y0 y1 g0 g1
        refine wpOrd_name (F := GX w W v k 0 0) ?_ hg2
        clear hg2
        intro V2 hg2
        refine wpOrd_eff rfl rfl (fun q2 => ?_)
        have HG2 := Lib.hid (hg2.drewN q2)
        have y0 := cell_at (hg2.drewN q2).2.1 0
        have g0 := free_at (hg2.drewN q2).2.1 0
        simp at y0
        clear hg2
        go_wp2_with fail
        have hg3 := HG2.out.set1 ((k + 1 : Nat) : Int)
        refine ⟨hg3.2.2.2.1, ?_⟩
        clear y0 g0
        refine wpOrd_name (F := GX w W v k ((k + 1 : Nat) : Int) 0) ?_ hg3
        clear hg3
        intro V3 hg3
        refine wpOrd_eff rfl rfl (fun q3 => ?_)
        have HG3 := Lib.hid (hg3.drewN q3)
        have y0 := cell_at (hg3.drewN q3).2.2.1 0
        have g0 := free_at (hg3.drewN q3).2.2.1 0
        simp at y0
        clear hg3
        go_wp2_with fail
        have hg4 := HG3.out.set2 2
        refine ⟨hg4.2.2.2.1, ?_⟩
        clear y0 g0 z4S
        have HG4 := Lib.hid hg4
        clear hg4
        refine wpOrd_nil (fun q4 => ?_)
        obtain ⟨Wf, hWf⟩ : ∃ Wf, Wf = ((V3.drewN q3).setCell ⟨w.heap.size + 1 + 1, 0, none⟩ (.int .i64 2)).drewN q4 := ⟨_, rfl⟩
        have HG5 := Lib.hid (hWf ▸ HG4.out.drewN q4)
        rw [← hWf]
        clear hWf HG4 HG3 HG2 HG1
        have HDF := Lib.hid (HG5.out.2.2.2.2.1.get HD.out (fun hs => by
          obtain ⟨cs, t, f, hc⟩ := HPI.out.cells D hs
          rw [HD.out] at hc
          cases hc))
        have HE := Lib.hid (show r = ([], 0, ((k + 1 : Nat) : Int), 2) by rw [HRS2.out]; show ([], 0, (k : Int) + 1, 2) = _; push_cast; rfl)
        go_wp2_with fail
        obtain ⟨Wd, hWd⟩ : ∃ Wd, Wd = Wf.putObj D (.deferred none) := ⟨_, rfl⟩
        have hbd := HBD.out
        have g0 : Wd.heap[w.heap.size]? = _ := hWd ▸ (World.putObj_heap_other (by omega)).trans (HG5.out.1)
        have g1 : Wd.heap[w.heap.size + 1]? = _ := hWd ▸ (World.putObj_heap_other (by omega)).trans (HG5.out.2.1)
        have g2 : Wd.heap[w.heap.size + 1 + 1]? = _ := hWd ▸ (World.putObj_heap_other (by omega)).trans (HG5.out.2.2.1)
        have y0 := cell_at g0 0
        have y1 := cell_at g0 1
        have y2 := cell_at g1 0
        have y3 := cell_at g2 0
        simp at y0 y1 y2 y3
        have hk1 : Kp (Mer.One D) Wf Wd := by rw [hWd]; exact ⟨rfl, rfl, rfl, by simp, fun i _ hn => World.putObj_heap_other hn⟩
        have hkd : Kp No w Wd := by
          refine Kp.trans (HG5.out.2.2.2.2.2) hk1 fun i hi he => ?_
          rw [show i = D from he] at hi
          omega
        show bodyPostR _ _ _ Exit.ret _ Wf
        refine .inr ⟨D, rfl, HDF.out, ?_⟩
        rw [← hWd]
        refine bodyPost_ret (v := .tuple #[.agg #[.slice none 0 0, .int .i64 0], .int .i64 ((k + 1 : Nat) : Int), .int .i64 2]) (by simp [results, Tryz.results10, go_sem, y0, y1, y2, y3]) rfl ⟨?_, hkd⟩
        rw [HE.out]
        exact ⟨none, 0, rfl, Nat.le_refl _, Rd.nil _ _ _⟩
      | some e0 =>
        rw [show (some e0).isSome = true from rfl] at x5
        obtain ⟨_, a, cap, rfl, hvc, _⟩ := HPI.out.2.1
        have x3 := cell_at HPI.out.1.2.2.2.1 0
        have x4 := cell_at HPI.out.1.2.2.2.1 1
        rw [show (some e0).getD 0 = e0 from rfl] at x4
        have y0 := cell_at HPI.out.1.1 0
        have y1 := cell_at HPI.out.1.1 1
        have y2 := cell_at HPI.out.1.2.1 0
        have y3 := cell_at HPI.out.1.2.2.1 0
        have f0 := free_at HPI.out.1.1 0
        have f1 := free_at HPI.out.1.1 1
        have f2 := free_at HPI.out.1.2.1 0
        have f3 := free_at HPI.out.1.2.2.1 0
        simp at x3 x4 y0 y1 y2 y3
        have HVC := Lib.hid hvc
        clear hvc
        go_wp2_with fail
        obtain ⟨Wf, hWf⟩ : ∃ Wf, Wf = (((W.setCell ⟨w.heap.size, 0, none⟩ (.slice a L.length cap)).setCell ⟨w.heap.size, 1, none⟩ (.int .i64 e0)).setCell ⟨w.heap.size + 1, 0, none⟩ (.int .i64 0)).setCell ⟨w.heap.size + 1 + 1, 0, none⟩ (.int .i64 0) := ⟨_, rfl⟩
        rw [← hWf]
        have hkf : Kp (fun g => g = w.heap.size ∨ g = w.heap.size + 1 ∨ g = w.heap.size + 1 + 1) W Wf := by
          rw [hWf]
          exact ((((Kp.refl (fun g => g = w.heap.size ∨ g = w.heap.size + 1 ∨ g = w.heap.size + 1 + 1) W).setCell (p := ⟨w.heap.size, 0, none⟩) (.inl (.inl rfl)) _).setCell (p := ⟨w.heap.size, 1, none⟩) (.inl (.inl rfl)) _).setCell (p := ⟨w.heap.size + 1, 0, none⟩) (.inl (.inr (.inl rfl))) _).setCell (p := ⟨w.heap.size + 1 + 1, 0, none⟩) (.inl (.inr (.inr rfl))) _
        have hbd0 := HBD.out
        have HDF := Lib.hid (hkf.get HD.out (by rintro (h | h | h) <;> omega))
        have q0 : Wf.heap[w.heap.size]? = some (.cells #[.slice a L.length cap, .int .i64 e0] 24 (0, 0)) := by
          rw [hWf]
          exact set_far (set_far (set_at (set_at HPI.out.1.1 0 _) 1 _) (by show _ ≠ w.heap.size + 1; omega) _) (by show _ ≠ w.heap.size + 1 + 1; omega) _
        have q1 : Wf.heap[w.heap.size + 1]? = some (.cells #[.int .i64 0] 3 (0, 0)) := by
          rw [hWf]
          exact set_far (set_at (set_far (set_far HPI.out.1.2.1 (by show _ ≠ w.heap.size; omega) _) (by show _ ≠ w.heap.size; omega) _) 0 _) (by show _ ≠ w.heap.size + 1 + 1; omega) _
        have q2 : Wf.heap[w.heap.size + 1 + 1]? = some (.cells #[.int .i64 0] 25 (0, 0)) := by
          rw [hWf]
          exact set_at (set_far (set_far (set_far HPI.out.1.2.2.1 (by show _ ≠ w.heap.size; omega) _) (by show _ ≠ w.heap.size; omega) _) (by show _ ≠ w.heap.size + 1; omega) _) 0 _
        have hkw : Kp No w Wf := HPI.out.2.2.2.trans hkf fun i hi h => by rcases h with h | h | h <;> omega
        have HO := Lib.hid (HPI.out.2.1.keep hkf (fun g hg h => by have := HPI.out.2.2.1 g hg; rcases h with h | h | h <;> omega))
        have HE := Lib.hid (show r = (L, e0, 0, 0) by rw [HRS2.out]; rfl)
        have HV6 := Lib.hid (fun g hg => HPI.out.2.2.1 g hg)
        clear hWf
        obtain ⟨Wd, hWd⟩ : ∃ Wd, Wd = Wf.putObj D (.deferred none) := ⟨_, rfl⟩
        have hbd := HBD.out
        have g0 : Wd.heap[w.heap.size]? = _ := hWd ▸ (World.putObj_heap_other (by omega)).trans (q0)
        have g1 : Wd.heap[w.heap.size + 1]? = _ := hWd ▸ (World.putObj_heap_other (by omega)).trans (q1)
        have g2 : Wd.heap[w.heap.size + 1 + 1]? = _ := hWd ▸ (World.putObj_heap_other (by omega)).trans (q2)
        have y0 := cell_at g0 0
        have y1 := cell_at g0 1
        have y2 := cell_at g1 0
        have y3 := cell_at g2 0
        simp at y0 y1 y2 y3
        have hk1 : Kp (Mer.One D) Wf Wd := by rw [hWd]; exact ⟨rfl, rfl, rfl, by simp, fun i _ hn => World.putObj_heap_other hn⟩
        have hkd : Kp No w Wd := by
          refine Kp.trans (hkw) hk1 fun i hi he => ?_
          rw [show i = D from he] at hi
          omega
        show bodyPostR _ _ _ Exit.ret _ Wf
        refine .inr ⟨D, rfl, HDF.out, ?_⟩
        rw [← hWd]
        refine bodyPost_ret (v := .tuple #[.agg #[.slice a L.length cap, .int .i64 e0], .int .i64 0, .int .i64 0]) (by simp [results, Tryz.results10, go_sem, y0, y1, y2, y3]) rfl ⟨?_, hkd⟩
        rw [HE.out]
        refine ⟨a, cap, rfl, HVC.out, ?_⟩
        have ho2 : Mer.Own Wd 38 2 (.slice a L.length cap) L.length (tbV L) := HO.out.keep hk1 (fun g hg (h : g = D) => by
          obtain ⟨cur, hc⟩ := HO.out.type g hg
          rw [h, HDF.out] at hc
          cases hc)
        exact ho2.rd'
    case stop =>
      rintro D W ⟨n, c, HRS, HPX⟩ hBD hD
      obtain ⟨Wd, hWd⟩ : ∃ Wd, Wd = W.putObj D (.deferred none) := ⟨_, rfl⟩
      have g0 : Wd.heap[w.heap.size]? = _ := hWd ▸ (World.putObj_heap_other (by omega)).trans HPX.out.1.1
      have g1 : Wd.heap[w.heap.size + 1]? = _ := hWd ▸ (World.putObj_heap_other (by omega)).trans HPX.out.1.2.1
      have g2 : Wd.heap[w.heap.size + 1 + 1]? = _ := hWd ▸ (World.putObj_heap_other (by omega)).trans HPX.out.1.2.2
      have y0 := cell_at g0 0
      have y1 := cell_at g0 1
      have y2 := cell_at g1 0
      have y3 := cell_at g2 0
      simp at y0 y1 y2 y3
      have hkd : Kp No w Wd := by
        rw [hWd]
        refine HPX.out.2.trans (T := Mer.One D) ⟨rfl, rfl, rfl, by simp, fun i _ hn => World.putObj_heap_other hn⟩ fun i hi he => ?_
        rw [show i = D from he] at hi
        omega
      show bodyPostR _ _ _ Exit.ret _ W
      refine .inr ⟨D, rfl, hD, ?_⟩
      rw [← hWd]
      refine bodyPost_ret (v := .tuple #[.agg #[.slice none 0 0, .int .i64 0], .int .i64 n, .int .i64 c]) (by simp [results, Tryz.results10, go_sem, y0, y1, y2, y3]) rfl ⟨?_, hkd⟩
      rw [HRS.out]
      exact ⟨none, 0, rfl, Nat.le_refl _, Rd.nil _ _ _⟩
end Go.Proofs.YtapikolgpmefbaaGreatDoor
