/-
  A copy of one's own of a table that is handed in: the law's own.
-/
import Derived.Test.YtapikolgpmefbaaGreatDoorLOf
namespace Go.Proofs.YtapikolgpmefbaaGreatDoor
open Go.RowKit Go.Mer

/-- All rows, behind none: in a slice of one's own. -/
theorem copy_run0 (V : World) (g0 : Nat) (hown : Mer.Own V 38 2 (.slice (some ⟨g0, 0, none⟩) 0 0) 0 []) (L : List (Int × Int)) (a : Option Addr) (cap B : Nat) (hR : Rd V B a (tbV L)) (hl : L.length ≤ 1000000) :
    ∃ a' c' w', (Builtin.append_ #[22, 22] 22 #[.slice (some ⟨g0, 0, none⟩) 0 0, .slice a L.length cap]).run Tryz.prog V = .ok (.slice a' L.length c') w' ∧
      Mer.Own w' 38 2 (.slice a' L.length c') L.length (tbV L) ∧ (∀ g, (Value.slice a' L.length c').ownBlock = some g → g = g0 ∨ V.heap.size ≤ g) ∧ Kp (Mer.One g0) V w' ∧ L.length ≤ c' ∧ a' ≠ none := by
  have hE : (Tryz.prog.info? 38).map (fun i => ((i.zero.map fun z => z.cells.size), i.size, i.bytes)) = some (some 2, 2, 16) := by kernel_rfl
  obtain ⟨i0, hi, hz⟩ := Option.map_eq_some_iff.1 hE
  injection hz with hz0 hz
  injection hz with hz1 hz2
  obtain ⟨z, hz, hz3⟩ := Option.map_eq_some_iff.1 hz0
  have hsrc : Src V 2 (.slice a L.length cap) L.length (tbV L) := ⟨by rw [tbV_length]; omega, a, cap, rfl, fun hx => by
    obtain ⟨g, off, h1, h2, h3, h4⟩ := hR hx
    exact ⟨g, off, h1, Nat.lt_of_lt_of_le h2 h3, Nat.le_refl _, h4⟩⟩
  obtain ⟨v', w', hrun, ho, hkp, hblk⟩ := run_append_Own (P := Tryz.prog) 22 22 22 38 i0 z 2 16 Tryz.underlying22 ⟨_, Tryz.underlying22⟩ hi hz hz1 hz2 hz3 _ 0 [] hown _ L.length _ hsrc
    (fun u hu => tbV_one L u hu) (by unfold maxLen; omega) (by omega)
  rw [Nat.zero_add, List.nil_append] at ho
  obtain ⟨_, a', c', rfl, hc, _, hn, _⟩ := id ho
  refine ⟨a', c', w', by rw [hrun], ho, fun g hg => ?_, hkp.mono fun i hi hs => ?_, hc, ?_⟩
  · rcases hblk with hb | ⟨g2, hb, hb2⟩
    · rw [hb] at hg
      have hg : g0 = g := by simpa [Value.ownBlock] using hg
      exact .inl hg.symm
    · rw [hb] at hg
      injection hg with hg
      exact .inr (by omega)
  · have hs : g0 = i := by simpa [Value.ownBlock] using hs
    exact hs.symm
  · intro h
    subst h
    rcases hblk with hb | ⟨g2, hb, hb2⟩
    · simp [Value.ownBlock] at hb
    · simp [Value.ownBlock] at hb
set_option maxRecDepth 20000 in
set_option maxHeartbeats 1000000 in
theorem own_any (w : World) (L : List (Int × Int)) (n : Int) (a : Option Addr) (cap B : Nat) (hR : Rd w B a (tbV L)) (hl : L.length ≤ 1000000) :
    Calls Tryz.prog 7 #[.agg #[.slice a L.length cap, .int .i64 n]] w fun e' w' => ∃ a' c', e' = .returned (.agg #[.slice a' L.length c', .int .i64 n]) ∧ Mer.Own w' 38 2 (.slice a' L.length c') L.length (tbV L) ∧ (∀ g, (Value.slice a' L.length c').ownBlock = some g → w.heap.size ≤ g) ∧ Kp No w w' ∧ L.length ≤ c' := by
  obtain ⟨K, hK⟩ : ∃ K, K = L.length := ⟨_, rfl⟩
  rw [← hK]
  obtain ⟨W0, hW0⟩ : ∃ W0, W0 = (w.alloc (.cells #[.slice a K cap, .int .i64 n] 24 (0, 0))).alloc (.cells #[.slice none 0 0, .int .i64 0] 24 (0, 0)) := ⟨_, rfl⟩
  have hb1 : W0.heap[w.heap.size]? = some (.cells #[.slice a K cap, .int .i64 n] 24 (0, 0)) := by rw [hW0]; exact alloc_far (heap_alloc_new w _) _
  have hb2 : W0.heap[w.heap.size + 1]? = some (.cells #[.slice none 0 0, .int .i64 0] 24 (0, 0)) := by
    rw [hW0]
    have := heap_alloc_new (w.alloc (.cells #[.slice a K cap, .int .i64 n] 24 (0, 0))) (.cells #[.slice none 0 0, .int .i64 0] 24 (0, 0))
    rwa [World.size_alloc] at this
  have hk0 : Kp No w W0 := by rw [hW0]; exact ((Kp.refl _ _).alloc _).alloc _
  have hs0 : W0.heap.size = w.heap.size + 1 + 1 := by rw [hW0]; simp
  have hR0 : Rd W0 B a (tbV L) := hR.keep hk0 fun _ _ x => x
  have c0 : ∀ W, Kp (Mer.One (w.heap.size + 1)) W0 W → W.cell? ⟨w.heap.size, 0, none⟩ = some (.slice a K cap) := fun W h => by
    rw [cell_at (h.get hb1 fun hx => by have hx : w.heap.size = w.heap.size + 1 := hx; omega)]; rfl
  have c1 : ∀ W, Kp (Mer.One (w.heap.size + 1)) W0 W → W.cell? ⟨w.heap.size, 1, none⟩ = some (.int .i64 n) := fun W h => by
    rw [cell_at (h.get hb1 fun hx => by have hx : w.heap.size = w.heap.size + 1 := hx; omega)]; rfl
  have HK0 := Lib.hid hk0
  have HS0 := Lib.hid hs0
  have HB2 := Lib.hid hb2
  have HR0 := Lib.hid hR0
  have HW := Lib.hid hW0
  have HKL := Lib.hid hK
  have HLN := Lib.hid hl
  clear hb1 hb2 hk0 hs0 hR0 hR hW0 hK hl
  go_enter Tryz.func7, Tryz.ntmps7
  go_wp2_with fail
  rw [← HW.out]
  refine wp_region_held' (Kp (Mer.One (w.heap.size + 1)) W0) [2,0,0,2,0,0,0,2] [1,2,4,5,0,3,6,7] (by kernel_rfl) (by kernel_rfl) (fun _ n h => h.drewN n) (Kp.refl _ _) ?_
  repeat (first
    | (apply wpOrd_skip rfl (by decide) rfl; (focus (go_simp; rfl)))
    | (apply wpOrd_pure rfl rfl rfl; (focus (intro _ _; go_simp; (try go_ints); rfl)); (focus (go_simp; rfl)))
    | (apply wpOrd_read rfl rfl rfl; (focus (intro _; go_simp; (try go_ints); rfl)); (focus (go_simp; rfl))))
  refine wpOrd_eff rfl rfl (fun q => ?_)
  go_wp2_with fail
  refine ⟨((Kp.refl _ _).drewN q).alloc _, ?_⟩
  repeat (first
    | (apply wpOrd_skip rfl (by decide) rfl; (focus (go_simp; rfl)))
    | (apply wpOrd_pure rfl rfl rfl; (focus (intro _ _; go_simp; (try go_ints); rfl)); (focus (go_simp; rfl)))
    | (apply wpOrd_read rfl rfl rfl; (focus (intro _; go_simp; (try go_ints); rfl)); (focus (go_simp; rfl))))
  refine wpOrd_eff rfl rfl (fun q2 => ?_)
  obtain ⟨V, hV⟩ : ∃ V, V = ((W0.drewN q).alloc (.cells #[] 38 (0, 0))).drewN q2 := ⟨_, rfl⟩
  have hkV : Kp No W0 V := by rw [hV]; exact (((Kp.refl _ _).drewN q).alloc _).drewN q2
  have hsV : W0.heap.size < V.heap.size := by rw [hV]; show W0.heap.size < ((W0.drewN q).alloc (.cells #[] 38 (0, 0))).heap.size; rw [World.size_alloc]; show W0.heap.size < W0.heap.size + 1; omega
  have hown : Mer.Own V 38 2 (.slice (some ⟨W0.heap.size, 0, none⟩) 0 0) 0 [] := by
    rw [hV]
    exact (Mer.Own.made (W0.drewN q) 38 2 #[] 0 0 (xs := []) (Nat.le_refl _) (by simp [maxLen]) (by simp) (by simp)).drewN q2
  obtain ⟨a', c', w3, hrun, ho, hg, hk, hc, _⟩ := copy_run0 V W0.heap.size hown L a cap B (HR0.out.keep hkV fun _ _ x => x) HLN.out
  rw [← HKL.out] at hrun ho hg hc
  have hk3 : Kp No W0 w3 := hkV.trans hk fun i hi hx => by
    have hx : i = W0.heap.size := hx
    omega
  have HRUN := Lib.hid hrun
  have HV := Lib.hid hV
  have HK3 := Lib.hid hk3
  have hgg : ∀ g, (Value.slice a' K c').ownBlock = some g → w.heap.size + 1 < g := fun g h => by
    have := HS0.out
    rcases hg g h with h | h <;> omega
  have HO := Lib.hid (And.intro ho (And.intro hgg hc))
  rw [← hV]
  clear hV hkV hsV hown hrun ho hg hk hc hk3 hgg
  refine wpList_append_run rfl rfl rfl rfl HRUN.out (wpList_nil ⟨rfl, HK3.out.of_no, ?_⟩)
  repeat (first
    | (apply wpOrd_skip rfl (by decide) rfl; (focus (go_simp; rfl)))
    | (apply wpOrd_pure rfl rfl rfl; (focus (intro _ _; go_simp; (try go_ints); rfl)); (focus (go_simp; rfl)))
    | (apply wpOrd_read rfl rfl rfl; (focus (intro _; go_simp; (try go_ints); rfl)); (focus (go_simp; rfl))))
  refine wpOrd_eff rfl rfl (fun q3 => ?_)
  have b3 : (w3.drewN q3).heap[w.heap.size + 1]? = some (.cells #[.slice none 0 0, .int .i64 0] 24 (0, 0)) := HK3.out.get HB2.out fun x => x
  have f0 : (w3.drewN q3).frozen? ⟨w.heap.size + 1, 0, none⟩ = false := free_at b3 0
  have f1 : (w3.drewN q3).frozen? ⟨w.heap.size + 1, 1, none⟩ = false := free_at b3 1
  have d0 : (w3.drewN q3).cell? ⟨w.heap.size + 1, 0, none⟩ = some (.slice none 0 0) := cell_at b3 0
  have d1 : (w3.drewN q3).cell? ⟨w.heap.size + 1, 1, none⟩ = some (.int .i64 0) := cell_at b3 1
  have hlt := get_lt b3
  go_wp2_with fail
  have hkF : Kp (Mer.One (w.heap.size + 1)) W0 (((w3.drewN q3).setCell ⟨w.heap.size + 1, 0, none⟩ (.slice a' K c')).setCell ⟨w.heap.size + 1, 1, none⟩ (.int .i64 n)) :=
    Kp.setCell (p := ⟨w.heap.size + 1, 1, none⟩) (Kp.setCell (p := ⟨w.heap.size + 1, 0, none⟩) (HK3.out.of_no.drewN q3) (.inl (show Mer.One (w.heap.size + 1) (w.heap.size + 1) from rfl)) _) (.inl (show Mer.One (w.heap.size + 1) (w.heap.size + 1) from rfl)) _
  have hkG : Kp (Mer.One (w.heap.size + 1)) w3 (((w3.drewN q3).setCell ⟨w.heap.size + 1, 0, none⟩ (.slice a' K c')).setCell ⟨w.heap.size + 1, 1, none⟩ (.int .i64 n)) :=
    Kp.setCell (p := ⟨w.heap.size + 1, 1, none⟩) (Kp.setCell (p := ⟨w.heap.size + 1, 0, none⟩) ((Kp.refl _ _).drewN q3) (.inl (show Mer.One (w.heap.size + 1) (w.heap.size + 1) from rfl)) _) (.inl (show Mer.One (w.heap.size + 1) (w.heap.size + 1) from rfl)) _
  refine ⟨hkF, ?_⟩
  obtain ⟨W9, hW9⟩ : ∃ W, W = ((w3.drewN q3).setCell ⟨w.heap.size + 1, 0, none⟩ (.slice a' K c')).setCell ⟨w.heap.size + 1, 1, none⟩ (.int .i64 n) := ⟨_, rfl⟩
  have hb9 := set_at (set_at b3 0 (.slice a' K c')) 1 (.int .i64 n)
  rw [← hW9] at hkF hkG hb9 ⊢
  have e0 : ∀ m, (W9.drewN m).cell? ⟨w.heap.size + 1, 0, none⟩ = some (.slice a' K c') := fun m => cell_at (w := W9.drewN m) hb9 0
  have e1 : ∀ m, (W9.drewN m).cell? ⟨w.heap.size + 1, 1, none⟩ = some (.int .i64 n) := fun m => cell_at (w := W9.drewN m) hb9 1
  have HKF := Lib.hid hkF
  have HKG := Lib.hid hkG
  clear b3 f0 f1 d0 d1 hlt hW9 hb9 hkF hkG c0 c1
  refine wpOrd_nil (fun nq => ?_)
  go_wp2_with fail
  refine bodyPost_ret (v := .agg #[.slice a' K c', .int .i64 n]) (by simp [results, Tryz.results7, go_sem, e0, e1]) rfl ⟨a', c', rfl, ?_, ?_, ?_, HO.out.2.2⟩
  · exact (HO.out.1.keep HKG.out fun g hg hx => by
      have := HO.out.2.1 g hg
      have hx : g = w.heap.size + 1 := hx
      omega).drewN nq
  · intro g hg
    have := HO.out.2.1 g hg
    omega
  · exact (HK0.out.trans HKF.out fun i hi hx => by
      have hx : i = w.heap.size + 1 := hx
      omega).drewN nq
end Go.Proofs.YtapikolgpmefbaaGreatDoor
