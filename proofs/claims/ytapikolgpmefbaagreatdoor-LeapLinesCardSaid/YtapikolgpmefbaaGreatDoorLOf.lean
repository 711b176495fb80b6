/-
  Tables of leaps that are handed in: leap's Of, the reference's.
-/
import Derived.Test.YtapikolgpmefbaaGreatDoorLRIs
import Derived.Test.YtapikolgpmefbaaGreatDoorLIs
import Derived.Lib.SliceRun
namespace Go.Proofs.YtapikolgpmefbaaGreatDoor
open Go.RowKit Go.Mer

theorem tbV_one (L : List (Int × Int)) : ∀ u ∈ tbV L, u.oneCell' = true := by
  induction L with
  | nil => intro u hu; cases hu
  | cons x r ih =>
    intro u hu
    simp only [tbV, List.mem_cons] at hu
    rcases hu with rfl | rfl | hu
    · rfl
    · rfl
    · exact ih u hu
/-- All rows, behind none: in a slice of one's own. -/
theorem copy_run (w : World) (L : List (Int × Int)) (a : Option Addr) (cap B : Nat) (hR : Rd w B a (tbV L)) (hl : L.length ≤ 1000000) :
    ∃ a' c' w', (Builtin.append_ #[22, 22] 22 #[.slice (some ⟨w.heap.size, 0, none⟩) 0 0, .slice a L.length cap]).run Tryz.prog (w.alloc (.cells #[] 38 (0, 0))) = .ok (.slice a' L.length c') w' ∧
      Mer.Own w' 38 2 (.slice a' L.length c') L.length (tbV L) ∧ (∀ g, (Value.slice a' L.length c').ownBlock = some g → w.heap.size ≤ g) ∧ Kp No w w' ∧ L.length ≤ c' ∧ a' ≠ none := by
  have hE : (Tryz.prog.info? 38).map (fun i => ((i.zero.map fun z => z.cells.size), i.size, i.bytes)) = some (some 2, 2, 16) := by kernel_rfl
  obtain ⟨i0, hi, hz⟩ := Option.map_eq_some_iff.1 hE
  injection hz with hz0 hz
  injection hz with hz1 hz2
  obtain ⟨z, hz, hz3⟩ := Option.map_eq_some_iff.1 hz0
  have hk : Kp No w (w.alloc (.cells #[] 38 (0, 0))) := (Kp.refl _ _).alloc _
  have hsrc : Src (w.alloc (.cells #[] 38 (0, 0))) 2 (.slice a L.length cap) L.length (tbV L) := ⟨by rw [tbV_length]; omega, a, cap, rfl, fun hx => by
    obtain ⟨g, off, h1, h2, h3, h4⟩ := (hR.keep hk fun _ _ x => x) hx
    exact ⟨g, off, h1, Nat.lt_of_lt_of_le h2 h3, Nat.le_refl _, h4⟩⟩
  have hown := Mer.Own.made w 38 2 #[] 0 0 (xs := []) (Nat.le_refl _) (by simp [maxLen]) (by simp) (by simp)
  obtain ⟨v', w', hrun, ho, hkp, hblk⟩ := run_append_Own (P := Tryz.prog) 22 22 22 38 i0 z 2 16 Tryz.underlying22 ⟨_, Tryz.underlying22⟩ hi hz hz1 hz2 hz3 _ 0 [] hown _ L.length _ hsrc
    (fun u hu => tbV_one L u hu) (by unfold maxLen; omega) (by omega)
  rw [Nat.zero_add, List.nil_append] at ho
  obtain ⟨_, a', c', rfl, hc, _, hn, _⟩ := id ho
  refine ⟨a', c', w', by rw [hrun], ho, fun g hg => ?_, hk.trans hkp fun i hi hs => ?_, hc, ?_⟩
  · rcases hblk with hb | ⟨g2, hb, hb2⟩
    · rw [hb] at hg
      have hg : w.heap.size = g := by simpa [Value.ownBlock] using hg
      omega
    · rw [hb] at hg
      injection hg with hg
      rw [World.size_alloc] at hb2
      omega
  · have hs : w.heap.size = i := by simpa [Value.ownBlock] using hs
    omega
  · intro h
    subst h
    rcases hblk with hb | ⟨g2, hb, hb2⟩
    · simp [Value.ownBlock] at hb
    · simp [Value.ownBlock] at hb
set_option maxRecDepth 20000 in
theorem Clone_any (w : World) (L : List (Int × Int)) (ad : Addr) (cap B : Nat) (hR : Rd w B (some ad) (tbV L)) (hl : L.length ≤ 1000000) :
    Calls Tryz.prog 31 #[.slice (some ad) L.length cap] w fun e' w' => ∃ a' c', e' = .returned (.slice a' L.length c') ∧ Mer.Own w' 38 2 (.slice a' L.length c') L.length (tbV L) ∧ (∀ g, (Value.slice a' L.length c').ownBlock = some g → w.heap.size ≤ g) ∧ Kp No w w' ∧ L.length ≤ c' := by
  obtain ⟨a', c', w', hrun, ho, hg, hk, hc, _⟩ := copy_run w L (some ad) cap B hR hl
  have HRUN := Lib.hid hrun
  have HO := Lib.hid (And.intro ho (And.intro hg (And.intro hk hc)))
  have qn : ∀ W, (binOp .eql 22 (.slice (some ad) L.length cap) (.slice none 0 0)).run Tryz.prog W = .ok (.bool false) W := fun W => Lib.run_eql_slice_nil W 22 38 (some ad) _ _ 0 0 Tryz.underlying22
  clear hrun ho hg hk hc hR
  go_enter Tryz.func31, Tryz.ntmps31
  go_wp2_with (at_builtin; refine wpList_append_run rfl rfl rfl rfl HRUN.out ?_; clear HRUN)
  go_ret
  exact ⟨a', c', rfl, HO.out.1, HO.out.2.1, HO.out.2.2.1, HO.out.2.2.2⟩
/-- What a table of leaps is. -/
def ofF (L : List (Int × Int)) (e : Int) : List (Int × Int) × Int × Int := if isF L e then (L, e, 0) else ([], 0, 12)
def OfP (w : World) (r : List (Int × Int) × Int × Int) (e' : Ending) (w' : World) : Prop :=
  ∃ a' c', e' = .returned (.tuple #[.agg #[.slice a' r.1.length c', .int .i64 r.2.1], .int .i64 r.2.2]) ∧ Mer.Own w' 38 2 (.slice a' r.1.length c') r.1.length (tbV r.1) ∧ (∀ g, (Value.slice a' r.1.length c').ownBlock = some g → w.heap.size ≤ g) ∧ Kp No w w' ∧ r.1.length ≤ c'
set_option maxRecDepth 20000 in
set_option maxHeartbeats 1000000 in
theorem Of_any (w : World) (L : List (Int × Int)) (e : Int) (ad : Addr) (cap B : Nat) (hR : Rd w B (some ad) (tbV L)) (hl : L.length ≤ 1000000) :
    Calls Tryz.prog 13 #[.int .i64 e, .slice (some ad) L.length cap] w (OfP w (ofF L e)) := by
  obtain ⟨W0, hW0⟩ : ∃ W, W = w.alloc (.cells #[.slice none 0 0, .int .i64 0] 24 (0, 0)) := ⟨_, rfl⟩
  have hk0 : Kp No w W0 := by rw [hW0]; exact (Kp.refl _ _).alloc _
  have hb0 : W0.heap[w.heap.size]? = some (.cells #[.slice none 0 0, .int .i64 0] 24 (0, 0)) := by rw [hW0]; exact heap_alloc_new w _
  have hs0 : W0.heap.size = w.heap.size + 1 := by rw [hW0]; simp
  have HCL := Lib.hid (Clone_any W0 L ad cap B (hR.keep hk0 fun _ _ x => x) hl)
  have HLN := Lib.hid hl
  have HK0 := Lib.hid hk0
  have HB0 := Lib.hid hb0
  have HS0 := Lib.hid hs0
  have HW := Lib.hid hW0
  obtain ⟨r, hr⟩ : ∃ r, r = ofF L e := ⟨_, rfl⟩
  rw [← hr]
  have HR := Lib.hid hr
  clear hW0 hk0 hb0 hs0 hr hR hl
  go_enter Tryz.func13, Tryz.ntmps13
  go_wp2_with fail
  rw [← HW.out]
  refine HCL.out.mono ?_
  rintro e' w1 ⟨a', c', rfl, ho, hg, hk, hc⟩
  clear HCL
  obtain ⟨W2, hW2⟩ : ∃ W, W = w1.alloc (.cells #[.slice a' L.length c', .int .i64 e] 24 (0, 0)) := ⟨_, rfl⟩
  have hk2 : Kp No w1 W2 := by rw [hW2]; exact (Kp.refl _ _).alloc _
  have hb2 : W2.heap[w1.heap.size]? = some (.cells #[.slice a' L.length c', .int .i64 e] 24 (0, 0)) := by rw [hW2]; exact heap_alloc_new w1 _
  have ho2 := ho.keep hk2 fun _ _ x => x
  have HIS := Lib.hid (Is_any L e W2 a' c' _ ho2.rd' HLN.out hc)
  have HW2 := Lib.hid hW2
  have HK2 := Lib.hid (hk.trans_same hk2)
  have HO2 := Lib.hid (And.intro ho2 (And.intro hg hc))
  have HB2 := Lib.hid hb2
  clear ho hg hk hc hW2 hk2 ho2 hb2
  go_wp2_with fail
  rw [← HW2.out]
  refine HIS.out.mono ?_
  rintro e' w3 ⟨rfl, hk3⟩
  have hKa : Kp No W0 w3 := HK2.out.trans_same hk3
  have b3 : w3.heap[w.heap.size]? = some (.cells #[.slice none 0 0, .int .i64 0] 24 (0, 0)) := hKa.get HB0.out (fun x => x)
  have b4 : w3.heap[w1.heap.size]? = some (.cells #[.slice a' L.length c', .int .i64 e] 24 (0, 0)) := hk3.get HB2.out (fun x => x)
  obtain ⟨g1, hg1⟩ : ∃ g1, g1 = w1.heap.size := ⟨_, rfl⟩
  rw [← hg1] at b4 ⊢
  obtain ⟨g0, hg0⟩ : ∃ g0, g0 = w.heap.size := ⟨_, rfl⟩
  rw [← hg0] at b3 ⊢
  have f0 : w3.frozen? ⟨g0, 0, none⟩ = false := free_at b3 0
  have f1 : w3.frozen? ⟨g0, 1, none⟩ = false := free_at b3 1
  have c0 : w3.cell? ⟨g0, 0, none⟩ = some (.slice none 0 0) := cell_at b3 0
  have c1 : w3.cell? ⟨g0, 1, none⟩ = some (.int .i64 0) := cell_at b3 1
  have d0 : w3.cell? ⟨g1, 0, none⟩ = some (.slice a' L.length c') := cell_at b4 0
  have d1 : w3.cell? ⟨g1, 1, none⟩ = some (.int .i64 e) := cell_at b4 1
  have hl0 := get_lt b3
  have HKA := Lib.hid hKa
  have HOW := Lib.hid (HO2.out.1.keep hk3 fun _ _ x => x)
  have HG0 := Lib.hid hg0
  clear hk3 hKa HIS hg1 hg0 HB0 HB2 b3 b4
  cases hI : isF L e with
  | false =>
    have hr : r = ([], 0, 12) := by rw [HR.out, ofF, hI]; rfl
    subst hr
    clear hI HR
    go_wp2_with fail
    have hkF : Kp (One g0) w3 ((w3.setCell ⟨g0, 0, none⟩ (.slice none 0 0)).setCell ⟨g0, 1, none⟩ (.int .i64 0)) := Kp.setCell (p := ⟨g0, 1, none⟩) (Kp.setCell (p := ⟨g0, 0, none⟩) (Kp.refl _ _) (.inl (show Mer.One g0 g0 from rfl)) _) (.inl (show Mer.One g0 g0 from rfl)) _
    refine bodyPost_ret (v := .tuple #[.agg #[.slice none 0 0, .int .i64 0], .int .i64 12]) (by simp [results, Tryz.results13, go_sem, c0, c1]) rfl ⟨none, 0, rfl, ?_, ?_, (HK0.out.trans_same HKA.out).trans hkF (fun i hi hs => ?_), ?_⟩
    rotate_left 2
    · have := HG0.out
      have hs : i = g0 := hs
      have := HW.out
      omega
    rotate_left 1
    · exact Own.nil _ _ _
    · intro g hg
      simp [Value.ownBlock] at hg
    · exact Nat.zero_le _
  | true =>
    have hr : r = (L, e, 0) := by rw [HR.out, ofF, hI]; rfl
    subst hr
    clear hI HR
    go_wp2_with fail
    have hkF : Kp (One g0) w3 ((w3.setCell ⟨g0, 0, none⟩ (.slice a' L.length c')).setCell ⟨g0, 1, none⟩ (.int .i64 e)) := Kp.setCell (p := ⟨g0, 1, none⟩) (Kp.setCell (p := ⟨g0, 0, none⟩) (Kp.refl _ _) (.inl (show Mer.One g0 g0 from rfl)) _) (.inl (show Mer.One g0 g0 from rfl)) _
    refine bodyPost_ret (v := .tuple #[.agg #[.slice a' L.length c', .int .i64 e], .int .i64 0]) (by simp [results, Tryz.results13, go_sem, c0, c1]) rfl ⟨a', c', rfl, ?_, ?_, (HK0.out.trans_same HKA.out).trans hkF (fun i hi hs => ?_), ?_⟩
    rotate_left 2
    · have := HG0.out
      have hs : i = g0 := hs
      have := HW.out
      omega
    rotate_left 1
    · refine HOW.out.keep hkF fun g hg hx => ?_
      have := HO2.out.2.1 g hg
      have := HS0.out
      have := HG0.out
      have hx : g = g0 := hx
      omega
    · intro g hg
      have := HO2.out.2.1 g hg
      have := HS0.out
      omega
    · exact HO2.out.2.2
end Go.Proofs.YtapikolgpmefbaaGreatDoor
