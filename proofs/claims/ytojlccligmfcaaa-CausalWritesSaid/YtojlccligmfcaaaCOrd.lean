/-
  Versions in order; whether a version is seen.
-/
import Derived.Test.YtojlccligmfcaaaCmp
import Derived.Test.YtojlccligmfcaaaRegion
import Derived.WalkKit
import Derived.WalkSpells
import Derived.WalkLawsBesides
namespace Go.Proofs.Ytojlccligmfcaaa
open Go.RowKit Go.Mer

/-- A version's value. -/
abbrev verV (m c o : Int) (v : Value) (g : Bool) (ttl : Int) : Value := .agg #[.int .i64 m, .int .i64 c, .int .i64 o, v, .bool g, .int .i64 ttl]

def ordF (m c o m' c' o' : Int) : Int := if cmpH m c m' c' ≠ 0 then cmpH m c m' c' else cmpI o o'
def seenF (m c : Int) (gone : Bool) (ttl t1 t2 : Int) : Bool := decide (cmpH m c t1 t2 ≤ 0) && !gone && (ttl == 0 || decide (wrap64 (t1 - m) < ttl))
set_option maxHeartbeats 1000000 in
theorem order_any (m c o : Int) (v : Value) (g : Bool) (tt : Int) (m' c' o' : Int) (v' : Value) (g' : Bool) (tt' : Int) (w : World) :
    Calls Try.prog 27 #[verV m c o v g tt, verV m' c' o' v' g' tt'] w fun e w' => e = .returned (.int .i64 (ordF m c o m' c' o')) ∧ Kp No w w' := by
  obtain ⟨r, hr⟩ : ∃ r, r = ordF m c o m' c' o' := ⟨_, rfl⟩
  rw [← hr]
  obtain ⟨W1, hW1⟩ : ∃ W1, W1 = (w.alloc (.cells #[.int .i64 m, .int .i64 c, .int .i64 o, v, .bool g, .int .i64 tt] 35)).alloc (.cells #[.int .i64 m', .int .i64 c', .int .i64 o', v', .bool g', .int .i64 tt'] 35) := ⟨_, rfl⟩
  have H1 : Kp No w W1 := by rw [hW1]; exact ((Kp.refl _ _).alloc _).alloc _
  have b1 : W1.heap[w.heap.size]? = some (.cells #[.int .i64 m, .int .i64 c, .int .i64 o, v, .bool g, .int .i64 tt] 35 (0, 0)) := by rw [hW1]; exact alloc_far (heap_alloc_new w _) _
  have b2 : W1.heap[w.heap.size + 1]? = some (.cells #[.int .i64 m', .int .i64 c', .int .i64 o', v', .bool g', .int .i64 tt'] 35 (0, 0)) := by rw [hW1]; exact (congrArg (fun k => ((w.alloc _).alloc _).heap[k]?) (by simp)).trans (heap_alloc_new (w.alloc _) _)
  have c0 : ∀ W, Kp No W1 W → W.cell? ⟨w.heap.size, 0, none⟩ = some (.int .i64 m) := fun W h => by rw [cell_at (h.get b1 fun x => x)]; rfl
  have c1 : ∀ W, Kp No W1 W → W.cell? ⟨w.heap.size, 1, none⟩ = some (.int .i64 c) := fun W h => by rw [cell_at (h.get b1 fun x => x)]; rfl
  have c2 : ∀ W, Kp No W1 W → W.cell? ⟨w.heap.size, 2, none⟩ = some (.int .i64 o) := fun W h => by rw [cell_at (h.get b1 fun x => x)]; rfl
  have e0 : ∀ W, Kp No W1 W → W.cell? ⟨w.heap.size + 1, 0, none⟩ = some (.int .i64 m') := fun W h => by rw [cell_at (h.get b2 fun x => x)]; rfl
  have e1 : ∀ W, Kp No W1 W → W.cell? ⟨w.heap.size + 1, 1, none⟩ = some (.int .i64 c') := fun W h => by rw [cell_at (h.get b2 fun x => x)]; rfl
  have e2 : ∀ W, Kp No W1 W → W.cell? ⟨w.heap.size + 1, 2, none⟩ = some (.int .i64 o') := fun W h => by rw [cell_at (h.get b2 fun x => x)]; rfl
  have HR := Lib.hid (show r = if cmpH m c m' c' ≠ 0 then cmpH m c m' c' else cmpI o o' from hr)
  have HH := Lib.hid H1
  clear b1 b2 hr H1
  go_enter Try.func27, Try.ntmps27
  go_wp2_with fail
  rw [← hW1]
  clear hW1
  refine wp_region_held' (Kp No _) [0,0,0,0,2,0,0,0,0,2,2,2,0] [0,1,2,3,5,6,7,8,4,9,10,11,12] (by kernel_rfl) (by kernel_rfl) (fun _ n h => h.drewN n) (Kp.refl _ _) ?_
  repeat (first
    | (apply wpOrd_skip rfl (by decide) rfl; (focus (go_simp; rfl)))
    | (apply wpOrd_pure rfl rfl rfl; (focus (intro _ _; go_simp; (try go_ints); rfl)); (focus (go_simp; rfl)))
    | (apply wpOrd_read rfl rfl rfl; (focus (intro _; go_simp; (try go_ints); rfl)); (focus (go_simp; rfl))))
  refine wpOrd_eff rfl rfl (fun n1 => ?_)
  go_wp2_with fail
  refine (Compare_any m c m' c' _).mono ?_
  rintro e w2 ⟨rfl, hk2⟩
  have h2 : Kp No W1 w2 := hk2.of_drewN
  clear hk2
  go_wp2_with fail
  repeat (first
    | (apply wpOrd_skip rfl (by decide) rfl; (focus (go_simp; rfl)))
    | (apply wpOrd_pure rfl rfl rfl; (focus (intro _ _; go_simp; (try go_ints); rfl)); (focus (go_simp; rfl)))
    | (apply wpOrd_read rfl rfl rfl; (focus (intro _; go_simp; (try go_ints); rfl)); (focus (go_simp; rfl))))
  refine wpOrd_eff rfl rfl (fun n2 => ?_)
  go_wp2_with fail
  refine (CmpI_any o o' _).mono ?_
  rintro e w3 ⟨rfl, rfl⟩
  have h3 : Kp No W1 (w2.drewN n2) := h2.drewN n2
  go_wp2_with fail
  obtain ⟨W3, hW3⟩ : ∃ W, W = w2.drewN n2 := ⟨_, rfl⟩
  rw [← hW3] at h3
  (try rw [← hW3])
  clear h2 hW3
  refine wpOrd_eff rfl rfl (fun n3 => ?_)
  go_wp2_with fail
  refine ⟨(h3.drewN n3).alloc _, ?_⟩
  have hg := heap_alloc_new (W3.drewN n3) (.cells #[.int .i64 (cmpH m c m' c'), .int .i64 (cmpI o o')] 3)
  have hOr := fun n4 => Or2_any (cmpH m c m' c') (cmpI o o') (((W3.drewN n3).alloc (.cells #[.int .i64 (cmpH m c m' c'), .int .i64 (cmpI o o')] 3)).drewN n4) W3.heap.size 2 hg
  rw [← HR.out] at hOr
  have h4 : Kp No W1 ((W3.drewN n3).alloc (.cells #[.int .i64 (cmpH m c m' c'), .int .i64 (cmpI o o')] 3)) := (h3.drewN n3).alloc _
  have HO := Lib.hid hOr
  clear hg hOr h3 c0 c1 c2 e0 e1 e2
  refine wpOrd_eff rfl rfl (fun n4 => ?_)
  go_wp2_with fail
  refine (HO.out n4).mono ?_
  rintro e w' ⟨rfl, rfl⟩
  have h5 := h4.drewN n4
  clear h4
  go_wp2_with fail
  repeat (first
    | (apply wpOrd_skip rfl (by decide) rfl; (focus (go_simp; rfl)))
    | (apply wpOrd_pure rfl rfl rfl; (focus (intro _ _; go_simp; (try go_ints); rfl)); (focus (go_simp; rfl)))
    | (apply wpOrd_read rfl rfl rfl; (focus (intro _; go_simp; (try go_ints); rfl)); (focus (go_simp; rfl))))
  refine wpOrd_nil (fun nq => ?_)
  have H5 := Lib.hid (HH.out.trans_same h5)
  clear h5
  go_wp2_with fail
  go_ret
  exact ⟨rfl, H5.out.drewN _⟩
set_option maxHeartbeats 1000000 in
theorem Seen_any (m c o : Int) (v : Value) (g : Bool) (tt t1 t2 : Int) (w : World) :
    Calls Try.prog 28 #[verV m c o v g tt, stv t1 t2] w fun e w' => e = .returned (.bool (seenF m c g tt t1 t2)) ∧ Kp No w w' := by
  obtain ⟨r, hr⟩ : ∃ r, r = seenF m c g tt t1 t2 := ⟨_, rfl⟩
  rw [← hr]
  have hcc := fun W => Compare_any m c t1 t2 W
  obtain ⟨q, hq⟩ : ∃ q, q = cmpH m c t1 t2 := ⟨_, rfl⟩
  unfold seenF at hr
  rw [← hq] at hr hcc
  have HC := Lib.hid hcc
  have HR := Lib.hid hr
  clear hr hcc hq
  obtain ⟨W1, hW1⟩ : ∃ W1, W1 = (w.alloc (.cells #[.int .i64 m, .int .i64 c, .int .i64 o, v, .bool g, .int .i64 tt] 35)).alloc (.cells #[.int .i64 t1, .int .i64 t2] 32) := ⟨_, rfl⟩
  have H1 : Kp No w W1 := by rw [hW1]; exact ((Kp.refl _ _).alloc _).alloc _
  have b1 : W1.heap[w.heap.size]? = some (.cells #[.int .i64 m, .int .i64 c, .int .i64 o, v, .bool g, .int .i64 tt] 35 (0, 0)) := by rw [hW1]; exact alloc_far (heap_alloc_new w _) _
  have b2 : W1.heap[w.heap.size + 1]? = some (.cells #[.int .i64 t1, .int .i64 t2] 32 (0, 0)) := by rw [hW1]; exact (congrArg (fun k => ((w.alloc _).alloc _).heap[k]?) (by simp)).trans (heap_alloc_new (w.alloc _) _)
  have HH := Lib.hid H1
  have HB1 := Lib.hid b1
  have HB2 := Lib.hid b2
  clear b1 b2 H1
  go_enter Try.func28, Try.ntmps28
  go_wp2_with fail
  rw [← hW1]
  clear hW1
  refine (HC.out _).mono ?_
  rintro e W2 ⟨rfl, hk2⟩
  have HK2 := Lib.hid (HH.out.trans_same hk2)
  have b1 := hk2.get HB1.out fun x => x
  have b2 := hk2.get HB2.out fun x => x
  have c0 : W2.cell? ⟨w.heap.size, 0, none⟩ = some (.int .i64 m) := by rw [cell_at b1]; rfl
  have c4 : W2.cell? ⟨w.heap.size, 4, none⟩ = some (.bool g) := by rw [cell_at b1]; rfl
  have c5 : W2.cell? ⟨w.heap.size, 5, none⟩ = some (.int .i64 tt) := by rw [cell_at b1]; rfl
  have e0 : W2.cell? ⟨w.heap.size + 1, 0, none⟩ = some (.int .i64 t1) := by rw [cell_at b2]; rfl
  clear b1 b2 hk2
  by_cases h1 : q ≤ 0
  · have d1 : decide (q ≤ 0) = true := decide_eq_true h1
    have D1 := Lib.hid d1
    clear h1
    cases g with
    | true =>
      go_wp2_with fail
      go_ret
      exact ⟨by rw [HR.out, D1.out]; rfl, HK2.out⟩
    | false =>
      by_cases h2 : tt = 0
      · subst h2
        go_wp2_with fail
        go_ret
        exact ⟨by rw [HR.out, D1.out]; rfl, HK2.out⟩
      · have d2 : (tt == 0) = false := by simp [h2]
        have D2 := Lib.hid d2
        clear h2
        go_wp2_with fail
        go_ret
        exact ⟨by rw [HR.out, D1.out, D2.out]; rfl, HK2.out⟩
  · have d1 : decide (q ≤ 0) = false := decide_eq_false h1
    have D1 := Lib.hid d1
    clear h1
    go_wp2_with fail
    go_ret
    exact ⟨by rw [HR.out, D1.out]; rfl, HK2.out⟩
end Go.Proofs.Ytojlccligmfcaaa
