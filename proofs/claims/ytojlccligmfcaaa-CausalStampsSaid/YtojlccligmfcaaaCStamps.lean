/-
  The law CausalStamps, walked.
-/
import Derived.Test.YtojlccligmfcaaaCKnown
namespace Go.Proofs.Ytojlccligmfcaaa
open Go.RowKit Go.Mer

theorem ck_one (x : EvR) (he : x.r.err = 0) : checkF [x] = (0, !(canF ([x].filterMap wrF) [] x)) := by
  unfold checkF ckState
  simp only [List.foldl_cons, List.foldl_nil, ckStep, Option.isSome_none, Bool.false_eq_true, if_false, he, ne_eq, not_true_eq_false]
  cases canF ([x].filterMap wrF) [] x <;> simp
def sx (k : Int) (key : ByteArray) (m c t1 t2 : Int) : EvR := ⟨0, ⟨k, 0, 0, 0, 0, m, c, key, ⟨#[]⟩, none, 0, []⟩, ⟨0, 0, t1, t2, false, none, 0, [], none, 0, []⟩⟩
theorem sx_ck1 (key : ByteArray) (m c t1 t2 : Int) : checkF [sx 1 key m c t1 t2] = (0, !decide (0 < cmpH t1 t2 m c)) := by
  rw [ck_one _ rfl]
  rfl
theorem sx_ck3 (key : ByteArray) (m c t1 t2 : Int) : checkF [sx 3 key m c t1 t2] = (0, !decide (0 ≤ cmpH t1 t2 m c)) := by
  rw [ck_one _ rfl]
  rfl
theorem sx_at {W : World} {k : Int} {key : ByteArray} {m c t1 t2 : Int} (hk : I64 k) (hm : I64 m) (hc : I64 c) (h1 : I64 t1) (h2 : I64 t2) {g : Nat} {cs : Array Value} {t : TypeId} (hg : W.heap[g]? = some (.cells cs t (0, 0))) (hcs : cs.toList = (sx k key m c t1 t2).cells) : EvsAt W (some ⟨g, 0, none⟩) [sx k key m c t1 t2] := by
  have i0 : I64 0 := ⟨by decide, by decide⟩
  refine ⟨Rd.row (n := 18) hg ?_ (get_lt hg) (Nat.le_refl _), fun x hx => ?_⟩
  · rw [List.drop_zero, hcs, List.flatMap_cons, List.flatMap_nil, List.append_nil]
    exact List.take_of_length_le (by rw [EvR.cells_len]; omega)
  · obtain rfl := List.mem_singleton.1 hx
    exact ⟨i0, ⟨⟨hk, i0, i0, i0, hm, hc⟩, Rd.nil _ _ _⟩, ⟨⟨i0, i0, h1, h2⟩, Rd.nil _ _ _, Rd.nil _ _ _, fun p hp => by cases hp⟩⟩
theorem sx_li {k : Int} {key : ByteArray} {m c t1 t2 : Int} (h : key.size ≤ 8000) : ∀ x ∈ [sx k key m c t1 t2], x.Li := by
  intro x hx
  obtain rfl := List.mem_singleton.1 hx
  exact ⟨h, by show 0 ≤ 8000; decide, by show 0 ≤ 8000; decide, by show 0 ≤ 8000; decide, by show 0 ≤ 8000; decide, by intro p hp; cases hp⟩
set_option maxRecDepth 100000 in
set_option maxHeartbeats 4000000 in
theorem stamps_any (w : World) (m c t1 t2 : Int) (b : Bool) (hm : I64 m) (hc : I64 c) (h1 : I64 t1) (h2 : I64 t2) :
    Calls Try.prog 5 #[stv m c, stv t1 t2, .bool b] w fun e w' => e = .returned (.bool true) ∧ Kp No w w' := by
  have hcases : (t1 < m) ∨ (t1 = m ∧ t2 < c) ∨ (t1 = m ∧ t2 = c) ∨ (t1 = m ∧ c < t2) ∨ (m < t1) := by omega
  cases b with
  | false =>
    rcases hcases with hlt | ⟨rfl, hlt⟩ | ⟨rfl, rfl⟩ | ⟨rfl, hlt⟩ | hlt
    ·
      have hq : cmpH t1 t2 m c = -1 := by unfold cmpH; rw [if_pos (.inl hlt)]
      have hck : checkF [sx 1 ⟨#[107]⟩ m c t1 t2] = (0, true) := by rw [sx_ck1, hq]; rfl
      obtain ⟨W1, hW1⟩ : ∃ W, W = (((w.alloc (.cells #[.int .i64 m, .int .i64 c] 32)).alloc (.cells #[.int .i64 t1, .int .i64 t2] 32)).alloc (.cells #[.int .i64 1, .int .i64 0, .int .i64 0, .int .i64 0, .int .u8 0, .int .i64 m, .int .i64 c, .string { data := #[107] }, .string { data := #[] }, .slice none 0 0] 41)).alloc
        (.cells #[.int .i64 0, .int .i64 1, .int .i64 0, .int .i64 0, .int .i64 0, .int .u8 0, .int .i64 m, .int .i64 c, .string { data := #[107] }, .string { data := #[] }, .slice none 0 0, .int .i64 0, .int .i64 0, .int .i64 t1, .int .i64 t2, .bool false, .slice none 0 0, .slice none 0 0] 47) := ⟨_, rfl⟩
      have k1 : Kp No w W1 := by rw [hW1]; exact ((((Kp.refl _ _).alloc _).alloc _).alloc _).alloc _
      have b1 : W1.heap[w.heap.size + 1 + 1 + 1]? = some (.cells #[.int .i64 0, .int .i64 1, .int .i64 0, .int .i64 0, .int .i64 0, .int .u8 0, .int .i64 m, .int .i64 c, .string { data := #[107] }, .string { data := #[] }, .slice none 0 0, .int .i64 0, .int .i64 0, .int .i64 t1, .int .i64 t2, .bool false, .slice none 0 0, .slice none 0 0] 47 (0, 0)) := by
        rw [hW1]
        exact (congrArg (fun k => ((((w.alloc _).alloc _).alloc _).alloc _).heap[k]?) (by simp)).trans (heap_alloc_new (((w.alloc _).alloc _).alloc _) _)
      have b2 : W1.heap[w.heap.size]? = some (.cells #[.int .i64 m, .int .i64 c] 32 (0, 0)) := by rw [hW1]; exact alloc_far (alloc_far (alloc_far (heap_alloc_new w _) _) _) _
      have b3 : W1.heap[w.heap.size + 1]? = some (.cells #[.int .i64 t1, .int .i64 t2] 32 (0, 0)) := by rw [hW1]; exact alloc_far (alloc_far ((congrArg (fun k => ((w.alloc _).alloc _).heap[k]?) (by simp)).trans (heap_alloc_new (w.alloc _) _)) _) _
      have hcc := Check_any W1 (some ⟨w.heap.size + 1 + 1 + 1, 0, none⟩) 1 _ (sx_at (k := 1) (key := ⟨#[107]⟩) ⟨by decide, by decide⟩ hm hc h1 h2 b1 rfl) (by simp) (sx_li (by decide))
      rw [show ([sx 1 ⟨#[107]⟩ m c t1 t2] : List EvR).length = 1 from rfl, hck] at hcc
      have HC := Lib.hid hcc
      have HB2 := Lib.hid b2
      have HB3 := Lib.hid b3
      have HK1 := Lib.hid k1
      rw [hW1] at HC
      have HW1 := Lib.hid hW1
      clear hcc hm hc h1 h2 hq hck b1 b2 b3 k1 hW1
      go_enter Try.func5, Try.ntmps5
      go_upto_region 4 with (refine wpList_store_w rfl 41 _ _ rfl (w.heap.size + 1 + 1) (by simp) _ _ _ rfl rfl (by kernel_rfl) (by rfl) (by rfl) ?_)
      go_wp2_with fail
      refine HC.out.mono ?_
      rw [← HW1.out]
      rintro e w2 ⟨rfl, hk2⟩
      have HK2 := Lib.hid (HK1.out.trans_same hk2)
      have e2 := hk2.get HB2.out fun x => x
      have e3 := hk2.get HB3.out fun x => x
      have c0 : w2.cell? ⟨w.heap.size, 0, none⟩ = some (.int .i64 m) := by rw [cell_at e2]; rfl
      have c1 : w2.cell? ⟨w.heap.size, 1, none⟩ = some (.int .i64 c) := by rw [cell_at e2]; rfl
      have d0 : w2.cell? ⟨w.heap.size + 1, 0, none⟩ = some (.int .i64 t1) := by rw [cell_at e3]; rfl
      have d1 : w2.cell? ⟨w.heap.size + 1, 1, none⟩ = some (.int .i64 t2) := by rw [cell_at e3]; rfl
      clear hk2 e2 e3
      go_wp2_with fail
      refine (known_any _).mono ?_
      rintro e w3 ⟨rfl, hk3⟩
      have HK3 := Lib.hid (HK2.out.trans_same hk3)
      clear hk3 c0 c1 d0 d1
      go_wp2_with fail
      go_ret
      exact ⟨rfl, HK3.out⟩
    ·
      have hq : cmpH t1 t2 t1 c = -1 := by unfold cmpH; rw [if_pos (.inr ⟨rfl, hlt⟩)]
      have hck : checkF [sx 1 ⟨#[107]⟩ t1 c t1 t2] = (0, true) := by rw [sx_ck1, hq]; rfl
      obtain ⟨W1, hW1⟩ : ∃ W, W = (((w.alloc (.cells #[.int .i64 t1, .int .i64 c] 32)).alloc (.cells #[.int .i64 t1, .int .i64 t2] 32)).alloc (.cells #[.int .i64 1, .int .i64 0, .int .i64 0, .int .i64 0, .int .u8 0, .int .i64 t1, .int .i64 c, .string { data := #[107] }, .string { data := #[] }, .slice none 0 0] 41)).alloc
        (.cells #[.int .i64 0, .int .i64 1, .int .i64 0, .int .i64 0, .int .i64 0, .int .u8 0, .int .i64 t1, .int .i64 c, .string { data := #[107] }, .string { data := #[] }, .slice none 0 0, .int .i64 0, .int .i64 0, .int .i64 t1, .int .i64 t2, .bool false, .slice none 0 0, .slice none 0 0] 47) := ⟨_, rfl⟩
      have k1 : Kp No w W1 := by rw [hW1]; exact ((((Kp.refl _ _).alloc _).alloc _).alloc _).alloc _
      have b1 : W1.heap[w.heap.size + 1 + 1 + 1]? = some (.cells #[.int .i64 0, .int .i64 1, .int .i64 0, .int .i64 0, .int .i64 0, .int .u8 0, .int .i64 t1, .int .i64 c, .string { data := #[107] }, .string { data := #[] }, .slice none 0 0, .int .i64 0, .int .i64 0, .int .i64 t1, .int .i64 t2, .bool false, .slice none 0 0, .slice none 0 0] 47 (0, 0)) := by
        rw [hW1]
        exact (congrArg (fun k => ((((w.alloc _).alloc _).alloc _).alloc _).heap[k]?) (by simp)).trans (heap_alloc_new (((w.alloc _).alloc _).alloc _) _)
      have b2 : W1.heap[w.heap.size]? = some (.cells #[.int .i64 t1, .int .i64 c] 32 (0, 0)) := by rw [hW1]; exact alloc_far (alloc_far (alloc_far (heap_alloc_new w _) _) _) _
      have b3 : W1.heap[w.heap.size + 1]? = some (.cells #[.int .i64 t1, .int .i64 t2] 32 (0, 0)) := by rw [hW1]; exact alloc_far (alloc_far ((congrArg (fun k => ((w.alloc _).alloc _).heap[k]?) (by simp)).trans (heap_alloc_new (w.alloc _) _)) _) _
      have hcc := Check_any W1 (some ⟨w.heap.size + 1 + 1 + 1, 0, none⟩) 1 _ (sx_at (k := 1) (key := ⟨#[107]⟩) ⟨by decide, by decide⟩ hm hc h1 h2 b1 rfl) (by simp) (sx_li (by decide))
      rw [show ([sx 1 ⟨#[107]⟩ t1 c t1 t2] : List EvR).length = 1 from rfl, hck] at hcc
      have HC := Lib.hid hcc
      have HB2 := Lib.hid b2
      have HB3 := Lib.hid b3
      have HK1 := Lib.hid k1
      rw [hW1] at HC
      have HW1 := Lib.hid hW1
      clear hcc hm hc h1 h2 hq hck b1 b2 b3 k1 hW1
      go_enter Try.func5, Try.ntmps5
      go_upto_region 4 with (refine wpList_store_w rfl 41 _ _ rfl (w.heap.size + 1 + 1) (by simp) _ _ _ rfl rfl (by kernel_rfl) (by rfl) (by rfl) ?_)
      go_wp2_with fail
      refine HC.out.mono ?_
      rw [← HW1.out]
      rintro e w2 ⟨rfl, hk2⟩
      have HK2 := Lib.hid (HK1.out.trans_same hk2)
      have e2 := hk2.get HB2.out fun x => x
      have e3 := hk2.get HB3.out fun x => x
      have c0 : w2.cell? ⟨w.heap.size, 0, none⟩ = some (.int .i64 t1) := by rw [cell_at e2]; rfl
      have c1 : w2.cell? ⟨w.heap.size, 1, none⟩ = some (.int .i64 c) := by rw [cell_at e2]; rfl
      have d0 : w2.cell? ⟨w.heap.size + 1, 0, none⟩ = some (.int .i64 t1) := by rw [cell_at e3]; rfl
      have d1 : w2.cell? ⟨w.heap.size + 1, 1, none⟩ = some (.int .i64 t2) := by rw [cell_at e3]; rfl
      clear hk2 e2 e3
      go_wp2_with fail
      refine (known_any _).mono ?_
      rintro e w3 ⟨rfl, hk3⟩
      have HK3 := Lib.hid (HK2.out.trans_same hk3)
      clear hk3 c0 c1 d0 d1
      go_wp2_with fail
      go_ret
      exact ⟨rfl, HK3.out⟩
    ·
      have hq : cmpH t1 t2 t1 t2 = 0 := by unfold cmpH; rw [if_neg (by omega), if_pos ⟨rfl, rfl⟩]
      have hck : checkF [sx 1 ⟨#[107]⟩ t1 t2 t1 t2] = (0, true) := by rw [sx_ck1, hq]; rfl
      obtain ⟨W1, hW1⟩ : ∃ W, W = (((w.alloc (.cells #[.int .i64 t1, .int .i64 t2] 32)).alloc (.cells #[.int .i64 t1, .int .i64 t2] 32)).alloc (.cells #[.int .i64 1, .int .i64 0, .int .i64 0, .int .i64 0, .int .u8 0, .int .i64 t1, .int .i64 t2, .string { data := #[107] }, .string { data := #[] }, .slice none 0 0] 41)).alloc
        (.cells #[.int .i64 0, .int .i64 1, .int .i64 0, .int .i64 0, .int .i64 0, .int .u8 0, .int .i64 t1, .int .i64 t2, .string { data := #[107] }, .string { data := #[] }, .slice none 0 0, .int .i64 0, .int .i64 0, .int .i64 t1, .int .i64 t2, .bool false, .slice none 0 0, .slice none 0 0] 47) := ⟨_, rfl⟩
      have k1 : Kp No w W1 := by rw [hW1]; exact ((((Kp.refl _ _).alloc _).alloc _).alloc _).alloc _
      have b1 : W1.heap[w.heap.size + 1 + 1 + 1]? = some (.cells #[.int .i64 0, .int .i64 1, .int .i64 0, .int .i64 0, .int .i64 0, .int .u8 0, .int .i64 t1, .int .i64 t2, .string { data := #[107] }, .string { data := #[] }, .slice none 0 0, .int .i64 0, .int .i64 0, .int .i64 t1, .int .i64 t2, .bool false, .slice none 0 0, .slice none 0 0] 47 (0, 0)) := by
        rw [hW1]
        exact (congrArg (fun k => ((((w.alloc _).alloc _).alloc _).alloc _).heap[k]?) (by simp)).trans (heap_alloc_new (((w.alloc _).alloc _).alloc _) _)
      have b2 : W1.heap[w.heap.size]? = some (.cells #[.int .i64 t1, .int .i64 t2] 32 (0, 0)) := by rw [hW1]; exact alloc_far (alloc_far (alloc_far (heap_alloc_new w _) _) _) _
      have b3 : W1.heap[w.heap.size + 1]? = some (.cells #[.int .i64 t1, .int .i64 t2] 32 (0, 0)) := by rw [hW1]; exact alloc_far (alloc_far ((congrArg (fun k => ((w.alloc _).alloc _).heap[k]?) (by simp)).trans (heap_alloc_new (w.alloc _) _)) _) _
      have hcc := Check_any W1 (some ⟨w.heap.size + 1 + 1 + 1, 0, none⟩) 1 _ (sx_at (k := 1) (key := ⟨#[107]⟩) ⟨by decide, by decide⟩ hm hc h1 h2 b1 rfl) (by simp) (sx_li (by decide))
      rw [show ([sx 1 ⟨#[107]⟩ t1 t2 t1 t2] : List EvR).length = 1 from rfl, hck] at hcc
      have HC := Lib.hid hcc
      have HB2 := Lib.hid b2
      have HB3 := Lib.hid b3
      have HK1 := Lib.hid k1
      rw [hW1] at HC
      have HW1 := Lib.hid hW1
      clear hcc hm hc h1 h2 hq hck b1 b2 b3 k1 hW1
      go_enter Try.func5, Try.ntmps5
      go_upto_region 4 with (refine wpList_store_w rfl 41 _ _ rfl (w.heap.size + 1 + 1) (by simp) _ _ _ rfl rfl (by kernel_rfl) (by rfl) (by rfl) ?_)
      go_wp2_with fail
      refine HC.out.mono ?_
      rw [← HW1.out]
      rintro e w2 ⟨rfl, hk2⟩
      have HK2 := Lib.hid (HK1.out.trans_same hk2)
      have e2 := hk2.get HB2.out fun x => x
      have e3 := hk2.get HB3.out fun x => x
      have c0 : w2.cell? ⟨w.heap.size, 0, none⟩ = some (.int .i64 t1) := by rw [cell_at e2]; rfl
      have c1 : w2.cell? ⟨w.heap.size, 1, none⟩ = some (.int .i64 t2) := by rw [cell_at e2]; rfl
      have d0 : w2.cell? ⟨w.heap.size + 1, 0, none⟩ = some (.int .i64 t1) := by rw [cell_at e3]; rfl
      have d1 : w2.cell? ⟨w.heap.size + 1, 1, none⟩ = some (.int .i64 t2) := by rw [cell_at e3]; rfl
      clear hk2 e2 e3
      go_wp2_with fail
      refine (known_any _).mono ?_
      rintro e w3 ⟨rfl, hk3⟩
      have HK3 := Lib.hid (HK2.out.trans_same hk3)
      clear hk3 c0 c1 d0 d1
      go_wp2_with fail
      go_ret
      exact ⟨rfl, HK3.out⟩
    ·
      have hq : cmpH t1 t2 t1 c = 1 := by unfold cmpH; rw [if_neg (by omega), if_neg (by omega)]
      have hne : ¬ t2 = c := by omega
      have hnb : (t2 == c) = false := by simp [hne]
      have hnl : decide (t2 < c) = false := decide_eq_false (by omega)
      have hck : checkF [sx 1 ⟨#[107]⟩ t1 c t1 t2] = (0, false) := by rw [sx_ck1, hq]; rfl
      obtain ⟨W1, hW1⟩ : ∃ W, W = (((w.alloc (.cells #[.int .i64 t1, .int .i64 c] 32)).alloc (.cells #[.int .i64 t1, .int .i64 t2] 32)).alloc (.cells #[.int .i64 1, .int .i64 0, .int .i64 0, .int .i64 0, .int .u8 0, .int .i64 t1, .int .i64 c, .string { data := #[107] }, .string { data := #[] }, .slice none 0 0] 41)).alloc
        (.cells #[.int .i64 0, .int .i64 1, .int .i64 0, .int .i64 0, .int .i64 0, .int .u8 0, .int .i64 t1, .int .i64 c, .string { data := #[107] }, .string { data := #[] }, .slice none 0 0, .int .i64 0, .int .i64 0, .int .i64 t1, .int .i64 t2, .bool false, .slice none 0 0, .slice none 0 0] 47) := ⟨_, rfl⟩
      have k1 : Kp No w W1 := by rw [hW1]; exact ((((Kp.refl _ _).alloc _).alloc _).alloc _).alloc _
      have b1 : W1.heap[w.heap.size + 1 + 1 + 1]? = some (.cells #[.int .i64 0, .int .i64 1, .int .i64 0, .int .i64 0, .int .i64 0, .int .u8 0, .int .i64 t1, .int .i64 c, .string { data := #[107] }, .string { data := #[] }, .slice none 0 0, .int .i64 0, .int .i64 0, .int .i64 t1, .int .i64 t2, .bool false, .slice none 0 0, .slice none 0 0] 47 (0, 0)) := by
        rw [hW1]
        exact (congrArg (fun k => ((((w.alloc _).alloc _).alloc _).alloc _).heap[k]?) (by simp)).trans (heap_alloc_new (((w.alloc _).alloc _).alloc _) _)
      have b2 : W1.heap[w.heap.size]? = some (.cells #[.int .i64 t1, .int .i64 c] 32 (0, 0)) := by rw [hW1]; exact alloc_far (alloc_far (alloc_far (heap_alloc_new w _) _) _) _
      have b3 : W1.heap[w.heap.size + 1]? = some (.cells #[.int .i64 t1, .int .i64 t2] 32 (0, 0)) := by rw [hW1]; exact alloc_far (alloc_far ((congrArg (fun k => ((w.alloc _).alloc _).heap[k]?) (by simp)).trans (heap_alloc_new (w.alloc _) _)) _) _
      have hcc := Check_any W1 (some ⟨w.heap.size + 1 + 1 + 1, 0, none⟩) 1 _ (sx_at (k := 1) (key := ⟨#[107]⟩) ⟨by decide, by decide⟩ hm hc h1 h2 b1 rfl) (by simp) (sx_li (by decide))
      rw [show ([sx 1 ⟨#[107]⟩ t1 c t1 t2] : List EvR).length = 1 from rfl, hck] at hcc
      have HC := Lib.hid hcc
      have HB2 := Lib.hid b2
      have HB3 := Lib.hid b3
      have HK1 := Lib.hid k1
      rw [hW1] at HC
      have HW1 := Lib.hid hW1
      clear hcc hm hc h1 h2 hq hck b1 b2 b3 k1 hW1
      go_enter Try.func5, Try.ntmps5
      go_upto_region 4 with (refine wpList_store_w rfl 41 _ _ rfl (w.heap.size + 1 + 1) (by simp) _ _ _ rfl rfl (by kernel_rfl) (by rfl) (by rfl) ?_)
      go_wp2_with fail
      refine HC.out.mono ?_
      rw [← HW1.out]
      rintro e w2 ⟨rfl, hk2⟩
      have HK2 := Lib.hid (HK1.out.trans_same hk2)
      have e2 := hk2.get HB2.out fun x => x
      have e3 := hk2.get HB3.out fun x => x
      have c0 : w2.cell? ⟨w.heap.size, 0, none⟩ = some (.int .i64 t1) := by rw [cell_at e2]; rfl
      have c1 : w2.cell? ⟨w.heap.size, 1, none⟩ = some (.int .i64 c) := by rw [cell_at e2]; rfl
      have d0 : w2.cell? ⟨w.heap.size + 1, 0, none⟩ = some (.int .i64 t1) := by rw [cell_at e3]; rfl
      have d1 : w2.cell? ⟨w.heap.size + 1, 1, none⟩ = some (.int .i64 t2) := by rw [cell_at e3]; rfl
      clear hk2 e2 e3
      go_wp2_with fail
      refine (known_any _).mono ?_
      rintro e w3 ⟨rfl, hk3⟩
      have HK3 := Lib.hid (HK2.out.trans_same hk3)
      clear hk3 c0 c1 d0 d1
      go_wp2_with fail
      go_ret
      exact ⟨rfl, HK3.out⟩
    ·
      have hq : cmpH t1 t2 m c = 1 := by unfold cmpH; rw [if_neg (by omega), if_neg (by omega)]
      have hne : ¬ t1 = m := by omega
      have hnb : (t1 == m) = false := by simp [hne]
      have hnl : decide (t1 < m) = false := decide_eq_false (by omega)
      have hck : checkF [sx 1 ⟨#[107]⟩ m c t1 t2] = (0, false) := by rw [sx_ck1, hq]; rfl
      obtain ⟨W1, hW1⟩ : ∃ W, W = (((w.alloc (.cells #[.int .i64 m, .int .i64 c] 32)).alloc (.cells #[.int .i64 t1, .int .i64 t2] 32)).alloc (.cells #[.int .i64 1, .int .i64 0, .int .i64 0, .int .i64 0, .int .u8 0, .int .i64 m, .int .i64 c, .string { data := #[107] }, .string { data := #[] }, .slice none 0 0] 41)).alloc
        (.cells #[.int .i64 0, .int .i64 1, .int .i64 0, .int .i64 0, .int .i64 0, .int .u8 0, .int .i64 m, .int .i64 c, .string { data := #[107] }, .string { data := #[] }, .slice none 0 0, .int .i64 0, .int .i64 0, .int .i64 t1, .int .i64 t2, .bool false, .slice none 0 0, .slice none 0 0] 47) := ⟨_, rfl⟩
      have k1 : Kp No w W1 := by rw [hW1]; exact ((((Kp.refl _ _).alloc _).alloc _).alloc _).alloc _
      have b1 : W1.heap[w.heap.size + 1 + 1 + 1]? = some (.cells #[.int .i64 0, .int .i64 1, .int .i64 0, .int .i64 0, .int .i64 0, .int .u8 0, .int .i64 m, .int .i64 c, .string { data := #[107] }, .string { data := #[] }, .slice none 0 0, .int .i64 0, .int .i64 0, .int .i64 t1, .int .i64 t2, .bool false, .slice none 0 0, .slice none 0 0] 47 (0, 0)) := by
        rw [hW1]
        exact (congrArg (fun k => ((((w.alloc _).alloc _).alloc _).alloc _).heap[k]?) (by simp)).trans (heap_alloc_new (((w.alloc _).alloc _).alloc _) _)
      have b2 : W1.heap[w.heap.size]? = some (.cells #[.int .i64 m, .int .i64 c] 32 (0, 0)) := by rw [hW1]; exact alloc_far (alloc_far (alloc_far (heap_alloc_new w _) _) _) _
      have b3 : W1.heap[w.heap.size + 1]? = some (.cells #[.int .i64 t1, .int .i64 t2] 32 (0, 0)) := by rw [hW1]; exact alloc_far (alloc_far ((congrArg (fun k => ((w.alloc _).alloc _).heap[k]?) (by simp)).trans (heap_alloc_new (w.alloc _) _)) _) _
      have hcc := Check_any W1 (some ⟨w.heap.size + 1 + 1 + 1, 0, none⟩) 1 _ (sx_at (k := 1) (key := ⟨#[107]⟩) ⟨by decide, by decide⟩ hm hc h1 h2 b1 rfl) (by simp) (sx_li (by decide))
      rw [show ([sx 1 ⟨#[107]⟩ m c t1 t2] : List EvR).length = 1 from rfl, hck] at hcc
      have HC := Lib.hid hcc
      have HB2 := Lib.hid b2
      have HB3 := Lib.hid b3
      have HK1 := Lib.hid k1
      rw [hW1] at HC
      have HW1 := Lib.hid hW1
      clear hcc hm hc h1 h2 hq hck b1 b2 b3 k1 hW1
      go_enter Try.func5, Try.ntmps5
      go_upto_region 4 with (refine wpList_store_w rfl 41 _ _ rfl (w.heap.size + 1 + 1) (by simp) _ _ _ rfl rfl (by kernel_rfl) (by rfl) (by rfl) ?_)
      go_wp2_with fail
      refine HC.out.mono ?_
      rw [← HW1.out]
      rintro e w2 ⟨rfl, hk2⟩
      have HK2 := Lib.hid (HK1.out.trans_same hk2)
      have e2 := hk2.get HB2.out fun x => x
      have e3 := hk2.get HB3.out fun x => x
      have c0 : w2.cell? ⟨w.heap.size, 0, none⟩ = some (.int .i64 m) := by rw [cell_at e2]; rfl
      have c1 : w2.cell? ⟨w.heap.size, 1, none⟩ = some (.int .i64 c) := by rw [cell_at e2]; rfl
      have d0 : w2.cell? ⟨w.heap.size + 1, 0, none⟩ = some (.int .i64 t1) := by rw [cell_at e3]; rfl
      have d1 : w2.cell? ⟨w.heap.size + 1, 1, none⟩ = some (.int .i64 t2) := by rw [cell_at e3]; rfl
      clear hk2 e2 e3
      go_wp2_with fail
      refine (known_any _).mono ?_
      rintro e w3 ⟨rfl, hk3⟩
      have HK3 := Lib.hid (HK2.out.trans_same hk3)
      clear hk3 c0 c1 d0 d1
      go_wp2_with fail
      go_ret
      exact ⟨rfl, HK3.out⟩
  | true =>
    rcases hcases with hlt | ⟨rfl, hlt⟩ | ⟨rfl, rfl⟩ | ⟨rfl, hlt⟩ | hlt
    ·
      have hq : cmpH t1 t2 m c = -1 := by unfold cmpH; rw [if_pos (.inl hlt)]
      have hck : checkF [sx 3 ⟨#[]⟩ m c t1 t2] = (0, true) := by rw [sx_ck3, hq]; rfl
      obtain ⟨W1, hW1⟩ : ∃ W, W = (((w.alloc (.cells #[.int .i64 m, .int .i64 c] 32)).alloc (.cells #[.int .i64 t1, .int .i64 t2] 32)).alloc (.cells #[.int .i64 3, .int .i64 0, .int .i64 0, .int .i64 0, .int .u8 0, .int .i64 m, .int .i64 c, .string { data := #[] }, .string { data := #[] }, .slice none 0 0] 41)).alloc
        (.cells #[.int .i64 0, .int .i64 3, .int .i64 0, .int .i64 0, .int .i64 0, .int .u8 0, .int .i64 m, .int .i64 c, .string { data := #[] }, .string { data := #[] }, .slice none 0 0, .int .i64 0, .int .i64 0, .int .i64 t1, .int .i64 t2, .bool false, .slice none 0 0, .slice none 0 0] 47) := ⟨_, rfl⟩
      have k1 : Kp No w W1 := by rw [hW1]; exact ((((Kp.refl _ _).alloc _).alloc _).alloc _).alloc _
      have b1 : W1.heap[w.heap.size + 1 + 1 + 1]? = some (.cells #[.int .i64 0, .int .i64 3, .int .i64 0, .int .i64 0, .int .i64 0, .int .u8 0, .int .i64 m, .int .i64 c, .string { data := #[] }, .string { data := #[] }, .slice none 0 0, .int .i64 0, .int .i64 0, .int .i64 t1, .int .i64 t2, .bool false, .slice none 0 0, .slice none 0 0] 47 (0, 0)) := by
        rw [hW1]
        exact (congrArg (fun k => ((((w.alloc _).alloc _).alloc _).alloc _).heap[k]?) (by simp)).trans (heap_alloc_new (((w.alloc _).alloc _).alloc _) _)
      have b2 : W1.heap[w.heap.size]? = some (.cells #[.int .i64 m, .int .i64 c] 32 (0, 0)) := by rw [hW1]; exact alloc_far (alloc_far (alloc_far (heap_alloc_new w _) _) _) _
      have b3 : W1.heap[w.heap.size + 1]? = some (.cells #[.int .i64 t1, .int .i64 t2] 32 (0, 0)) := by rw [hW1]; exact alloc_far (alloc_far ((congrArg (fun k => ((w.alloc _).alloc _).heap[k]?) (by simp)).trans (heap_alloc_new (w.alloc _) _)) _) _
      have hcc := Check_any W1 (some ⟨w.heap.size + 1 + 1 + 1, 0, none⟩) 1 _ (sx_at (k := 3) (key := ⟨#[]⟩) ⟨by decide, by decide⟩ hm hc h1 h2 b1 rfl) (by simp) (sx_li (by decide))
      rw [show ([sx 3 ⟨#[]⟩ m c t1 t2] : List EvR).length = 1 from rfl, hck] at hcc
      have HC := Lib.hid hcc
      have HB2 := Lib.hid b2
      have HB3 := Lib.hid b3
      have HK1 := Lib.hid k1
      rw [hW1] at HC
      have HW1 := Lib.hid hW1
      clear hcc hm hc h1 h2 hq hck b1 b2 b3 k1 hW1
      go_enter Try.func5, Try.ntmps5
      go_upto_region 4 with (refine wpList_store_w rfl 41 _ _ rfl (w.heap.size + 1 + 1) (by simp) _ _ _ rfl rfl (by kernel_rfl) (by rfl) (by rfl) ?_)
      go_wp2_with fail
      refine HC.out.mono ?_
      rw [← HW1.out]
      rintro e w2 ⟨rfl, hk2⟩
      have HK2 := Lib.hid (HK1.out.trans_same hk2)
      have e2 := hk2.get HB2.out fun x => x
      have e3 := hk2.get HB3.out fun x => x
      have c0 : w2.cell? ⟨w.heap.size, 0, none⟩ = some (.int .i64 m) := by rw [cell_at e2]; rfl
      have c1 : w2.cell? ⟨w.heap.size, 1, none⟩ = some (.int .i64 c) := by rw [cell_at e2]; rfl
      have d0 : w2.cell? ⟨w.heap.size + 1, 0, none⟩ = some (.int .i64 t1) := by rw [cell_at e3]; rfl
      have d1 : w2.cell? ⟨w.heap.size + 1, 1, none⟩ = some (.int .i64 t2) := by rw [cell_at e3]; rfl
      clear hk2 e2 e3
      go_wp2_with fail
      refine (known_any _).mono ?_
      rintro e w3 ⟨rfl, hk3⟩
      have HK3 := Lib.hid (HK2.out.trans_same hk3)
      clear hk3 c0 c1 d0 d1
      go_wp2_with fail
      go_ret
      exact ⟨rfl, HK3.out⟩
    ·
      have hq : cmpH t1 t2 t1 c = -1 := by unfold cmpH; rw [if_pos (.inr ⟨rfl, hlt⟩)]
      have hck : checkF [sx 3 ⟨#[]⟩ t1 c t1 t2] = (0, true) := by rw [sx_ck3, hq]; rfl
      obtain ⟨W1, hW1⟩ : ∃ W, W = (((w.alloc (.cells #[.int .i64 t1, .int .i64 c] 32)).alloc (.cells #[.int .i64 t1, .int .i64 t2] 32)).alloc (.cells #[.int .i64 3, .int .i64 0, .int .i64 0, .int .i64 0, .int .u8 0, .int .i64 t1, .int .i64 c, .string { data := #[] }, .string { data := #[] }, .slice none 0 0] 41)).alloc
        (.cells #[.int .i64 0, .int .i64 3, .int .i64 0, .int .i64 0, .int .i64 0, .int .u8 0, .int .i64 t1, .int .i64 c, .string { data := #[] }, .string { data := #[] }, .slice none 0 0, .int .i64 0, .int .i64 0, .int .i64 t1, .int .i64 t2, .bool false, .slice none 0 0, .slice none 0 0] 47) := ⟨_, rfl⟩
      have k1 : Kp No w W1 := by rw [hW1]; exact ((((Kp.refl _ _).alloc _).alloc _).alloc _).alloc _
      have b1 : W1.heap[w.heap.size + 1 + 1 + 1]? = some (.cells #[.int .i64 0, .int .i64 3, .int .i64 0, .int .i64 0, .int .i64 0, .int .u8 0, .int .i64 t1, .int .i64 c, .string { data := #[] }, .string { data := #[] }, .slice none 0 0, .int .i64 0, .int .i64 0, .int .i64 t1, .int .i64 t2, .bool false, .slice none 0 0, .slice none 0 0] 47 (0, 0)) := by
        rw [hW1]
        exact (congrArg (fun k => ((((w.alloc _).alloc _).alloc _).alloc _).heap[k]?) (by simp)).trans (heap_alloc_new (((w.alloc _).alloc _).alloc _) _)
      have b2 : W1.heap[w.heap.size]? = some (.cells #[.int .i64 t1, .int .i64 c] 32 (0, 0)) := by rw [hW1]; exact alloc_far (alloc_far (alloc_far (heap_alloc_new w _) _) _) _
      have b3 : W1.heap[w.heap.size + 1]? = some (.cells #[.int .i64 t1, .int .i64 t2] 32 (0, 0)) := by rw [hW1]; exact alloc_far (alloc_far ((congrArg (fun k => ((w.alloc _).alloc _).heap[k]?) (by simp)).trans (heap_alloc_new (w.alloc _) _)) _) _
      have hcc := Check_any W1 (some ⟨w.heap.size + 1 + 1 + 1, 0, none⟩) 1 _ (sx_at (k := 3) (key := ⟨#[]⟩) ⟨by decide, by decide⟩ hm hc h1 h2 b1 rfl) (by simp) (sx_li (by decide))
      rw [show ([sx 3 ⟨#[]⟩ t1 c t1 t2] : List EvR).length = 1 from rfl, hck] at hcc
      have HC := Lib.hid hcc
      have HB2 := Lib.hid b2
      have HB3 := Lib.hid b3
      have HK1 := Lib.hid k1
      rw [hW1] at HC
      have HW1 := Lib.hid hW1
      clear hcc hm hc h1 h2 hq hck b1 b2 b3 k1 hW1
      go_enter Try.func5, Try.ntmps5
      go_upto_region 4 with (refine wpList_store_w rfl 41 _ _ rfl (w.heap.size + 1 + 1) (by simp) _ _ _ rfl rfl (by kernel_rfl) (by rfl) (by rfl) ?_)
      go_wp2_with fail
      refine HC.out.mono ?_
      rw [← HW1.out]
      rintro e w2 ⟨rfl, hk2⟩
      have HK2 := Lib.hid (HK1.out.trans_same hk2)
      have e2 := hk2.get HB2.out fun x => x
      have e3 := hk2.get HB3.out fun x => x
      have c0 : w2.cell? ⟨w.heap.size, 0, none⟩ = some (.int .i64 t1) := by rw [cell_at e2]; rfl
      have c1 : w2.cell? ⟨w.heap.size, 1, none⟩ = some (.int .i64 c) := by rw [cell_at e2]; rfl
      have d0 : w2.cell? ⟨w.heap.size + 1, 0, none⟩ = some (.int .i64 t1) := by rw [cell_at e3]; rfl
      have d1 : w2.cell? ⟨w.heap.size + 1, 1, none⟩ = some (.int .i64 t2) := by rw [cell_at e3]; rfl
      clear hk2 e2 e3
      go_wp2_with fail
      refine (known_any _).mono ?_
      rintro e w3 ⟨rfl, hk3⟩
      have HK3 := Lib.hid (HK2.out.trans_same hk3)
      clear hk3 c0 c1 d0 d1
      go_wp2_with fail
      go_ret
      exact ⟨rfl, HK3.out⟩
    ·
      have hq : cmpH t1 t2 t1 t2 = 0 := by unfold cmpH; rw [if_neg (by omega), if_pos ⟨rfl, rfl⟩]
      have hck : checkF [sx 3 ⟨#[]⟩ t1 t2 t1 t2] = (0, false) := by rw [sx_ck3, hq]; rfl
      obtain ⟨W1, hW1⟩ : ∃ W, W = (((w.alloc (.cells #[.int .i64 t1, .int .i64 t2] 32)).alloc (.cells #[.int .i64 t1, .int .i64 t2] 32)).alloc (.cells #[.int .i64 3, .int .i64 0, .int .i64 0, .int .i64 0, .int .u8 0, .int .i64 t1, .int .i64 t2, .string { data := #[] }, .string { data := #[] }, .slice none 0 0] 41)).alloc
        (.cells #[.int .i64 0, .int .i64 3, .int .i64 0, .int .i64 0, .int .i64 0, .int .u8 0, .int .i64 t1, .int .i64 t2, .string { data := #[] }, .string { data := #[] }, .slice none 0 0, .int .i64 0, .int .i64 0, .int .i64 t1, .int .i64 t2, .bool false, .slice none 0 0, .slice none 0 0] 47) := ⟨_, rfl⟩
      have k1 : Kp No w W1 := by rw [hW1]; exact ((((Kp.refl _ _).alloc _).alloc _).alloc _).alloc _
      have b1 : W1.heap[w.heap.size + 1 + 1 + 1]? = some (.cells #[.int .i64 0, .int .i64 3, .int .i64 0, .int .i64 0, .int .i64 0, .int .u8 0, .int .i64 t1, .int .i64 t2, .string { data := #[] }, .string { data := #[] }, .slice none 0 0, .int .i64 0, .int .i64 0, .int .i64 t1, .int .i64 t2, .bool false, .slice none 0 0, .slice none 0 0] 47 (0, 0)) := by
        rw [hW1]
        exact (congrArg (fun k => ((((w.alloc _).alloc _).alloc _).alloc _).heap[k]?) (by simp)).trans (heap_alloc_new (((w.alloc _).alloc _).alloc _) _)
      have b2 : W1.heap[w.heap.size]? = some (.cells #[.int .i64 t1, .int .i64 t2] 32 (0, 0)) := by rw [hW1]; exact alloc_far (alloc_far (alloc_far (heap_alloc_new w _) _) _) _
      have b3 : W1.heap[w.heap.size + 1]? = some (.cells #[.int .i64 t1, .int .i64 t2] 32 (0, 0)) := by rw [hW1]; exact alloc_far (alloc_far ((congrArg (fun k => ((w.alloc _).alloc _).heap[k]?) (by simp)).trans (heap_alloc_new (w.alloc _) _)) _) _
      have hcc := Check_any W1 (some ⟨w.heap.size + 1 + 1 + 1, 0, none⟩) 1 _ (sx_at (k := 3) (key := ⟨#[]⟩) ⟨by decide, by decide⟩ hm hc h1 h2 b1 rfl) (by simp) (sx_li (by decide))
      rw [show ([sx 3 ⟨#[]⟩ t1 t2 t1 t2] : List EvR).length = 1 from rfl, hck] at hcc
      have HC := Lib.hid hcc
      have HB2 := Lib.hid b2
      have HB3 := Lib.hid b3
      have HK1 := Lib.hid k1
      rw [hW1] at HC
      have HW1 := Lib.hid hW1
      clear hcc hm hc h1 h2 hq hck b1 b2 b3 k1 hW1
      go_enter Try.func5, Try.ntmps5
      go_upto_region 4 with (refine wpList_store_w rfl 41 _ _ rfl (w.heap.size + 1 + 1) (by simp) _ _ _ rfl rfl (by kernel_rfl) (by rfl) (by rfl) ?_)
      go_wp2_with fail
      refine HC.out.mono ?_
      rw [← HW1.out]
      rintro e w2 ⟨rfl, hk2⟩
      have HK2 := Lib.hid (HK1.out.trans_same hk2)
      have e2 := hk2.get HB2.out fun x => x
      have e3 := hk2.get HB3.out fun x => x
      have c0 : w2.cell? ⟨w.heap.size, 0, none⟩ = some (.int .i64 t1) := by rw [cell_at e2]; rfl
      have c1 : w2.cell? ⟨w.heap.size, 1, none⟩ = some (.int .i64 t2) := by rw [cell_at e2]; rfl
      have d0 : w2.cell? ⟨w.heap.size + 1, 0, none⟩ = some (.int .i64 t1) := by rw [cell_at e3]; rfl
      have d1 : w2.cell? ⟨w.heap.size + 1, 1, none⟩ = some (.int .i64 t2) := by rw [cell_at e3]; rfl
      clear hk2 e2 e3
      go_wp2_with fail
      refine (known_any _).mono ?_
      rintro e w3 ⟨rfl, hk3⟩
      have HK3 := Lib.hid (HK2.out.trans_same hk3)
      clear hk3 c0 c1 d0 d1
      go_wp2_with fail
      go_ret
      exact ⟨rfl, HK3.out⟩
    ·
      have hq : cmpH t1 t2 t1 c = 1 := by unfold cmpH; rw [if_neg (by omega), if_neg (by omega)]
      have hne : ¬ t2 = c := by omega
      have hnb : (t2 == c) = false := by simp [hne]
      have hnl : decide (t2 < c) = false := decide_eq_false (by omega)
      have hck : checkF [sx 3 ⟨#[]⟩ t1 c t1 t2] = (0, false) := by rw [sx_ck3, hq]; rfl
      obtain ⟨W1, hW1⟩ : ∃ W, W = (((w.alloc (.cells #[.int .i64 t1, .int .i64 c] 32)).alloc (.cells #[.int .i64 t1, .int .i64 t2] 32)).alloc (.cells #[.int .i64 3, .int .i64 0, .int .i64 0, .int .i64 0, .int .u8 0, .int .i64 t1, .int .i64 c, .string { data := #[] }, .string { data := #[] }, .slice none 0 0] 41)).alloc
        (.cells #[.int .i64 0, .int .i64 3, .int .i64 0, .int .i64 0, .int .i64 0, .int .u8 0, .int .i64 t1, .int .i64 c, .string { data := #[] }, .string { data := #[] }, .slice none 0 0, .int .i64 0, .int .i64 0, .int .i64 t1, .int .i64 t2, .bool false, .slice none 0 0, .slice none 0 0] 47) := ⟨_, rfl⟩
      have k1 : Kp No w W1 := by rw [hW1]; exact ((((Kp.refl _ _).alloc _).alloc _).alloc _).alloc _
      have b1 : W1.heap[w.heap.size + 1 + 1 + 1]? = some (.cells #[.int .i64 0, .int .i64 3, .int .i64 0, .int .i64 0, .int .i64 0, .int .u8 0, .int .i64 t1, .int .i64 c, .string { data := #[] }, .string { data := #[] }, .slice none 0 0, .int .i64 0, .int .i64 0, .int .i64 t1, .int .i64 t2, .bool false, .slice none 0 0, .slice none 0 0] 47 (0, 0)) := by
        rw [hW1]
        exact (congrArg (fun k => ((((w.alloc _).alloc _).alloc _).alloc _).heap[k]?) (by simp)).trans (heap_alloc_new (((w.alloc _).alloc _).alloc _) _)
      have b2 : W1.heap[w.heap.size]? = some (.cells #[.int .i64 t1, .int .i64 c] 32 (0, 0)) := by rw [hW1]; exact alloc_far (alloc_far (alloc_far (heap_alloc_new w _) _) _) _
      have b3 : W1.heap[w.heap.size + 1]? = some (.cells #[.int .i64 t1, .int .i64 t2] 32 (0, 0)) := by rw [hW1]; exact alloc_far (alloc_far ((congrArg (fun k => ((w.alloc _).alloc _).heap[k]?) (by simp)).trans (heap_alloc_new (w.alloc _) _)) _) _
      have hcc := Check_any W1 (some ⟨w.heap.size + 1 + 1 + 1, 0, none⟩) 1 _ (sx_at (k := 3) (key := ⟨#[]⟩) ⟨by decide, by decide⟩ hm hc h1 h2 b1 rfl) (by simp) (sx_li (by decide))
      rw [show ([sx 3 ⟨#[]⟩ t1 c t1 t2] : List EvR).length = 1 from rfl, hck] at hcc
      have HC := Lib.hid hcc
      have HB2 := Lib.hid b2
      have HB3 := Lib.hid b3
      have HK1 := Lib.hid k1
      rw [hW1] at HC
      have HW1 := Lib.hid hW1
      clear hcc hm hc h1 h2 hq hck b1 b2 b3 k1 hW1
      go_enter Try.func5, Try.ntmps5
      go_upto_region 4 with (refine wpList_store_w rfl 41 _ _ rfl (w.heap.size + 1 + 1) (by simp) _ _ _ rfl rfl (by kernel_rfl) (by rfl) (by rfl) ?_)
      go_wp2_with fail
      refine HC.out.mono ?_
      rw [← HW1.out]
      rintro e w2 ⟨rfl, hk2⟩
      have HK2 := Lib.hid (HK1.out.trans_same hk2)
      have e2 := hk2.get HB2.out fun x => x
      have e3 := hk2.get HB3.out fun x => x
      have c0 : w2.cell? ⟨w.heap.size, 0, none⟩ = some (.int .i64 t1) := by rw [cell_at e2]; rfl
      have c1 : w2.cell? ⟨w.heap.size, 1, none⟩ = some (.int .i64 c) := by rw [cell_at e2]; rfl
      have d0 : w2.cell? ⟨w.heap.size + 1, 0, none⟩ = some (.int .i64 t1) := by rw [cell_at e3]; rfl
      have d1 : w2.cell? ⟨w.heap.size + 1, 1, none⟩ = some (.int .i64 t2) := by rw [cell_at e3]; rfl
      clear hk2 e2 e3
      go_wp2_with fail
      refine (known_any _).mono ?_
      rintro e w3 ⟨rfl, hk3⟩
      have HK3 := Lib.hid (HK2.out.trans_same hk3)
      clear hk3 c0 c1 d0 d1
      go_wp2_with fail
      go_ret
      exact ⟨rfl, HK3.out⟩
    ·
      have hq : cmpH t1 t2 m c = 1 := by unfold cmpH; rw [if_neg (by omega), if_neg (by omega)]
      have hne : ¬ t1 = m := by omega
      have hnb : (t1 == m) = false := by simp [hne]
      have hnl : decide (t1 < m) = false := decide_eq_false (by omega)
      have hck : checkF [sx 3 ⟨#[]⟩ m c t1 t2] = (0, false) := by rw [sx_ck3, hq]; rfl
      obtain ⟨W1, hW1⟩ : ∃ W, W = (((w.alloc (.cells #[.int .i64 m, .int .i64 c] 32)).alloc (.cells #[.int .i64 t1, .int .i64 t2] 32)).alloc (.cells #[.int .i64 3, .int .i64 0, .int .i64 0, .int .i64 0, .int .u8 0, .int .i64 m, .int .i64 c, .string { data := #[] }, .string { data := #[] }, .slice none 0 0] 41)).alloc
        (.cells #[.int .i64 0, .int .i64 3, .int .i64 0, .int .i64 0, .int .i64 0, .int .u8 0, .int .i64 m, .int .i64 c, .string { data := #[] }, .string { data := #[] }, .slice none 0 0, .int .i64 0, .int .i64 0, .int .i64 t1, .int .i64 t2, .bool false, .slice none 0 0, .slice none 0 0] 47) := ⟨_, rfl⟩
      have k1 : Kp No w W1 := by rw [hW1]; exact ((((Kp.refl _ _).alloc _).alloc _).alloc _).alloc _
      have b1 : W1.heap[w.heap.size + 1 + 1 + 1]? = some (.cells #[.int .i64 0, .int .i64 3, .int .i64 0, .int .i64 0, .int .i64 0, .int .u8 0, .int .i64 m, .int .i64 c, .string { data := #[] }, .string { data := #[] }, .slice none 0 0, .int .i64 0, .int .i64 0, .int .i64 t1, .int .i64 t2, .bool false, .slice none 0 0, .slice none 0 0] 47 (0, 0)) := by
        rw [hW1]
        exact (congrArg (fun k => ((((w.alloc _).alloc _).alloc _).alloc _).heap[k]?) (by simp)).trans (heap_alloc_new (((w.alloc _).alloc _).alloc _) _)
      have b2 : W1.heap[w.heap.size]? = some (.cells #[.int .i64 m, .int .i64 c] 32 (0, 0)) := by rw [hW1]; exact alloc_far (alloc_far (alloc_far (heap_alloc_new w _) _) _) _
      have b3 : W1.heap[w.heap.size + 1]? = some (.cells #[.int .i64 t1, .int .i64 t2] 32 (0, 0)) := by rw [hW1]; exact alloc_far (alloc_far ((congrArg (fun k => ((w.alloc _).alloc _).heap[k]?) (by simp)).trans (heap_alloc_new (w.alloc _) _)) _) _
      have hcc := Check_any W1 (some ⟨w.heap.size + 1 + 1 + 1, 0, none⟩) 1 _ (sx_at (k := 3) (key := ⟨#[]⟩) ⟨by decide, by decide⟩ hm hc h1 h2 b1 rfl) (by simp) (sx_li (by decide))
      rw [show ([sx 3 ⟨#[]⟩ m c t1 t2] : List EvR).length = 1 from rfl, hck] at hcc
      have HC := Lib.hid hcc
      have HB2 := Lib.hid b2
      have HB3 := Lib.hid b3
      have HK1 := Lib.hid k1
      rw [hW1] at HC
      have HW1 := Lib.hid hW1
      clear hcc hm hc h1 h2 hq hck b1 b2 b3 k1 hW1
      go_enter Try.func5, Try.ntmps5
      go_upto_region 4 with (refine wpList_store_w rfl 41 _ _ rfl (w.heap.size + 1 + 1) (by simp) _ _ _ rfl rfl (by kernel_rfl) (by rfl) (by rfl) ?_)
      go_wp2_with fail
      refine HC.out.mono ?_
      rw [← HW1.out]
      rintro e w2 ⟨rfl, hk2⟩
      have HK2 := Lib.hid (HK1.out.trans_same hk2)
      have e2 := hk2.get HB2.out fun x => x
      have e3 := hk2.get HB3.out fun x => x
      have c0 : w2.cell? ⟨w.heap.size, 0, none⟩ = some (.int .i64 m) := by rw [cell_at e2]; rfl
      have c1 : w2.cell? ⟨w.heap.size, 1, none⟩ = some (.int .i64 c) := by rw [cell_at e2]; rfl
      have d0 : w2.cell? ⟨w.heap.size + 1, 0, none⟩ = some (.int .i64 t1) := by rw [cell_at e3]; rfl
      have d1 : w2.cell? ⟨w.heap.size + 1, 1, none⟩ = some (.int .i64 t2) := by rw [cell_at e3]; rfl
      clear hk2 e2 e3
      go_wp2_with fail
      refine (known_any _).mono ?_
      rintro e w3 ⟨rfl, hk3⟩
      have HK3 := Lib.hid (HK2.out.trans_same hk3)
      clear hk3 c0 c1 d0 d1
      go_wp2_with fail
      go_ret
      exact ⟨rfl, HK3.out⟩
end Go.Proofs.Ytojlccligmfcaaa
