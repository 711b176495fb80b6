/-
  A step and its answer as text: what 'known' asks.
-/
import Derived.Test.YthkbcfenjodbmaaDoorQuote
import Derived.Test.YthkbcfenjodbmaaDoorStrs
namespace Go.Proofs.YthkbcfenjodbmaaDoor
open Go.RowKit Go.Mer

/-- A constant's bytes. -/
theorem Rd.constL (W : World) (t : TypeId) (f : Nat × Nat) (C : Array Value) (xs : List Value) (hx : C.toList = xs) : Rd (W.alloc (.cells C t f)) (W.alloc (.cells C t f)).heap.size (some ⟨W.heap.size, 0, none⟩) xs := fun _ =>
  ⟨W.heap.size, 0, rfl, by simp, Nat.le_refl _, fun j u hu => by
    rw [cell_of_row _ _ _ _ _ _ (heap_alloc_new W _), Nat.zero_add]
    subst hx
    simpa using hu⟩
theorem dec_small (i : Nat) (hi : i < 100) (w : World) : Calls Tryd.prog 13 #[.int .i64 (i : Int)] w fun e w' => e = .returned (.string ⟨(Lib.decDigits i).toArray⟩) ∧ w' = w := by
  go_enter Tryd.func13, Tryd.ntmps13
  go_wp2_with fail
  refine (Tryd.strconv_Itoa_small i hi _).mono ?_
  rintro e w1 ⟨rfl, rfl⟩
  go_wp2_with fail
  go_ret
  exact ⟨rfl, rfl⟩
theorem dec_4 (w : World) : Calls Tryd.prog 13 #[.int .i64 4] w fun e w' => e = .returned (.string ⟨#[52]⟩) ∧ w' = w :=
  (dec_small 4 (by decide) w).mono fun e w' ⟨he, hw⟩ => ⟨by rw [he]; simp [Lib.decDigits], hw⟩
theorem dec_1 (w : World) : Calls Tryd.prog 13 #[.int .i64 1] w fun e w' => e = .returned (.string ⟨#[49]⟩) ∧ w' = w :=
  (dec_small 1 (by decide) w).mono fun e w' ⟨he, hw⟩ => ⟨by rw [he]; simp [Lib.decDigits], hw⟩
set_option maxRecDepth 100000 in
set_option maxHeartbeats 1000000 in
theorem Line_v (w : World) (g : Nat) (hr : Rd w w.heap.size (some ⟨g, 0, none⟩) (u8s [118])) :
    Calls Tryd.prog 10 #[.agg #[.int .i64 4, .int .i64 1, .int .i64 0, .int .i64 0, .int .u8 0, .int .i64 0, .int .i64 0, .string { data := #[] }, .string { data := #[] }, .slice none 0 0],
      .agg #[.int .i64 0, .int .i64 0, .int .i64 0, .int .i64 0, .bool true, .slice (some ⟨g, 0, none⟩) 1 1, .slice none 0 0]] w fun e w' => e = .returned (.string ⟨#[52, 32, 49, 32, 102, 111, 117, 110, 100, 32, 34, 118, 34]⟩) ∧ Kp No w w' := by
  obtain ⟨W1, hW1⟩ : ∃ W1, W1 = (w.alloc (.cells #[.int .i64 4, .int .i64 1, .int .i64 0, .int .i64 0, .int .u8 0, .int .i64 0, .int .i64 0, .string { data := #[] }, .string { data := #[] }, .slice none 0 0] 40)).alloc (.cells #[.int .i64 0, .int .i64 0, .int .i64 0, .int .i64 0, .bool true, .slice (some ⟨g, 0, none⟩) 1 1, .slice none 0 0] 34) := ⟨_, rfl⟩
  have H1 : Kp No w W1 := by rw [hW1]; exact ((Kp.refl _ _).alloc _).alloc _
  have b1 : W1.heap[w.heap.size]? = some (.cells #[.int .i64 4, .int .i64 1, .int .i64 0, .int .i64 0, .int .u8 0, .int .i64 0, .int .i64 0, .string { data := #[] }, .string { data := #[] }, .slice none 0 0] 40 (0, 0)) := by rw [hW1]; exact alloc_far (heap_alloc_new w _) _
  have b2 : W1.heap[w.heap.size + 1]? = some (.cells #[.int .i64 0, .int .i64 0, .int .i64 0, .int .i64 0, .bool true, .slice (some ⟨g, 0, none⟩) 1 1, .slice none 0 0] 34 (0, 0)) := by rw [hW1]; exact (congrArg (fun k => ((w.alloc _).alloc _).heap[k]?) (by simp)).trans (heap_alloc_new (w.alloc _) _)
  have c0 : ∀ W, Kp No W1 W → W.cell? ⟨w.heap.size, 0, none⟩ = some (.int .i64 4) := fun W h => by rw [cell_at (h.get b1 fun x => x)]; rfl
  have c1 : ∀ W, Kp No W1 W → W.cell? ⟨w.heap.size, 1, none⟩ = some (.int .i64 1) := fun W h => by rw [cell_at (h.get b1 fun x => x)]; rfl
  have HB := Lib.hid b2
  have HR := Lib.hid hr
  have HH := Lib.hid H1
  clear b1 b2 hr H1
  go_enter Tryd.func10, Tryd.ntmps10
  go_wp2_with fail
  rw [← hW1]
  clear hW1
  refine wp_region_held' (Kp No _) [0,0,2,0,0,2,2,0] [0,1,3,4,2,5,6,7] (by kernel_rfl) (by kernel_rfl) (fun _ n h => h.drewN n) (Kp.refl _ _) ?_
  repeat (first
    | (apply wpOrd_skip rfl (by decide) rfl; (focus (go_simp; rfl)))
    | (apply wpOrd_pure rfl rfl rfl; (focus (intro _ _; go_simp; (try go_ints); rfl)); (focus (go_simp; rfl)))
    | (apply wpOrd_read rfl rfl rfl; (focus (intro _; go_simp; (try go_ints); rfl)); (focus (go_simp; rfl))))
  refine wpOrd_eff rfl rfl (fun n1 => ?_)
  go_wp2_with fail
  refine (dec_4 _).mono ?_
  rintro e w2 ⟨rfl, rfl⟩
  go_wp2_with fail
  refine ⟨(Kp.refl _ _).drewN _, ?_⟩
  repeat (first
    | (apply wpOrd_skip rfl (by decide) rfl; (focus (go_simp; rfl)))
    | (apply wpOrd_pure rfl rfl rfl; (focus (intro _ _; go_simp; (try go_ints); rfl)); (focus (go_simp; rfl)))
    | (apply wpOrd_read rfl rfl rfl; (focus (intro _; go_simp; (try go_ints); rfl)); (focus (go_simp; rfl))))
  refine wpOrd_eff rfl rfl (fun n2 => ?_)
  go_wp2_with fail
  refine (dec_1 _).mono ?_
  rintro e w3 ⟨rfl, rfl⟩
  go_wp2_with fail
  refine ⟨(Kp.refl _ _).drewN _, ?_⟩
  repeat (first
    | (apply wpOrd_skip rfl (by decide) rfl; (focus (go_simp; rfl)))
    | (apply wpOrd_pure rfl rfl rfl; (focus (intro _ _; go_simp; (try go_ints); rfl)); (focus (go_simp; rfl)))
    | (apply wpOrd_read rfl rfl rfl; (focus (intro _; go_simp; (try go_ints); rfl)); (focus (go_simp; rfl))))
  refine wpOrd_eff rfl rfl (fun n3 => ?_)
  go_wp2_with fail
  refine ⟨((Kp.refl _ _).drewN _).alloc _, ?_⟩
  repeat (first
    | (apply wpOrd_skip rfl (by decide) rfl; (focus (go_simp; rfl)))
    | (apply wpOrd_pure rfl rfl rfl; (focus (intro _ _; go_simp; (try go_ints); rfl)); (focus (go_simp; rfl)))
    | (apply wpOrd_read rfl rfl rfl; (focus (intro _; go_simp; (try go_ints); rfl)); (focus (go_simp; rfl))))
  refine wpOrd_nil (fun nq => ?_)
  obtain ⟨W2, hW2⟩ : ∃ W2, W2 = ((W1.drewN (n1 + n2 + n3)).alloc (.cells #[.string ⟨#[52]⟩, .string ⟨#[49]⟩] 9)).drewN nq := ⟨_, rfl⟩
  have K2 : Kp No W1 W2 := by rw [hW2]; exact (((Kp.refl _ _).drewN _).alloc _).drewN _
  have M2 : MineS W1 W2 (.slice (some ⟨W1.heap.size, 0, none⟩) 2 2) 2 [⟨#[52]⟩, ⟨#[49]⟩] := by
    rw [hW2]
    exact (MineS.made W1 (W1.drewN (n1 + n2 + n3)) ((Kp.refl _ _).drewN _) _ _ 2 rfl (by simp [maxLen]) rfl).no ((Kp.refl _ _).drewN _)
  rw [← hW2]
  have b2 := K2.get HB.out fun x => x
  have d0 : W2.cell? ⟨w.heap.size + 1, 0, none⟩ = some (.int .i64 0) := by rw [cell_at b2]; rfl
  have d1 : W2.cell? ⟨w.heap.size + 1, 1, none⟩ = some (.int .i64 0) := by rw [cell_at b2]; rfl
  have d2 : W2.cell? ⟨w.heap.size + 1, 2, none⟩ = some (.int .i64 0) := by rw [cell_at b2]; rfl
  have d3 : W2.cell? ⟨w.heap.size + 1, 3, none⟩ = some (.int .i64 0) := by rw [cell_at b2]; rfl
  have d4 : W2.cell? ⟨w.heap.size + 1, 4, none⟩ = some (.bool true) := by rw [cell_at b2]; rfl
  have d5 : W2.cell? ⟨w.heap.size + 1, 5, none⟩ = some (.slice (some ⟨g, 0, none⟩) 1 1) := by rw [cell_at b2]; rfl
  have HM2 := Lib.hid M2
  have HB2 := Lib.hid b2
  have HK2 := Lib.hid K2
  clear hW2 c0 c1 M2 b2 K2
  go_wp2_with fail
  have hcc := Quote_any W2 (some ⟨g, 0, none⟩) 1 [118] ((HR.out.keep (HH.out.trans_same HK2.out) fun _ _ x => x).mono (HH.out.trans_same HK2.out).size (Nat.le_refl _)) (by decide)
  rw [show [(118 : UInt8)].length = 1 from rfl] at hcc
  with_reducible refine hcc.mono ?_
  clear hcc
  rintro e w3 ⟨rfl, hk3⟩
  rw [show quoS [118] = ⟨#[34, 118, 34]⟩ from by decide +kernel]
  have HM3 := Lib.hid (HM2.out.no hk3)
  have HK3 := Lib.hid (HK2.out.trans_same hk3)
  obtain ⟨F, hF⟩ : ∃ F : ByteArray, F = ⟨#[102, 111, 117, 110, 100, 32]⟩ ++ ⟨#[34, 118, 34]⟩ := ⟨_, rfl⟩
  obtain ⟨a4, c4, W4, hrun, hM⟩ := HM3.out.app #[.string F] [F] 1 rfl rfl (by omega)
  have b4 := hM.kp.get HB.out fun x => x
  have d6 : W4.cell? ⟨w.heap.size + 1, 6, none⟩ = some (.slice none 0 0) := by rw [cell_at b4]; rfl
  have HM4 := Lib.hid hM
  rw [hF] at hrun
  have HX := Lib.hid hrun
  have HF := Lib.hid hF
  clear hrun hM b4 hF hk3 d0 d1 d2 d3 d4 d5
  go_wp2_with (at_builtin; refine wpList_append_run rfl rfl rfl rfl HX.out ?_)
  go_loopw [5, 65] (fun s i wr => s = .slice a4 (2 + 1) c4 ∧ i = .int .i64 0 ∧ wr = W4) (fun _ _ _ => 0)
  case atStart => exact ⟨rfl, rfl, rfl⟩
  case round =>
    obtain ⟨rfl, rfl, rfl⟩ := hrel
    go_wp2_with fail
    have hjs : joinS ([⟨#[52]⟩, ⟨#[49]⟩] ++ [F]) ⟨#[32]⟩ = ⟨#[52, 32, 49, 32, 102, 111, 117, 110, 100, 32, 34, 118, 34]⟩ := by rw [show F = _ from HF.out]; decide +kernel
    have hcc := HM4.out.join (by omega) ⟨#[32]⟩ (by omega) (by rw [hjs]; decide)
    rw [hjs] at hcc
    clear hjs
    with_reducible refine hcc.mono ?_
    clear hcc
    rintro e w5 ⟨rfl, hk5⟩
    have hk := HH.out.trans_same hk5
    clear hk5
    go_wp2_with fail
    go_ret
    exact ⟨rfl, hk⟩
theorem known_any (w : World) : Calls Tryd.prog 7 #[] w fun e w' => e = .returned (.bool true) ∧ Kp No w w' := by
  have kc := fun (w : World) (C : Array Value) (n c : Nat) => Lib.run_convert_bytes_const (P := Tryd.prog) w 22 5 C n c Tryd.underlying22 Tryd.underlying5
  go_enter Tryd.func7, Tryd.ntmps7
  go_wp2_with fail
  have hk0 : Kp No w (w.alloc (.cells #[.int .u8 118] 5 (1, 2))) := (Kp.refl _ _).alloc _
  have hcc := Line_v (w.alloc (.cells #[.int .u8 118] 5 (1, 2))) w.heap.size (Rd.constL _ _ _ _ _ rfl)
  with_reducible refine hcc.mono ?_
  clear hcc
  rintro e w5 ⟨rfl, hk5⟩
  have hk := hk0.trans_same hk5
  clear hk5 hk0
  go_wp2_with fail
  go_ret
  exact ⟨rfl, hk⟩
end Go.Proofs.YthkbcfenjodbmaaDoor
