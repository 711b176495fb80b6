/-
  A date as text: cal's Print.
-/
import Derived.Test.YtapikolgpmefbaaGreatDoorLPut
import Derived.Test.YtapikolgpmefbaaGreatDoorLText2
import Derived.Test.YtapikolgpmefbaaGreatDoorLIsD
import Derived.Lib.SlBytesConst
import Derived.Deep.CutRange
namespace Go.Proofs.YtapikolgpmefbaaGreatDoor
open Go.RowKit Go.Mer

theorem isD_nat {y m d : Nat} (h : isD y m d = true) : y < 10 ^ 4 ∧ m < 10 ^ 2 ∧ d < 10 ^ 2 := by
  unfold isD at h
  simp only [Bool.and_eq_true, decide_eq_true_iff] at h
  obtain ⟨⟨⟨⟨⟨h1, h2⟩, h3⟩, h4⟩, h5⟩, h6⟩ := h
  have hm := (monF_pos (y : Int).toNat (m : Int).toNat).2
  omega
theorem putL_0 (A Z : List UInt8) (k n : Nat) : putL A Z k 0 n = u8s (A ++ List.replicate k 48 ++ Z) := by
  unfold putL
  rw [rep_u8s, show digL n 0 ++ Z = Z from rfl, ← u8s_append, ← u8s_append]
theorem back_row (W : World) (D : Nat) (l : List UInt8) (h : RowM W D (u8s l)) (hl : l.length = 10) : (convert 43 9 (.slice (some ⟨D, 0, none⟩) 10 10)).run Tryz.prog W = .ok (.string ⟨l.toArray⟩) W := by
  rw [← hl]
  refine run_convert_bytes_back (P := Tryz.prog) W 43 9 5 ⟨D, 0, none⟩ l.length l Tryz.underlying43 Tryz.underlying5 Tryz.underlying9 (fun j hj => ?_)
  rw [Addr.add_lit, cell_atF h, List.getElem?_toArray]
  simp [u8s, u8, hj]
set_option maxRecDepth 100000 in
set_option maxHeartbeats 2000000 in
theorem cPrint_any (y m d : Nat) (h : isD y m d = true) (w : World) : Calls Tryz.prog 34 #[.agg #[.int .i64 y, .int .i64 m, .int .i64 d]] w fun e w' => e = .returned (.tuple #[.string ⟨(dateL y m d).toArray⟩, .int .i64 0]) ∧ Kp No w w' := by
  obtain ⟨hy, hm, hd⟩ := isD_nat h
  have his := fun W => cIs_any y m d W
  rw [h] at his
  unfold dvI at his
  obtain ⟨W0, hW0⟩ : ∃ W0, W0 = w.alloc (.cells #[.int .i64 y, .int .i64 m, .int .i64 d] 66 (0, 0)) := ⟨_, rfl⟩
  have hb : W0.heap[w.heap.size]? = some (.cells #[.int .i64 y, .int .i64 m, .int .i64 d] 66 (0, 0)) := by rw [hW0]; exact heap_alloc_new w _
  have HB := Lib.hid hb
  have HK0 := Lib.hid (show Kp No w W0 by rw [hW0]; exact (Kp.refl _ _).alloc _)
  have HW := Lib.hid hW0
  have HIS := Lib.hid his
  have HN := Lib.hid (And.intro hy (And.intro hm hd))
  clear hb hW0 his hy hm hd h
  have kc := fun (w : World) (C : Array Value) (n c : Nat) => Lib.run_convert_bytes_const (P := Tryz.prog) w 43 5 C n c Tryz.underlying43 Tryz.underlying5
  go_enter Tryz.func34, Tryz.ntmps34
  go_wp2_with fail
  rw [← HW.out]
  refine (HIS.out _).mono ?_
  rintro e w1 ⟨rfl, hk1⟩
  have HB1 := Lib.hid (hk1.get HB.out fun x => x)
  have HK1 := Lib.hid (HK0.out.trans_same hk1)
  clear hk1
  go_upto_region 4 with fail
  obtain ⟨W2, hW2⟩ : ∃ W, W = (w1.alloc (.cells #[.int .u8 48, .int .u8 48, .int .u8 48, .int .u8 48, .int .u8 45, .int .u8 48, .int .u8 48, .int .u8 45, .int .u8 48, .int .u8 48] 5 (10, 11))).alloc (.cells #[.slice (some ⟨w1.heap.size, 0, none⟩) 10 10] 43 (0, 0)) := ⟨_, rfl⟩
  have hk2 : Kp No w1 W2 := by rw [hW2]; exact ((Kp.refl _ _).alloc _).alloc _
  obtain ⟨D, hD⟩ : ∃ D, D = w1.heap.size := ⟨_, rfl⟩
  have hM : RowM W2 D (putL [] [45, 48, 48, 45, 48, 48] 4 0 y) := by
    rw [hW2, hD, putL_0]
    exact alloc_far (heap_alloc_new w1 _) _
  have hV : W2.heap[D + 1]? = some (.cells #[.slice (some ⟨D, 0, none⟩) 10 10] 43 (0, 0)) := by
    rw [hW2, hD]
    exact heap_alloc_new' (w1.alloc _) _ (by simp)
  have hb2 := hk2.get HB1.out fun x => x
  have hbl := get_lt HB1.out
  rw [← hW2, ← hD]
  have hkw := HK1.out.trans_same hk2
  have hDw : w.heap.size ≤ D := by rw [hD]; exact HK1.out.size
  have hbD : w.heap.size ≠ D := by omega
  clear hW2 hk2 HB1 HK1 hD hbl
  have hp1 := put_any W2 (D + 1) D y 4 3 [] [45, 48, 48, 45, 48, 48] hV (by omega) hM rfl HN.out.1 (by decide) (by decide)
  have HP1 := Lib.hid hp1
  have c0 := cell_at hb2 0
  have HB2 := Lib.hid hb2
  have HV2 := Lib.hid hV
  have HKW := Lib.hid hkw
  have HD := Lib.hid (And.intro hDw hbD)
  clear hp1 hb2 hV hM hkw hDw hbD
  go_wp2_with fail
  refine HP1.out.mono ?_
  clear c0 HP1
  rintro e w3 ⟨rfl, hm3, hk3⟩
  have hb3 := hk3.get HB2.out HD.out.2
  have hv3 := hk3.get HV2.out (show ¬ D + 1 = D by omega)
  rw [show u8s ([] ++ digL y 4 ++ [45, 48, 48, 45, 48, 48]) = putL (digL y 4 ++ [45]) [45, 48, 48] 2 0 m by rw [putL_0]; simp] at hm3
  have hp2 := put_any w3 (D + 1) D m 2 6 (digL y 4 ++ [45]) [45, 48, 48] hv3 (by omega) hm3 (by simp [digL_length]) HN.out.2.1 (by decide) (by simp [digL_length])
  have HP2 := Lib.hid hp2
  have c1 := cell_at hb3 1
  have HB3 := Lib.hid hb3
  have HV3 := Lib.hid hv3
  have HK3 := Lib.hid (HKW.out.trans hk3 (fun i hi he => absurd HD.out.1 (by rw [show i = D from he] at hi; omega)))
  clear hp2 hb3 hv3 hm3 hk3
  go_wp2_with fail
  refine HP2.out.mono ?_
  clear c1 HP2
  rintro e w4 ⟨rfl, hm4, hk4⟩
  have hb4 := hk4.get HB3.out HD.out.2
  have hv4 := hk4.get HV3.out (show ¬ D + 1 = D by omega)
  rw [show u8s (digL y 4 ++ [45] ++ digL m 2 ++ [45, 48, 48]) = putL (digL y 4 ++ [45] ++ digL m 2 ++ [45]) [] 2 0 d by rw [putL_0]; simp] at hm4
  have hp3 := put_any w4 (D + 1) D d 2 9 (digL y 4 ++ [45] ++ digL m 2 ++ [45]) [] hv4 (by omega) hm4 (by simp [digL_length]) HN.out.2.2 (by decide) (by simp [digL_length])
  have HP3 := Lib.hid hp3
  have c2 := cell_at hb4 2
  have HV4 := Lib.hid hv4
  have HK4 := Lib.hid (HK3.out.trans hk4 (fun i hi he => absurd HD.out.1 (by rw [show i = D from he] at hi; omega)))
  clear hp3 hb4 hv4 hm4 hk4
  go_wp2_with fail
  refine HP3.out.mono ?_
  clear c2 HP3
  rintro e w5 ⟨rfl, hm5, hk5⟩
  have hv5 := cell_at (hk5.get HV4.out (show ¬ D + 1 = D by omega)) 0
  rw [List.append_nil] at hm5
  have hcv := back_row w5 D _ hm5 (by simp [digL_length])
  have HK5 := Lib.hid (HK4.out.trans hk5 (fun i hi he => absurd HD.out.1 (by rw [show i = D from he] at hi; omega)))
  clear hm5 hk5
  go_wp2_with fail
  exact bodyPost_ret (v := .tuple #[.string ⟨(dateL y m d).toArray⟩, .int .i64 0]) (by simp [results, Tryz.results34, go_sem, dateL]) rfl ⟨rfl, HK5.out⟩
theorem cat3 (y m d : Nat) : (⟨(digL y 4).toArray⟩ : ByteArray) ++ ⟨#[45]⟩ ++ ⟨(digL m 2).toArray⟩ ++ ⟨#[45]⟩ ++ ⟨(digL d 2).toArray⟩ = ⟨(dateL y m d).toArray⟩ := by
  unfold dateL
  apply ByteArray.ext
  simp
set_option maxRecDepth 100000 in
set_option maxHeartbeats 2000000 in
theorem rPrint_any (y m d : Nat) (h : isD y m d = true) (w : World) : Calls Tryz.prog 37 #[.agg #[.int .i64 y, .int .i64 m, .int .i64 d]] w fun e w' => e = .returned (.tuple #[.string ⟨(dateL y m d).toArray⟩, .int .i64 0]) ∧ Kp No w w' := by
  obtain ⟨hy, hm, hd⟩ := isD_nat h
  have his := fun W => rcIs_any y m d W
  rw [h] at his
  unfold dvI at his
  obtain ⟨W0, hW0⟩ : ∃ W0, W0 = w.alloc (.cells #[.int .i64 y, .int .i64 m, .int .i64 d] 66 (0, 0)) := ⟨_, rfl⟩
  have hb : W0.heap[w.heap.size]? = some (.cells #[.int .i64 y, .int .i64 m, .int .i64 d] 66 (0, 0)) := by rw [hW0]; exact heap_alloc_new w _
  have HB := Lib.hid hb
  have HK0 := Lib.hid (show Kp No w W0 by rw [hW0]; exact (Kp.refl _ _).alloc _)
  have HW := Lib.hid hW0
  have HIS := Lib.hid his
  have HD := Lib.hid (fun (n k : Nat) (h1 : k ≤ 16) (h2 : n < 1000000) (W : World) => digits_any n k h1 h2 W)
  have d1 := HD.out y 4 (by decide) (by omega)
  have d2 := HD.out m 2 (by decide) (by omega)
  have d3 := HD.out d 2 (by decide) (by omega)
  have hcat := cat3 y m d
  obtain ⟨X1, hX1⟩ : ∃ X : ByteArray, X = ⟨(digL y 4).toArray⟩ := ⟨_, rfl⟩
  obtain ⟨X2, hX2⟩ : ∃ X : ByteArray, X = ⟨(digL m 2).toArray⟩ := ⟨_, rfl⟩
  obtain ⟨X3, hX3⟩ : ∃ X : ByteArray, X = ⟨(digL d 2).toArray⟩ := ⟨_, rfl⟩
  have s1 : X1.size = 4 := by rw [hX1]; exact digL_length 4 y
  have s2 : X2.size = 2 := by rw [hX2]; exact digL_length 2 m
  have s3 : X3.size = 2 := by rw [hX3]; exact digL_length 2 d
  rw [← hX1] at d1 hcat
  rw [← hX2] at d2 hcat
  rw [← hX3] at d3 hcat
  have HD1 := Lib.hid d1
  have HD2 := Lib.hid d2
  have HD3 := Lib.hid d3
  have HCAT := Lib.hid hcat
  clear hb hW0 his hy hm hd h HD d1 d2 d3 hX1 hX2 hX3 hcat
  go_enter Tryz.func37, Tryz.ntmps37
  go_wp2_with fail
  rw [← HW.out]
  refine (HIS.out _).mono ?_
  rintro e w1 ⟨rfl, hk1⟩
  have b0 : ∀ W, Kp No w1 W → W.cell? ⟨w.heap.size, 0, none⟩ = some (.int .i64 y) := fun W h => by rw [cell_at (h.get (hk1.get HB.out fun x => x) fun x => x)]; rfl
  have b1 : ∀ W, Kp No w1 W → W.cell? ⟨w.heap.size, 1, none⟩ = some (.int .i64 m) := fun W h => by rw [cell_at (h.get (hk1.get HB.out fun x => x) fun x => x)]; rfl
  have b2 : ∀ W, Kp No w1 W → W.cell? ⟨w.heap.size, 2, none⟩ = some (.int .i64 d) := fun W h => by rw [cell_at (h.get (hk1.get HB.out fun x => x) fun x => x)]; rfl
  have HK1 := Lib.hid (HK0.out.trans_same hk1)
  clear hk1
  go_wp2_with fail
  obtain ⟨W1, hW1⟩ : ∃ W, W = w1 := ⟨_, rfl⟩
  rw [← hW1] at b0 b1 b2 HK1 ⊢
  clear hW1
  refine wp_region_held' (Kp No _) [0,0,2,0,0,0,2,0,0,0,0,2,0,0,0] [0,1,4,5,9,10,2,3,6,7,8,11,12,13,14] (by kernel_rfl) (by kernel_rfl) (fun _ n h => h.drewN n) (Kp.refl _ _) ?_
  repeat (first
    | (apply wpOrd_skip rfl (by decide) rfl; (focus (go_simp; rfl)))
    | (apply wpOrd_pure rfl rfl rfl; (focus (intro _ _; go_simp; (try go_ints); rfl)); (focus (go_simp; rfl)))
    | (apply wpOrd_read rfl rfl rfl; (focus (intro _; go_simp; (try go_ints); rfl)); (focus (go_simp; rfl))))
  refine wpOrd_eff rfl rfl (fun q => ?_)
  go_wp2_with fail
  refine ((HD1.out _)).mono ?_
  rintro e w2 ⟨rfl, hk⟩
  have h1 : Kp No W1 w2 := (((Kp.refl No W1)).drewN q).trans_same hk
  clear hk
  go_wp2_with fail
  refine wpOrd_pure rfl rfl rfl (v := .string (X1 ++ ⟨#[45]⟩)) ?_ rfl ?_
  · intro _ _
    go_simp
  refine wpOrd_eff rfl rfl (fun q => ?_)
  go_wp2_with fail
  refine ((HD2.out _)).mono ?_
  rintro e w3 ⟨rfl, hk⟩
  have h2 : Kp No W1 w3 := ((h1).drewN q).trans_same hk
  clear hk
  go_wp2_with fail
  refine wpOrd_pure rfl rfl rfl (v := .string (X1 ++ ⟨#[45]⟩ ++ X2)) ?_ rfl ?_
  · intro _ _
    go_simp
  refine wpOrd_pure rfl rfl rfl (v := .string (X1 ++ ⟨#[45]⟩ ++ X2 ++ ⟨#[45]⟩)) ?_ rfl ?_
  · intro _ _
    go_simp
  refine wpOrd_eff rfl rfl (fun q => ?_)
  go_wp2_with fail
  refine ((HD3.out _)).mono ?_
  rintro e w4 ⟨rfl, hk⟩
  have h3 : Kp No W1 w4 := ((h2).drewN q).trans_same hk
  clear hk
  go_wp2_with fail
  refine wpOrd_pure rfl rfl rfl (v := .string (X1 ++ ⟨#[45]⟩ ++ X2 ++ ⟨#[45]⟩ ++ X3)) ?_ rfl ?_
  · intro _ _
    go_simp
  repeat (first
    | (apply wpOrd_skip rfl (by decide) rfl; (focus (go_simp; rfl)))
    | (apply wpOrd_pure rfl rfl rfl; (focus (intro _ _; go_simp; (try go_ints); rfl)); (focus (go_simp; rfl)))
    | (apply wpOrd_read rfl rfl rfl; (focus (intro _; go_simp; (try go_ints); rfl)); (focus (go_simp; rfl))))
  refine wpOrd_nil (fun nq => ?_)
  have H4 := Lib.hid (HK1.out.trans_same h3)
  clear h1 h2 h3 b0 b1 b2
  go_wp2_with fail
  exact bodyPost_ret (v := .tuple #[.string (X1 ++ ⟨#[45]⟩ ++ X2 ++ ⟨#[45]⟩ ++ X3), .int .i64 0]) (by simp [results, Tryz.results37, go_sem]) rfl ⟨by rw [HCAT.out], H4.out.drewN _⟩
theorem date_any (n : Int) (h : inF n = true) (w : World) : Calls Tryz.prog 16 #[.int .i64 n] w fun e w' => e = .returned (.string ⟨(dayL n).toArray⟩) ∧ Kp No w w' := by
  have hdt := fun W => Date_any n W
  unfold dateV at hdt
  rw [if_pos h] at hdt
  obtain ⟨N, hN1, hN2, hN3⟩ := inF_num h
  obtain ⟨hok, _⟩ := ymd_ok N hN1
  unfold dayL
  rw [hN3] at hdt ⊢
  obtain ⟨y, hy⟩ : ∃ y, y = (ymdF N).1 := ⟨_, rfl⟩
  obtain ⟨m, hm⟩ : ∃ y, y = (ymdF N).2.1 := ⟨_, rfl⟩
  obtain ⟨d, hd⟩ : ∃ y, y = (ymdF N).2.2 := ⟨_, rfl⟩
  rw [← hy, ← hm, ← hd] at hdt hok ⊢
  have HDT := Lib.hid hdt
  have HP := Lib.hid (fun W => cPrint_any y m d hok W)
  clear hdt hok hy hm hd hN1 hN2 hN3 h
  go_enter Tryz.func16, Tryz.ntmps16
  go_wp2_with fail
  refine (HDT.out _).mono ?_
  rintro e w1 ⟨rfl, hk1⟩
  have HK1 := Lib.hid hk1
  clear hk1
  go_wp2_with fail
  refine (HP.out _).mono ?_
  rintro e w2 ⟨rfl, hk2⟩
  have HK2 := Lib.hid ((HK1.out.alloc _).trans_same hk2)
  clear hk2
  go_wp2_with fail
  go_ret
  exact ⟨rfl, HK2.out⟩
theorem rdate_any (n : Int) (h : inF n = true) (w : World) : Calls Tryz.prog 19 #[.int .i64 n] w fun e w' => e = .returned (.string ⟨(dayL n).toArray⟩) ∧ Kp No w w' := by
  have hdt := fun W => rDate_any n W
  unfold dateV at hdt
  rw [if_pos h] at hdt
  obtain ⟨N, hN1, hN2, hN3⟩ := inF_num h
  obtain ⟨hok, _⟩ := ymd_ok N hN1
  unfold dayL
  rw [hN3] at hdt ⊢
  obtain ⟨y, hy⟩ : ∃ y, y = (ymdF N).1 := ⟨_, rfl⟩
  obtain ⟨m, hm⟩ : ∃ y, y = (ymdF N).2.1 := ⟨_, rfl⟩
  obtain ⟨d, hd⟩ : ∃ y, y = (ymdF N).2.2 := ⟨_, rfl⟩
  rw [← hy, ← hm, ← hd] at hdt hok ⊢
  have HDT := Lib.hid hdt
  have HP := Lib.hid (fun W => rPrint_any y m d hok W)
  clear hdt hok hy hm hd hN1 hN2 hN3 h
  go_enter Tryz.func19, Tryz.ntmps19
  go_wp2_with fail
  refine (HDT.out _).mono ?_
  rintro e w1 ⟨rfl, hk1⟩
  have HK1 := Lib.hid hk1
  clear hk1
  go_wp2_with fail
  refine (HP.out _).mono ?_
  rintro e w2 ⟨rfl, hk2⟩
  have HK2 := Lib.hid ((HK1.out.alloc _).trans_same hk2)
  clear hk2
  go_wp2_with fail
  go_ret
  exact ⟨rfl, HK2.out⟩
end Go.Proofs.YtapikolgpmefbaaGreatDoor
