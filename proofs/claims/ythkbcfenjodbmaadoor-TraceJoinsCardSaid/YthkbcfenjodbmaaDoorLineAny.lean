/-
  A step and its answer as text, whatever they are.
-/
import Derived.Test.YthkbcfenjodbmaaDoorTrace
import Derived.Deep.Cut
namespace Go.Proofs.YthkbcfenjodbmaaDoor
open Go.RowKit Go.Mer

/-- The answer's box. -/
def Box (W : World) (b : Nat) (err n mi co : Int) (fo : Bool) (a : Option Addr) (l cap : Nat) (pa : Option Addr) (m pcap : Nat) : Prop :=
  W.cell? ⟨b, 0, none⟩ = some (.int .i64 err) ∧ W.cell? ⟨b, 1, none⟩ = some (.int .i64 n) ∧ W.cell? ⟨b, 2, none⟩ = some (.int .i64 mi) ∧ W.cell? ⟨b, 3, none⟩ = some (.int .i64 co) ∧
    W.cell? ⟨b, 4, none⟩ = some (.bool fo) ∧ W.cell? ⟨b, 5, none⟩ = some (.slice a l cap) ∧ W.cell? ⟨b, 6, none⟩ = some (.slice pa m pcap)
def LR (W1 wx : World) (s : Value) (X : List ByteArray) (j : Nat) : Prop := ∃ (a : Option Addr) (n c : Nat), s = .slice a n c ∧ n ≤ j ∧ 0 < n ∧ MineS W1 wx (.slice a n c) n X
theorem MineS.more {w W : World} {v : Value} {n : Nat} {X Y Z : List ByteArray} (h : MineS w W v n X) (hY : Y = []) (hZ : Z = X ++ Y) : MineS w W v n Z := by
  subst hY; subst hZ
  rw [List.append_nil]
  exact h
theorem MineS.as {w W : World} {v : Value} {n : Nat} {X Z : List ByteArray} (h : MineS w W v n X) (hZ : Z = X) : MineS w W v n Z := by
  subst hZ
  exact h
/-- []byte(s). -/
theorem conv_bytes (w : World) (s : ByteArray) : ∃ c W', (convert 9 22 (.string s)).run Tryd.prog w = .ok (.slice (some ⟨w.heap.size, 0, none⟩) s.size c) W' ∧ Kp No w W' ∧ Rd W' W'.heap.size (some ⟨w.heap.size, 0, none⟩) (u8s s.data.toList) ∧ W'.heap.size = w.heap.size + 1 := by
  refine ⟨_, _, run_bytes_of_string w 9 22 5 s Tryd.underlying9 Tryd.underlying22 Tryd.underlying5, ((Kp.refl _ _).drew).alloc _, fun _ => ⟨w.heap.size, 0, rfl, by simp, Nat.le_refl _, fun j u hu => ?_⟩, by simp⟩
  show (w.drew.alloc _).cell? ⟨w.drew.heap.size, 0 + j, none⟩ = _
  rw [cell_of_row _ _ _ _ _ _ (heap_alloc_new w.drew _)]
  rw [u8s_get?] at hu
  have hj : j < s.data.toList.length := by
    rcases Nat.lt_or_ge j s.data.toList.length with h | h
    · exact h
    · rw [List.getElem?_eq_none h] at hu; cases hu
  rw [List.getElem?_eq_getElem hj] at hu
  simp at hj
  unfold bytesRow
  rw [Nat.zero_add, Array.getElem?_append_left (by simpa using hj)]
  simp only [Array.getElem?_map, Array.getElem?_eq_getElem hj, Option.map_some, Option.some.injEq] at hu ⊢
  rw [← hu]
  simp [u8]
set_option maxRecDepth 100000 in
set_option maxHeartbeats 4000000 in
theorem Line_any (w : World) (kd nd : Int) (v2 v3 v4 v5 v6 v7 v8 v9 : Value) (err n mi co : Int) (fo : Bool) (a : Option Addr) (cap : Nat) (D : List UInt8) (pa : Option Addr) (pcap : Nat) (PS : List PairR)
    (hr : (AnsR.mk err n mi co fo a cap D pa pcap PS).At w) (hl : (AnsR.mk err n mi co fo a cap D pa pcap PS).light) (hk : I64 kd) (hn : I64 nd) (ht : Pow w) :
    Calls Tryd.prog 10 #[.agg #[.int .i64 kd, .int .i64 nd, v2, v3, v4, v5, v6, v7, v8, v9], .agg #[.int .i64 err, .int .i64 n, .int .i64 mi, .int .i64 co, .bool fo, .slice a D.length cap, .slice pa PS.length pcap]] w
      fun e w' => e = .returned (.string (lineS kd nd (AnsR.mk err n mi co fo a cap D pa pcap PS))) ∧ Kp No w w' := by
  obtain ⟨W1, hW1⟩ : ∃ W1, W1 = (w.alloc (.cells #[.int .i64 kd, .int .i64 nd, v2, v3, v4, v5, v6, v7, v8, v9] 40)).alloc (.cells #[.int .i64 err, .int .i64 n, .int .i64 mi, .int .i64 co, .bool fo, .slice a D.length cap, .slice pa PS.length pcap] 34) := ⟨_, rfl⟩
  have H1 : Kp No w W1 := by rw [hW1]; exact ((Kp.refl _ _).alloc _).alloc _
  have b1 : W1.heap[w.heap.size]? = some (.cells #[.int .i64 kd, .int .i64 nd, v2, v3, v4, v5, v6, v7, v8, v9] 40 (0, 0)) := by rw [hW1]; exact alloc_far (heap_alloc_new w _) _
  have b2 : W1.heap[w.heap.size + 1]? = some (.cells #[.int .i64 err, .int .i64 n, .int .i64 mi, .int .i64 co, .bool fo, .slice a D.length cap, .slice pa PS.length pcap] 34 (0, 0)) := by rw [hW1]; exact (congrArg (fun k => ((w.alloc _).alloc _).heap[k]?) (by simp)).trans (heap_alloc_new (w.alloc _) _)
  have c0 : ∀ W, Kp No W1 W → W.cell? ⟨w.heap.size, 0, none⟩ = some (.int .i64 kd) := fun W h => by rw [cell_at (h.get b1 fun x => x)]; rfl
  have c1 : ∀ W, Kp No W1 W → W.cell? ⟨w.heap.size, 1, none⟩ = some (.int .i64 nd) := fun W h => by rw [cell_at (h.get b1 fun x => x)]; rfl
  have HBX := Lib.hid (show ∀ W, Kp No W1 W → Box W (w.heap.size + 1) err n mi co fo a D.length cap pa PS.length pcap from fun W h => by
    have hb := h.get b2 fun x => x
    unfold Box
    rw [cell_at hb, cell_at hb, cell_at hb, cell_at hb, cell_at hb, cell_at hb, cell_at hb]
    exact ⟨rfl, rfl, rfl, rfl, rfl, rfl, rfl⟩)
  have HA := Lib.hid (hr.keep H1)
  have HT := Lib.hid (ht.keep H1)
  have HL := Lib.hid hl
  have HH := Lib.hid H1
  have HP := Lib.hid (partsOf_len hk hn hr.ints hl)
  have HK := Lib.hid (And.intro hk hn)
  clear b1 b2 hr H1 ht hl hk hn
  go_enter Tryd.func10, Tryd.ntmps10
  go_wp2_with fail
  rw [← hW1]
  clear hW1
  refine wp_region_held' (Kp No _) [0,0,2,0,0,2,2,0] [0,1,3,4,2,5,6,7] (by kernel_rfl) (by kernel_rfl) (fun _ n h => h.drewN n) (Kp.refl _ _) ?_
  repeat (first
    | (apply wpOrd_skip rfl (by decide) rfl; (focus (go_simp; rfl)))
    | (apply wpOrd_pure rfl rfl rfl; (focus (intro _ _; go_simp; (try go_ints); rfl)); (focus (go_simp; rfl)))
    | (apply wpOrd_read rfl rfl rfl; (focus (intro _; go_simp; (try go_ints); rfl)); (focus (go_simp; rfl))))
  refine wpOrd_eff rfl rfl (fun n1 => ?_)
  go_wp2_with fail
  refine (dec_any kd HK.out.1 _ (HT.out.keep ((Kp.refl _ _).drewN _))).mono ?_
  rintro e w2 ⟨rfl, hk2⟩
  have hk2' := hk2.of_drewN
  clear hk2
  go_wp2_with fail
  repeat (first
    | (apply wpOrd_skip rfl (by decide) rfl; (focus (go_simp; rfl)))
    | (apply wpOrd_pure rfl rfl rfl; (focus (intro _ _; go_simp; (try go_ints); rfl)); (focus (go_simp; rfl)))
    | (apply wpOrd_read rfl rfl rfl; (focus (intro _; go_simp; (try go_ints); rfl)); (focus (go_simp; rfl))))
  refine wpOrd_eff rfl rfl (fun n2 => ?_)
  go_wp2_with fail
  refine (dec_any nd HK.out.2 _ (HT.out.keep (hk2'.drewN _))).mono ?_
  rintro e w3 ⟨rfl, hk3⟩
  have hk3' := hk2'.trans_same hk3.of_drewN
  clear hk3 hk2'
  go_wp2_with fail
  repeat (first
    | (apply wpOrd_skip rfl (by decide) rfl; (focus (go_simp; rfl)))
    | (apply wpOrd_pure rfl rfl rfl; (focus (intro _ _; go_simp; (try go_ints); rfl)); (focus (go_simp; rfl)))
    | (apply wpOrd_read rfl rfl rfl; (focus (intro _; go_simp; (try go_ints); rfl)); (focus (go_simp; rfl))))
  refine wpOrd_eff rfl rfl (fun n3 => ?_)
  go_wp2_with fail
  refine ⟨(hk3'.drewN _).alloc _, ?_⟩
  repeat (first
    | (apply wpOrd_skip rfl (by decide) rfl; (focus (go_simp; rfl)))
    | (apply wpOrd_pure rfl rfl rfl; (focus (intro _ _; go_simp; (try go_ints); rfl)); (focus (go_simp; rfl)))
    | (apply wpOrd_read rfl rfl rfl; (focus (intro _; go_simp; (try go_ints); rfl)); (focus (go_simp; rfl))))
  refine wpOrd_nil (fun nq => ?_)
  obtain ⟨W2, hW2⟩ : ∃ W2, W2 = ((w3.drewN n3).alloc (.cells #[.string (decS kd), .string (decS nd)] 9)).drewN nq := ⟨_, rfl⟩
  have M2 : MineS W1 W2 (.slice (some ⟨w3.heap.size, 0, none⟩) 2 2) 2 [decS kd, decS nd] := by
    rw [hW2]
    exact (MineS.made W1 (w3.drewN n3) (hk3'.drewN _) _ _ 2 rfl (by simp [maxLen]) rfl).no ((Kp.refl _ _).drewN _)
  rw [← hW2]
  have HM := Lib.hid M2
  obtain ⟨d0, d1, d2, d3, d4, d5, d6⟩ := HBX.out _ M2.kp
  clear hW2 c0 c1 M2 hk3'
  go_upto_if 17 with fail
  go_cut [5] from 15 (fun s wx => LR W1 wx s ([decS kd, decS nd] ++ errP err) 3)
  case first =>
    by_cases he : err = 0
    · have HE := Lib.hid (show errP err = [] from if_pos he)
      go_wp2_with fail
      go_meet
      case rel => exact ⟨_, _, _, rfl, by omega, by omega, HM.out.more HE.out rfl⟩
    · have HE := Lib.hid (show errP err = [⟨#[101, 114, 114, 111, 114, 32]⟩ ++ decS err] from if_neg he)
      have he' : (err == 0) = false := by simp [he]
      clear he
      go_wp2_with fail
      refine (dec_any err HA.out.ints.1 _ (HT.out.keep HM.out.kp)).mono ?_
      rintro e w4 ⟨rfl, hk4⟩
      have hz := decS_len HA.out.ints.1
      obtain ⟨a9, c9, W9, hrun, hM9⟩ := (HM.out.no hk4).app #[.string (⟨#[101, 114, 114, 111, 114, 32]⟩ ++ decS err)] [(⟨#[101, 114, 114, 111, 114, 32]⟩ ++ decS err)] 1 rfl rfl (by omega)
      have HX := Lib.hid hrun
      have HM9 := Lib.hid hM9
      clear hrun hM9 hk4
      go_wp2_with (at_builtin; refine wpList_append_run rfl rfl rfl rfl HX.out ?_)
      go_meet
      case rel => exact ⟨_, _, _, rfl, by omega, by omega, HM9.out.as (by rw [HE.out])⟩
  case rest =>
  obtain ⟨a1, m1, c1, rfl, hm1, hm0, hM1⟩ := hcut
  have HM := Lib.hid hM1
  obtain ⟨d0, d1, d2, d3, d4, d5, d6⟩ := HBX.out _ hM1.kp
  clear hM1
  go_upto_if 27 with fail
  go_cut [5] from 25 (fun s wx => LR W1 wx s ([decS kd, decS nd] ++ errP err ++ nP n) 4)
  case first =>
    by_cases he : 0 < n
    · have HE := Lib.hid (show nP n = [⟨#[110, 61]⟩ ++ decS n] from if_pos he)
      go_wp2_with fail
      refine (dec_any n HA.out.ints.2.1 _ (HT.out.keep HM.out.kp)).mono ?_
      rintro e w4 ⟨rfl, hk4⟩
      have hz := decS_len HA.out.ints.2.1
      obtain ⟨a9, c9, W9, hrun, hM9⟩ := (HM.out.no hk4).app #[.string (⟨#[110, 61]⟩ ++ decS n)] [(⟨#[110, 61]⟩ ++ decS n)] 1 rfl rfl (by omega)
      have HX := Lib.hid hrun
      have HM9 := Lib.hid hM9
      clear hrun hM9 hk4
      go_wp2_with (at_builtin; refine wpList_append_run rfl rfl rfl rfl HX.out ?_)
      go_meet
      case rel => exact ⟨_, _, _, rfl, by omega, by omega, HM9.out.as (by rw [HE.out])⟩
    · have HE := Lib.hid (show nP n = [] from if_neg he)
      go_wp2_with fail
      go_meet
      case rel => exact ⟨_, _, _, rfl, by omega, by omega, HM.out.more HE.out rfl⟩
  case rest =>
  obtain ⟨a1, m1, c1, rfl, hm1, hm0, hM1⟩ := hcut
  have HM := Lib.hid hM1
  obtain ⟨d0, d1, d2, d3, d4, d5, d6⟩ := HBX.out _ hM1.kp
  clear hM1
  obtain ⟨z, hz⟩ : ∃ z : Bool, z = !decide (mi = 0 ∧ co = 0) := ⟨_, rfl⟩
  have HZ := Lib.hid hz
  clear hz
  go_upto_region 6 with fail
  go_cut [38] from 35 (fun s wx => s = .bool z ∧ wc = wx)
  case first =>
    cases hb1 : (mi == 0) <;> cases hb2 : (co == 0)
    all_goals
      go_wp2_with fail
      go_meet
      case rel => exact ⟨by rw [HZ.out]; simp_all, rfl⟩
  case rest =>
  obtain ⟨rfl, rfl⟩ := hcut
  go_upto_if 38 with fail
  go_cut [5] from 39 (fun s wx => LR W1 wx s ([decS kd, decS nd] ++ errP err ++ nP n ++ atP mi co) 5)
  case first =>
    cases z with
    | false =>
      have he : mi = 0 ∧ co = 0 := by simpa using HZ.out
      have HE := Lib.hid (show atP mi co = [] from if_pos he)
      clear he
      go_wp2_with fail
      go_meet
      case rel => exact ⟨_, _, _, rfl, by omega, by omega, HM.out.more HE.out rfl⟩
    | true =>
      have he : ¬ (mi = 0 ∧ co = 0) := by have h := HZ.out; simp at h; omega
      have HE := Lib.hid (show atP mi co = [⟨#[97, 116, 61]⟩ ++ decS mi ++ ⟨#[46]⟩ ++ decS co] from if_neg he)
      have cM : ∀ W, Kp No W1 W → W.cell? ⟨w.heap.size + 1, 2, none⟩ = some (.int .i64 mi) := fun W h => (HBX.out W h).2.2.1
      have cC : ∀ W, Kp No W1 W → W.cell? ⟨w.heap.size + 1, 3, none⟩ = some (.int .i64 co) := fun W h => (HBX.out W h).2.2.2.1
      have hz1 := decS_len HA.out.ints.2.2.1
      have hz2 := decS_len HA.out.ints.2.2.2
      clear he d0 d1 d2 d3 d4 d5 d6
      go_wp2_with fail
      refine wp_region_held' (Kp No W1) [0,0,0,0,2,0,0,0,0,0,2,0,2,2,0] [0,1,2,3,7,8,9,4,5,6,10,11,12,13,14] (by kernel_rfl) (by kernel_rfl) (fun _ n h => h.drewN n) HM.out.kp ?_
      repeat (first
        | (apply wpOrd_skip rfl (by decide) rfl; (focus (go_simp; rfl)))
        | (apply wpOrd_pure rfl rfl rfl; (focus (intro _ _; go_simp; (try go_ints); rfl)); (focus (go_simp; rfl)))
        | (apply wpOrd_read rfl rfl rfl; (focus (intro _; go_simp; (try go_ints); rfl)); (focus (go_simp; rfl))))
      refine wpOrd_eff rfl rfl (fun n1 => ?_)
      go_wp2_with fail
      refine (dec_any mi HA.out.ints.2.2.1 _ (HT.out.keep (HM.out.kp.drewN _))).mono ?_
      rintro e w4 ⟨rfl, hk4⟩
      have HM4 := Lib.hid (HM.out.no hk4.of_drewN)
      have hw4 := HM4.out.kp
      clear hk4
      go_wp2_with fail
      refine wpOrd_pure rfl rfl rfl (v := .string (⟨#[97, 116, 61]⟩ ++ decS mi)) ?_ rfl ?_
      · intro _ _
        go_simp
        omega
      have s1 : ((⟨#[97, 116, 61]⟩ : ByteArray) ++ decS mi).size ≤ 24 := by rw [ByteArray.size_append]; show 3 + _ ≤ _; omega
      refine wpOrd_pure rfl rfl rfl (v := .string (⟨#[97, 116, 61]⟩ ++ decS mi ++ ⟨#[46]⟩)) ?_ rfl ?_
      · intro _ _
        go_simp
        omega
      repeat (first
        | (apply wpOrd_skip rfl (by decide) rfl; (focus (go_simp; rfl)))
        | (apply wpOrd_pure rfl rfl rfl; (focus (intro _ _; go_simp; (try go_ints); rfl)); (focus (go_simp; rfl)))
        | (apply wpOrd_read rfl rfl rfl; (focus (intro _; go_simp; (try go_ints); rfl)); (focus (go_simp; rfl))))
      refine wpOrd_eff rfl rfl (fun n2 => ?_)
      go_wp2_with fail
      refine (dec_any co HA.out.ints.2.2.2 _ (HT.out.keep (hw4.drewN _))).mono ?_
      rintro e w5 ⟨rfl, hk5⟩
      have HM5 := Lib.hid (HM4.out.no hk5.of_drewN)
      have hw5 := HM5.out.kp
      clear hk5
      go_wp2_with fail
      have s2 : ((⟨#[97, 116, 61]⟩ : ByteArray) ++ decS mi ++ ⟨#[46]⟩).size ≤ 25 := by rw [ByteArray.size_append]; show _ + 1 ≤ _; omega
      refine wpOrd_pure rfl rfl rfl (v := .string (⟨#[97, 116, 61]⟩ ++ decS mi ++ ⟨#[46]⟩ ++ decS co)) ?_ rfl ?_
      · intro _ _
        go_simp
        omega
      repeat (first
        | (apply wpOrd_skip rfl (by decide) rfl; (focus (go_simp; rfl)))
        | (apply wpOrd_pure rfl rfl rfl; (focus (intro _ _; go_simp; (try go_ints); rfl)); (focus (go_simp; rfl)))
        | (apply wpOrd_read rfl rfl rfl; (focus (intro _; go_simp; (try go_ints); rfl)); (focus (go_simp; rfl))))
      refine wpOrd_eff rfl rfl (fun n3 => ?_)
      go_wp2_with fail
      refine ⟨(hw5.drewN _).alloc _, ?_⟩
      refine wpOrd_eff rfl rfl (fun n4 => ?_)
      obtain ⟨a9, c9, W9, hrun, hM9⟩ := HM5.out.app4 n3 n4 #[.string (⟨#[97, 116, 61]⟩ ++ decS mi ++ ⟨#[46]⟩ ++ decS co)] [⟨#[97, 116, 61]⟩ ++ decS mi ++ ⟨#[46]⟩ ++ decS co] 1 rfl rfl (by omega)
      have HM9 := Lib.hid hM9
      refine wpList_append_run rfl rfl rfl rfl hrun (wpList_nil ⟨rfl, hM9.kp, ?_⟩)
      clear hrun hM9
      repeat (first
        | (apply wpOrd_skip rfl (by decide) rfl; (focus (go_simp; rfl)))
        | (apply wpOrd_pure rfl rfl rfl; (focus (intro _ _; go_simp; (try go_ints); rfl)); (focus (go_simp; rfl)))
        | (apply wpOrd_read rfl rfl rfl; (focus (intro _; go_simp; (try go_ints); rfl)); (focus (go_simp; rfl))))
      refine wpOrd_nil (fun nq => ?_)
      go_wp2_with fail
      go_meet
      case rel => exact ⟨_, _, _, rfl, by omega, by omega, (HM9.out.no ((Kp.refl _ _).drewN nq)).as (by rw [HE.out])⟩
  case rest =>
  obtain ⟨a1, m1, c1, rfl, hm1, hm0, hM1⟩ := hcut
  have HM := Lib.hid hM1
  obtain ⟨d0, d1, d2, d3, d4, d5, d6⟩ := HBX.out _ hM1.kp
  clear hM1
  go_upto_if 54 with fail
  go_cut [5] from 53 (fun s wx => LR W1 wx s ([decS kd, decS nd] ++ errP err ++ nP n ++ atP mi co ++ foundP fo D) 6)
  case first =>
    cases fo with
    | false =>
      have HE := Lib.hid (show foundP false D = [] from rfl)
      go_wp2_with fail
      go_meet
      case rel => exact ⟨_, _, _, rfl, by omega, by omega, HM.out.more HE.out rfl⟩
    | true =>
      have HE := Lib.hid (show foundP true D = [⟨#[102, 111, 117, 110, 100, 32]⟩ ++ quoS D] from rfl)
      go_wp2_with fail
      refine (Quote_any _ a cap D ((HA.out.keep HM.out.kp).val) HL.out.val).mono ?_
      rintro e w4 ⟨rfl, hk4⟩
      have hz := quoS_len D
      have hz' := HL.out.val
      obtain ⟨a9, c9, W9, hrun, hM9⟩ := (HM.out.no hk4).app #[.string (⟨#[102, 111, 117, 110, 100, 32]⟩ ++ quoS D)] [(⟨#[102, 111, 117, 110, 100, 32]⟩ ++ quoS D)] 1 rfl rfl (by omega)
      have HX := Lib.hid hrun
      have HM9 := Lib.hid hM9
      clear hrun hM9 hk4
      go_wp2_with (at_builtin; refine wpList_append_run rfl rfl rfl rfl HX.out ?_)
      go_meet
      case rel => exact ⟨_, _, _, rfl, by omega, by omega, HM9.out.as (by rw [HE.out])⟩
  case rest =>
  obtain ⟨a1, m1, c1, rfl, hm1, hm0, hM1⟩ := hcut
  have HM := Lib.hid hM1
  obtain ⟨d0, d1, d2, d3, d4, d5, d6⟩ := HBX.out _ hM1.kp
  clear hM1
  go_wp2_with fail
  go_loopw [5, 65] (fun s i wr => ∃ k : Nat, k ≤ PS.length ∧ i = .int .i64 (k : Int) ∧ LR W1 wr s ([decS kd, decS nd] ++ errP err ++ nP n ++ atP mi co ++ foundP fo D ++ (PS.take k).map pairP) (6 + k)) (fun _ i _ => PS.length - (intOf i).toNat)
  case atStart => exact ⟨0, Nat.zero_le _, rfl, _, _, _, rfl, hm1, hm0, HM.out.as (by simp)⟩
  case round =>
    obtain ⟨k, hk, rfl, a2, m2, c2, rfl, hm2, hm3, hM2⟩ := hrel
    have HM2 := Lib.hid hM2
    have hkp := hM2.kp
    have hmany : PS.length ≤ 4000 := HL.out.many
    clear hM2 d0 d1 d2 d3 d4 d5 d6
    by_cases hlt : k < PS.length
    · obtain ⟨q0, q1⟩ := pairC_get PS hlt
      have HE := Lib.hid (show (PS.take (k + 1)).map pairP = (PS.take k).map pairP ++ [pairP PS[k]] from by rw [List.take_succ_eq_append_getElem hlt, List.map_append]; rfl)
      have hLk := HL.out.each _ (List.getElem_mem hlt)
      have hRk := HA.out.each _ (List.getElem_mem hlt)
      obtain ⟨P, hP⟩ : ∃ P, P = PS[k] := ⟨_, rfl⟩
      rw [← hP] at q0 q1 HE hLk hRk
      obtain ⟨g, off, rfl, hg, _, l0⟩ := (HA.out.keep hkp).top.at_ q0
      obtain ⟨g', off', e', _, _, l1⟩ := (HA.out.keep hkp).top.at_ q1
      injection e' with e'
      injection e' with e1 e2 _
      subst e1; subst e2
      have HRk := Lib.hid hRk
      obtain ⟨key, pav, pcv, dat⟩ := P
      obtain ⟨hL1, hL2⟩ := hLk
      rw [← Nat.add_assoc] at l1
      clear q0 q1 hP hRk
      go_wp2_with fail
      have hlw : ∀ b, (Value.slice a2 m2 c2).ownBlock = some b → b < wr.heap.size := fun b hb => HM2.out.2.1.lt b hb
      obtain ⟨Wp, hWp⟩ : ∃ Wp, Wp = wr.alloc (.cells #[.string key, .slice pav dat.length pcv] 42) := ⟨_, rfl⟩
      have hap : Kp No wr Wp := by rw [hWp]; exact (Kp.refl _ _).alloc _
      have bp : Wp.heap[wr.heap.size]? = some (.cells #[.string key, .slice pav dat.length pcv] 42 (0, 0)) := by rw [hWp]; exact heap_alloc_new wr _
      have p0 : ∀ W, Kp (fun k => (Value.slice a2 m2 c2).ownBlock = some k) Wp W → W.cell? ⟨wr.heap.size, 0, none⟩ = some (.string key) := fun W h => by rw [cell_at (h.get bp fun x => by have := hlw _ x; omega)]; rfl
      have p1 : ∀ W, Kp (fun k => (Value.slice a2 m2 c2).ownBlock = some k) Wp W → W.cell? ⟨wr.heap.size, 1, none⟩ = some (.slice pav dat.length pcv) := fun W h => by rw [cell_at (h.get bp fun x => by have := hlw _ x; omega)]; rfl
      have HMp := Lib.hid (HM2.out.no hap)
      rw [← hWp]
      clear hWp bp hap hlw l0 l1 hg
      refine wp_region_held' (Kp (fun k => (Value.slice a2 m2 c2).ownBlock = some k) Wp) [0,0,0,2,2,0,0,0,2,0,2,2,0] [0,1,6,2,7,3,4,5,8,9,10,11,12] (by kernel_rfl) (by kernel_rfl) (fun _ n h => h.drewN n) (Kp.refl _ _) ?_
      repeat (first
        | (apply wpOrd_skip rfl (by decide) rfl; (focus (go_simp; rfl)))
        | (apply wpOrd_pure rfl rfl rfl; (focus (intro _ _; go_simp; (try go_ints); rfl)); (focus (go_simp; rfl)))
        | (apply wpOrd_read rfl rfl rfl; (focus (intro _; go_simp; (try go_ints); rfl)); (focus (go_simp; rfl))))
      refine wpOrd_eff rfl rfl (fun n1 => ?_)
      obtain ⟨cc, W4, hrun, hk4, hr4, hs4⟩ := conv_bytes (Wp.drewN n1) key
      have k4 : Kp No Wp W4 := hk4.of_drewN
      have hkl : key.data.toList.length = key.size := Array.length_toList
      have HQ := Lib.hid (fun n2 => (show Calls _ _ _ (W4.drewN n2) _ from (Quote_any (W4.drewN n2) _ cc key.data.toList (hr4.kp ((Kp.refl _ _).drewN _)) (by rw [hkl]; exact hL1))))
      rw [hkl] at HQ
      have hz1 := quoS_len key.data.toList
      have hz2 := quoS_len dat
      have hL1' : key.size ≤ 4000 := hL1
      have hL2' : dat.length ≤ 4000 := hL2
      rw [hkl] at hz1
      have k4' : Kp (fun k => (Value.slice a2 m2 c2).ownBlock = some k) Wp W4 := k4.of_no
      have K4 := Lib.hid k4
      clear hk4 hr4 hs4 hkl k4 hL1 hL2
      go_wp2_with fail
      refine wpOrd_eff rfl rfl (fun n2 => ?_)
      clear hrun
      go_wp2_with fail
      refine (HQ.out n2).mono ?_
      rintro e w5 ⟨rfl, hk5⟩
      have k5 : Kp No Wp w5 := K4.out.trans_same hk5.of_drewN
      have k5' : Kp (fun k => (Value.slice a2 m2 c2).ownBlock = some k) Wp w5 := k5.of_no
      have K5 := Lib.hid k5
      clear hk5 k4' k5
      go_wp2_with fail
      refine wpOrd_pure rfl rfl rfl (v := .string (quoS key.data.toList ++ ⟨#[61]⟩)) ?_ rfl ?_
      · intro _ _
        go_simp
        omega
      repeat (first
        | (apply wpOrd_skip rfl (by decide) rfl; (focus (go_simp; rfl)))
        | (apply wpOrd_pure rfl rfl rfl; (focus (intro _ _; go_simp; (try go_ints); rfl)); (focus (go_simp; rfl)))
        | (apply wpOrd_read rfl rfl rfl; (focus (intro _; go_simp; (try go_ints); rfl)); (focus (go_simp; rfl))))
      have s1 : (quoS key.data.toList ++ ⟨#[61]⟩).size ≤ 16003 := by rw [ByteArray.size_append]; show _ + 1 ≤ _; omega
      refine wpOrd_eff rfl rfl (fun n3 => ?_)
      have hq := Quote_any (w5.drewN n3) pav pcv dat (HRk.out.kp ((HMp.out.kp.trans_same K5.out).drewN n3)) hL2'
      have HQ2 := Lib.hid hq
      clear hq
      go_wp2_with fail
      refine HQ2.out.mono ?_
      rintro e w6 ⟨rfl, hk6⟩
      have k6 : Kp No Wp w6 := K5.out.trans_same hk6.of_drewN
      have k6' : Kp (fun k => (Value.slice a2 m2 c2).ownBlock = some k) Wp w6 := k6.of_no
      have K6 := Lib.hid k6
      clear hk6 k5' k6
      go_wp2_with fail
      refine wpOrd_pure rfl rfl rfl (v := .string (quoS key.data.toList ++ ⟨#[61]⟩ ++ quoS dat)) ?_ rfl ?_
      · intro _ _
        go_simp
        omega
      repeat (first
        | (apply wpOrd_skip rfl (by decide) rfl; (focus (go_simp; rfl)))
        | (apply wpOrd_pure rfl rfl rfl; (focus (intro _ _; go_simp; (try go_ints); rfl)); (focus (go_simp; rfl)))
        | (apply wpOrd_read rfl rfl rfl; (focus (intro _; go_simp; (try go_ints); rfl)); (focus (go_simp; rfl))))
      refine wpOrd_eff rfl rfl (fun n4 => ?_)
      go_wp2_with fail
      refine ⟨(k6'.drewN _).alloc _, ?_⟩
      refine wpOrd_eff rfl rfl (fun n5 => ?_)
      obtain ⟨a9, c9, W9, hrun, hM9, hK9⟩ := (HMp.out.no K6.out).app4k n4 n5 #[.string (quoS key.data.toList ++ ⟨#[61]⟩ ++ quoS dat)] [quoS key.data.toList ++ ⟨#[61]⟩ ++ quoS dat] 1 rfl rfl (by omega)
      have HM9 := Lib.hid hM9
      refine wpList_append_run rfl rfl rfl rfl hrun (wpList_nil ⟨rfl, k6'.trans_same hK9, ?_⟩)
      clear hrun hM9 hK9 k6'
      repeat (first
        | (apply wpOrd_skip rfl (by decide) rfl; (focus (go_simp; rfl)))
        | (apply wpOrd_pure rfl rfl rfl; (focus (intro _ _; go_simp; (try go_ints); rfl)); (focus (go_simp; rfl)))
        | (apply wpOrd_read rfl rfl rfl; (focus (intro _; go_simp; (try go_ints); rfl)); (focus (go_simp; rfl))))
      refine wpOrd_nil (fun nq => ?_)
      go_wp2_with fail
      go_roundw
      case rel => exact ⟨k + 1, by omega, by go_num, _, _, _, rfl, by omega, by omega, (HM9.out.no ((Kp.refl _ _).drewN nq)).as (by rw [HE.out, ← List.append_assoc]; rfl)⟩
      case measure => simp [intOf]; omega
    · obtain rfl : k = PS.length := by omega
      clear hlt
      have hX := HM2.out.as (Z := partsOf kd nd (AnsR.mk err n mi co fo a cap D pa pcap PS)) (by simp [partsOf])
      have hjl := lineS_len HK.out.1 HK.out.2 HA.out.ints HL.out
      have hcc := hX.join hm3 ⟨#[32]⟩ (by omega) (by show (lineS kd nd _).size ≤ _; omega)
      have HC := Lib.hid hcc
      clear hX hjl hcc
      go_wp2_with fail
      refine HC.out.mono ?_
      rintro e w6 ⟨rfl, hk6⟩
      have hk7 := HH.out.trans_same hk6
      clear hk6
      go_wp2_with fail
      go_ret
      exact ⟨rfl, hk7⟩
end Go.Proofs.YthkbcfenjodbmaaDoor
