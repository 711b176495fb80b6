/-
  A table as text: leap's Print and the reference's.
-/
import Derived.Test.YtapikolgpmefbaaGreatDoorLPrintD
import Derived.Test.YtapikolgpmefbaaGreatDoorLText2
import Derived.Test.YtapikolgpmefbaaGreatDoorBuilder
import Derived.Test.YtapikolgpmefbaaGreatDoorLRIs
import Derived.Test.YtapikolgpmefbaaGreatDoorLast
import Derived.Lib.ItoaNum
import Derived.Deep.CutRange
namespace Go.Proofs.YtapikolgpmefbaaGreatDoor
open Go.RowKit Go.Mer

theorem gPow : Tryz.prog.globalNamed "internal/strconv.uint64pow10" = some 0 := by kernel_rfl
def Pow (w : World) : Prop := Lib.TabIs Tryz.prog w "internal/strconv.uint64pow10" .u64 Lib.pow10Tab
theorem Pow.keep {w w' : World} (h : Pow w) (hk : Kp No w w') : Pow w' := by
  unfold Pow Lib.TabIs World.var? at h ⊢
  rw [gPow] at h ⊢
  simp only [Option.bind_some] at h ⊢
  cases hg : w.heap[0]? with
  | none => rw [hg] at h; simp at h
  | some o => rw [hk.get hg fun x => x]; rw [hg] at h; exact h
theorem Itoa_any (o : Nat) (h : o ≤ 1000000) (w : World) (ht : Pow w) : Calls Tryz.prog 17 #[.int .i64 (o : Int)] w fun e w' => e = .returned (.string ⟨(Lib.decDigits o).toArray⟩) ∧ Kp No w w' := by
  refine (Tryz.strconv_Itoa (o : Int) (by omega) (by omega) w ht).mono ?_
  rintro e w1 ⟨rfl, k, os, hw⟩
  refine ⟨?_, ?_⟩
  · have : Lib.itoa (o : Int) = Lib.decDigits o := by
      unfold Lib.itoa
      simp
    rw [this]
  · rw [hw]
    refine ⟨rfl, rfl, rfl, by show w.heap.size ≤ (w.heap ++ os).size; simp, fun j hj _ => ?_⟩
    show (w.heap ++ os)[j]? = _
    exact Array.getElem?_append_left hj
theorem builder_keep {B b : Nat} {bs : List Value} {w w' : World} (h : Lib.IsBuilder 45 5 B b bs w) (hk : Kp No w w') : Lib.IsBuilder 45 5 B b bs w' := by
  have key : ∀ p, Lib.BuilderAt 45 5 B b p bs w → Lib.BuilderAt 45 5 B b p bs w' := by
    rintro p ⟨hB, v, hb, ⟨hl, ho⟩, hne⟩
    refine ⟨hB, v, hk.get hb fun x => x, ⟨hl, ?_⟩, hne⟩
    rcases ho with ho | ⟨g, cap, cur, h1, h2, h3, h4⟩
    · exact .inl ho
    · exact .inr ⟨g, cap, cur, h1, h2, hk.get h3 fun x => x, h4⟩
  exact h.elim (fun x => .inl (key _ x)) (fun x => .inr (key _ x))
theorem cells_eq (l : List UInt8) (s : ByteArray) : Lib.byteCells l ++ Lib.strCells s = Lib.byteCells (l ++ s.data.toList) := by simp [Lib.byteCells, Lib.strCells]
def BRel (w wr : World) (l : List UInt8) : Prop := Lib.IsBuilder 45 5 w.heap.size w.heap.size (Lib.byteCells l) wr ∧ Kp No w wr
/-- So many rows of a table as text. -/
def rowsL (L : List (Int × Int)) (k : Nat) : List UInt8 := ((L.take k).map rowL).flatten
theorem rowsL_succ {L : List (Int × Int)} {k : Nat} {x : Int × Int} (h : L[k]? = some x) : rowsL L (k + 1) = rowsL L k ++ rowL x := by
  unfold rowsL
  rw [List.take_add_one, h]
  simp
theorem rowsL_all (L : List (Int × Int)) (e : Int) : textL L e = rowsL L L.length ++ endL e := by
  unfold rowsL
  rw [List.take_length, textL_eq]
/-- What a row of a table is. -/
theorem row_in {L : List (Int × Int)} {n : Int} (h : isF L n = true) {k : Nat} (hk : k < L.length) : ∃ (d : Int) (o : Nat), L[k]? = some (d, (o : Int)) ∧ inF d = true ∧ o ≤ 1000 := by
  have h' := h
  unfold isF at h'
  rw [Bool.and_eq_true, leapsF_iff] at h'
  have hx : L[k]? = some (L[k]'hk) := List.getElem?_eq_getElem hk
  obtain ⟨h1, h2, h3, _⟩ := followF_off (h'.1 k _ hx)
  refine ⟨(L[k]'hk).1, (L[k]'hk).2.toNat, ?_, h1, by omega⟩
  rw [hx, Int.toNat_of_nonneg h2]
theorem isF_100 {L : List (Int × Int)} {e : Int} (h : isF L e = true) : L.length ≤ 100 := by
  rcases Nat.lt_or_ge 100 L.length with hc | hc
  · unfold isF at h
    rw [Bool.and_eq_true, leapsF_iff] at h
    have := (followF_off (h.1 100 (L[100]) (by simp))).2.2.2
    rw [List.nil_append, List.length_take] at this
    omega
  · exact hc
theorem isF_in {L : List (Int × Int)} {e : Int} (h : isF L e = true) : inF e = true := by
  unfold isF endsF at h
  simp only [Bool.and_eq_true] at h
  exact h.2.1
theorem rowsL_len {L : List (Int × Int)} {n : Int} (h : isF L n = true) (k : Nat) : (rowsL L k).length ≤ 16 * k := by
  unfold rowsL
  have h1 := rows_len (L.take k) fun x hx => by
    obtain ⟨i, hi, rfl⟩ := List.getElem_of_mem (List.mem_of_mem_take hx)
    exact (isF_day h (i := i) (by simp)).2.2.2
  have h2 : (L.take k).length ≤ k := List.length_take_le _ _
  omega
theorem row_cat (d : Int) (o : Nat) : ((⟨(dayL d).toArray⟩ : ByteArray) ++ ⟨#[32]⟩ ++ ⟨(Lib.decDigits o).toArray⟩ ++ ⟨#[10]⟩).data.toList = rowL (d, (o : Int)) := by
  unfold rowL row0
  simp
theorem rcat (l : List UInt8) (d : Int) (o : Nat) : (⟨l.toArray⟩ : ByteArray) ++ ⟨(dayL d).toArray⟩ ++ ⟨#[32]⟩ ++ ⟨(Lib.decDigits o).toArray⟩ ++ ⟨#[10]⟩ = ⟨(l ++ rowL (d, (o : Int))).toArray⟩ := by
  unfold rowL row0
  apply ByteArray.ext
  simp
theorem ecat (l : List UInt8) (e : Int) : (⟨l.toArray⟩ : ByteArray) ++ ⟨#[101, 120, 112, 105, 114, 101, 115, 32]⟩ ++ ⟨(dayL e).toArray⟩ ++ ⟨#[10]⟩ = ⟨(l ++ endL e).toArray⟩ := by
  unfold endL end0 expB
  apply ByteArray.ext
  simp
theorem dayL_length (d : Int) : (dayL d).length = 10 := dateL_length _ _ _
set_option maxRecDepth 100000 in
set_option maxHeartbeats 4000000 in
theorem rlPrint_yes (L : List (Int × Int)) (n : Int) (w : World) (a : Option Addr) (cap B : Nat) (hR : Rd w B a (tbV L)) (h : isF L n = true) :
    Calls Tryz.prog 8 #[.agg #[.slice a L.length cap, .int .i64 n]] w fun e w' => e = .returned (.tuple #[.string ⟨(textL L n).toArray⟩, .int .i64 0]) ∧ Kp No w w' := by
  have h100 := isF_100 h
  have HIS := Lib.hid (fun (W : World) (hW : Kp No w W) => rIs_any L n W a cap B (hR.keep hW fun _ _ x => x) (by omega))
  rw [h] at HIS
  rw [rowsL_all]
  have HF := Lib.hid h
  obtain ⟨K, hK⟩ : ∃ K, K = L.length := ⟨_, rfl⟩
  rw [← hK] at HIS h100
  rw [← hK]
  obtain ⟨W0, hW0⟩ : ∃ W0, W0 = w.alloc (.cells #[.slice a K cap, .int .i64 n] 24 (0, 0)) := ⟨_, rfl⟩
  have hb : W0.heap[w.heap.size]? = some (.cells #[.slice a K cap, .int .i64 n] 24 (0, 0)) := by rw [hW0]; exact heap_alloc_new w _
  have HB := Lib.hid hb
  have HK0 := Lib.hid (show Kp No w W0 by rw [hW0]; exact (Kp.refl _ _).alloc _)
  have HRD := Lib.hid hR
  have HKL := Lib.hid hK
  have HW := Lib.hid hW0
  have HDN := Lib.hid (fun W => rdate_any n (isF_in HF.out) W)
  clear hW0 hb h hK hR
  go_enter Tryz.func8, Tryz.ntmps8
  go_wp2_with fail
  rw [← HW.out]
  refine (HIS.out _ HK0.out).mono ?_
  rintro e w2 ⟨rfl, hk2⟩
  have HK2 := Lib.hid (HK0.out.trans_same hk2)
  have hb2 := hk2.get HB.out fun x => x
  have B0 := Lib.hid (fun W (h : Kp No w2 W) => show W.cell? ⟨w.heap.size, 0, none⟩ = some (.slice a K cap) by rw [cell_at (h.get hb2 fun x => x)]; rfl)
  have B1 := Lib.hid (fun W (h : Kp No w2 W) => show W.cell? ⟨w.heap.size, 1, none⟩ = some (.int .i64 n) by rw [cell_at (h.get hb2 fun x => x)]; rfl)
  have b20 := B0.out w2 (Kp.refl _ _)
  clear hk2 hb2
  go_wp2_with fail
  go_loopw [4, 5] (fun s i wr => ∃ k : Nat, k ≤ K ∧ i = .int .i64 (k : Int) ∧ (∃ S : ByteArray, s = .string S ∧ S.size ≤ 1600 ∧ Hid (S = ⟨(rowsL L k).toArray⟩)) ∧ Hid (Kp No w2 wr)) (fun _ i _ => K - (intOf i).toNat)
  case atStart => exact ⟨0, Nat.zero_le _, rfl, ⟨⟨#[]⟩, rfl, by decide, rfl⟩, Kp.refl _ _⟩
  case round =>
    obtain ⟨k, hk, rfl, ⟨S, rfl, hS, HS⟩, HKW⟩ := hrel
    have c0 := fun W (h : Kp No wr W) => B0.out W (HKW.out.trans_same h)
    have c00 := B0.out wr HKW.out
    by_cases hlt : k < K
    ·
      obtain ⟨d, o, hx, hin, ho⟩ := row_in HF.out (k := k) (by rw [← HKL.out]; exact hlt)
      obtain ⟨t1, t2⟩ := tbV_at _ _ _ hx
      have hRw := (HRD.out.keep HK2.out fun _ _ x => x).keep HKW.out fun _ _ x => x
      obtain ⟨g, off, rfl, hgB, hB, _⟩ := hRw.at_ t1
      have q0 : ∀ W, Kp No wr W → W.cell? ⟨g, off + k * 2, none⟩ = some (.int .i64 d) := fun W h => by
        obtain ⟨g', off', hg', _, _, r0⟩ := ((hRw.keep h fun _ _ x => x).at_ t1)
        obtain ⟨rfl, rfl⟩ : g = g' ∧ off = off' := by simpa using hg'
        rw [Nat.mul_comm 2] at r0
        exact r0
      have q1 : ∀ W, Kp No wr W → W.cell? ⟨g, off + k * 2 + 1, none⟩ = some (.int .i64 (o : Int)) := fun W h => by
        obtain ⟨g', off', hg', _, _, r0⟩ := ((hRw.keep h fun _ _ x => x).at_ t2)
        obtain ⟨rfl, rfl⟩ : g = g' ∧ off = off' := by simpa using hg'
        rw [Nat.mul_comm 2, ← Nat.add_assoc] at r0
        exact r0
      obtain ⟨X1, hX1⟩ : ∃ X : ByteArray, X = ⟨(dayL d).toArray⟩ := ⟨_, rfl⟩
      obtain ⟨X2, hX2⟩ : ∃ X : ByteArray, X = ⟨(Lib.decDigits o).toArray⟩ := ⟨_, rfl⟩
      have s1 : X1.size = 10 := by rw [hX1]; exact dayL_length d
      have s2 : X2.size ≤ 4 := by rw [hX2]; exact dec_len 3 o (by omega)
      clear t1 t2 hRw hgB hB
      obtain ⟨W1, hW1⟩ : ∃ W, W = wr := ⟨_, rfl⟩
      have HD := Lib.hid (fun W => rdate_any d hin W)
      have HO := Lib.hid (fun W => rDec_any o (by omega) W)
      have hcat := rcat (rowsL L k) d o
      rw [← show S = _ from HS, ← hX1, ← hX2, ← rowsL_succ hx] at hcat
      have hsz : (S ++ X1 ++ ⟨#[32]⟩ ++ X2 ++ ⟨#[10]⟩).size ≤ 1600 := by
        rw [hcat]
        have := rowsL_len HF.out (k + 1)
        show (rowsL L (k + 1)).length ≤ _
        omega
      rw [← hX1] at HD
      rw [← hX2] at HO
      have HCAT := Lib.hid hcat
      rw [← hW1] at c0 c00 q0 q1 HKW ⊢
      have hkW := HKW.out
      clear hcat hX1 hX2 hx hW1 hin
      go_wp2_with fail
      refine wp_region_held' (Kp No _) [0,0,0,0,0,0,0,2,0,0,0,0,0,0,0,0,2,0,0,0] [0,1,2,3,4,5,6,10,11,12,13,14,15,7,8,9,16,17,18,19] (by kernel_rfl) (by kernel_rfl) (fun _ n h => h.drewN n) (Kp.refl _ _) ?_
      repeat (first
        | (apply wpOrd_skip rfl (by decide) rfl; (focus (go_simp; rfl)))
        | (apply wpOrd_pure rfl rfl rfl; (focus (intro _ _; go_simp; (try go_ints); rfl)); (focus (go_simp; rfl)))
        | (apply wpOrd_read rfl rfl rfl; (focus (intro _; go_simp; (try go_ints); rfl)); (focus (go_simp; rfl))))
      refine wpOrd_eff rfl rfl (fun q => ?_)
      go_wp2_with fail
      refine ((HD.out _)).mono ?_
      rintro e w3 ⟨rfl, hk⟩
      have h1 : Kp No W1 w3 := (((Kp.refl No W1)).drewN q).trans_same hk
      clear hk
      go_wp2_with fail
      refine wpOrd_pure rfl rfl rfl (v := .string (S ++ X1)) ?_ rfl ?_
      · intro _ _
        go_simp
        try omega
      refine wpOrd_pure rfl rfl rfl (v := .string (S ++ X1 ++ ⟨#[32]⟩)) ?_ rfl ?_
      · intro _ _
        go_simp
        try omega
      refine wpOrd_eff rfl rfl (fun q => ?_)
      go_wp2_with fail
      refine ((HO.out _)).mono ?_
      rintro e w4 ⟨rfl, hk⟩
      have h2 : Kp No W1 w4 := ((h1).drewN q).trans_same hk
      clear hk
      go_wp2_with fail
      refine wpOrd_pure rfl rfl rfl (v := .string (S ++ X1 ++ ⟨#[32]⟩ ++ X2)) ?_ rfl ?_
      · intro _ _
        go_simp
        try omega
      refine wpOrd_pure rfl rfl rfl (v := .string (S ++ X1 ++ ⟨#[32]⟩ ++ X2 ++ ⟨#[10]⟩)) ?_ rfl ?_
      · intro _ _
        go_simp
        try omega
      repeat (first
        | (apply wpOrd_skip rfl (by decide) rfl; (focus (go_simp; rfl)))
        | (apply wpOrd_pure rfl rfl rfl; (focus (intro _ _; go_simp; (try go_ints); rfl)); (focus (go_simp; rfl)))
        | (apply wpOrd_read rfl rfl rfl; (focus (intro _; go_simp; (try go_ints); rfl)); (focus (go_simp; rfl))))
      refine wpOrd_nil (fun nq => ?_)
      have HK4 := Lib.hid (HKW.out.trans_same h2)
      clear h1 h2 c0 c00 q0 q1
      go_wp2_with fail
      go_roundw
      case rel => exact ⟨k + 1, by omega, by go_num, ⟨_, rfl, hsz, HCAT⟩, Lib.hid (HK4.out.drewN _)⟩
      case measure => simp [intOf]; omega
    · obtain rfl : k = K := by omega
      obtain ⟨X, hX⟩ : ∃ X : ByteArray, X = ⟨(dayL n).toArray⟩ := ⟨_, rfl⟩
      have hXs : X.size = 10 := by rw [hX]; exact dayL_length n
      have hcat := ecat (rowsL L k) n
      rw [← show S = _ from HS, ← hX] at hcat
      rw [← hX] at HDN
      have HCAT := Lib.hid hcat
      have e1 := B1.out wr HKW.out
      clear hX hcat c0 hlt
      go_wp2_with fail
      refine (HDN.out _).mono ?_
      rintro e w5 ⟨rfl, hk5⟩
      have HK5 := Lib.hid (HK2.out.trans_same (HKW.out.trans_same hk5))
      clear hk5 e1 c00
      go_wp2_with fail
      exact bodyPost_ret (v := .tuple #[.string (S ++ ⟨#[101, 120, 112, 105, 114, 101, 115, 32]⟩ ++ X ++ ⟨#[10]⟩), .int .i64 0]) (by simp [results, Tryz.results8, go_sem]) rfl ⟨by rw [HCAT.out], HK5.out⟩
theorem rlPrint_no (L : List (Int × Int)) (n : Int) (w : World) (a : Option Addr) (cap B : Nat) (hR : Rd w B a (tbV L)) (hl : L.length ≤ 1000000) (h : isF L n = false) :
    Calls Tryz.prog 8 #[.agg #[.slice a L.length cap, .int .i64 n]] w fun e w' => e = .returned (.tuple #[.string ⟨#[]⟩, .int .i64 1]) ∧ Kp No w w' := by
  obtain ⟨W0, hW0⟩ : ∃ W0, W0 = w.alloc (.cells #[.slice a L.length cap, .int .i64 n] 24 (0, 0)) := ⟨_, rfl⟩
  have hk0 : Kp No w W0 := by rw [hW0]; exact (Kp.refl _ _).alloc _
  have hi := rIs_any L n W0 a cap B (hR.keep hk0 fun _ _ x => x) hl
  rw [h] at hi
  have HI := Lib.hid hi
  have HK := Lib.hid hk0
  have HW := Lib.hid hW0
  clear hW0 hk0 hi hR hl h
  go_enter Tryz.func8, Tryz.ntmps8
  go_wp2_with fail
  rw [← HW.out]
  refine HI.out.mono ?_
  rintro e' w2 ⟨rfl, hk2⟩
  have HK2 := Lib.hid (HK.out.trans_same hk2)
  clear hk2
  go_wp2_with fail
  exact bodyPost_ret (v := .tuple #[.string ⟨#[]⟩, .int .i64 1]) (by simp [results, Tryz.results8, go_sem]) rfl ⟨rfl, HK2.out⟩
set_option maxRecDepth 100000 in
set_option maxHeartbeats 4000000 in
theorem Print_yes (L : List (Int × Int)) (n : Int) (w : World) (a : Option Addr) (cap B : Nat) (hR : Rd w B a (tbV L)) (hcap : L.length ≤ cap) (h : isF L n = true) (ht : Pow w) :
    Calls Tryz.prog 6 #[.agg #[.slice a L.length cap, .int .i64 n]] w fun e w' => e = .returned (.tuple #[.string ⟨(textL L n).toArray⟩, .int .i64 0]) ∧ Kp No w w' := by
  have h100 := isF_100 h
  have HIS := Lib.hid (fun (W : World) (hW : Kp No w W) => Is_any L n W a cap B (hR.keep hW fun _ _ x => x) (by omega) hcap)
  rw [h] at HIS
  rw [rowsL_all]
  have HF := Lib.hid h
  obtain ⟨K, hK⟩ : ∃ K, K = L.length := ⟨_, rfl⟩
  rw [← hK] at HIS h100
  rw [← hK]
  obtain ⟨W0, hW0⟩ : ∃ W0, W0 = w.alloc (.cells #[.slice a K cap, .int .i64 n] 24 (0, 0)) := ⟨_, rfl⟩
  have hb : W0.heap[w.heap.size]? = some (.cells #[.slice a K cap, .int .i64 n] 24 (0, 0)) := by rw [hW0]; exact heap_alloc_new w _
  have HB := Lib.hid hb
  have HK0 := Lib.hid (show Kp No w W0 by rw [hW0]; exact (Kp.refl _ _).alloc _)
  have HRD := Lib.hid hR
  have HKL := Lib.hid hK
  have HW := Lib.hid hW0
  have HT := Lib.hid ht
  have HDN := Lib.hid (fun W => date_any n (isF_in HF.out) W)
  clear hW0 hb h hK hR ht hcap
  go_enter Tryz.func6, Tryz.ntmps6
  go_wp2_with fail
  rw [← HW.out]
  refine (HIS.out _ HK0.out).mono ?_
  rintro e w2 ⟨rfl, hk2⟩
  have HK2 := Lib.hid (HK0.out.trans_same hk2)
  have hb2 := hk2.get HB.out fun x => x
  have B0 := Lib.hid (fun W (h : Kp No w2 W) => show W.cell? ⟨w.heap.size, 0, none⟩ = some (.slice a K cap) by rw [cell_at (h.get hb2 fun x => x)]; rfl)
  have B1 := Lib.hid (fun W (h : Kp No w2 W) => show W.cell? ⟨w.heap.size, 1, none⟩ = some (.int .i64 n) by rw [cell_at (h.get hb2 fun x => x)]; rfl)
  have b20 := B0.out w2 (Kp.refl _ _)
  clear hk2 hb2
  have hB0 : Lib.IsBuilder 45 5 w2.heap.size w2.heap.size (Lib.byteCells []) (w2.alloc (.cells #[.pointer none, .slice none 0 0] 45)) :=
    .inl ⟨Nat.le_refl _, .slice none 0 0, heap_alloc_new w2 _, World.ownsRow_nil _ _ _ _, by simp [Value.ownBlock]⟩
  have b21 := B0.out (w2.alloc (.cells #[.pointer none, .slice none 0 0] 45)) ((Kp.refl _ _).alloc _)
  have HB0 := Lib.hid hB0
  clear hB0
  go_wp2_with fail
  go_loopw [13] (fun i wr => ∃ k : Nat, k ≤ K ∧ i = .int .i64 (k : Int) ∧ BRel w2 wr (rowsL L k)) (fun i _ => K - (intOf i).toNat)
  case atStart => exact ⟨0, Nat.zero_le _, rfl, ⟨HB0.out, (Kp.refl _ _).alloc _⟩⟩
  case round =>
    obtain ⟨k, hk, rfl, hB⟩ := hrel
    have HBR := Lib.hid hB
    have HKW := Lib.hid hB.2
    clear hB
    by_cases hlt : k < K
    ·
      obtain ⟨d, o, hx, hin, ho⟩ := row_in HF.out (k := k) (by rw [← HKL.out]; exact hlt)
      obtain ⟨t1, t2⟩ := tbV_at _ _ _ hx
      have hRw := (HRD.out.keep HK2.out fun _ _ x => x).keep HKW.out fun _ _ x => x
      obtain ⟨g, off, rfl, hgB, hB, _⟩ := hRw.at_ t1
      have q0 : ∀ W, Kp No wr W → W.cell? ⟨g, off + k * 2, none⟩ = some (.int .i64 d) := fun W h => by
        obtain ⟨g', off', hg', _, _, r0⟩ := ((hRw.keep h fun _ _ x => x).at_ t1)
        obtain ⟨rfl, rfl⟩ : g = g' ∧ off = off' := by simpa using hg'
        rw [Nat.mul_comm 2] at r0
        exact r0
      have q1 : ∀ W, Kp No wr W → W.cell? ⟨g, off + k * 2 + 1, none⟩ = some (.int .i64 (o : Int)) := fun W h => by
        obtain ⟨g', off', hg', _, _, r0⟩ := ((hRw.keep h fun _ _ x => x).at_ t2)
        obtain ⟨rfl, rfl⟩ : g = g' ∧ off = off' := by simpa using hg'
        rw [Nat.mul_comm 2, ← Nat.add_assoc] at r0
        exact r0
      obtain ⟨X1, hX1⟩ : ∃ X : ByteArray, X = ⟨(dayL d).toArray⟩ := ⟨_, rfl⟩
      obtain ⟨X2, hX2⟩ : ∃ X : ByteArray, X = ⟨(Lib.decDigits o).toArray⟩ := ⟨_, rfl⟩
      have s1 : X1.size = 10 := by rw [hX1]; exact dayL_length d
      have s2 : X2.size ≤ 4 := by rw [hX2]; exact dec_len 3 o (by omega)
      clear t1 t2 hRw hgB hB
      have y0 := q0 wr (Kp.refl _ _)
      have y1 := q1 wr (Kp.refl _ _)
      have hrc := row_cat d o
      rw [← hX1, ← hX2] at hrc
      have HRC := Lib.hid hrc
      have HD := Lib.hid (fun W => date_any d hin W)
      have HO := Lib.hid (fun W (h : Kp No w W) => Itoa_any o (by omega) W (HT.out.keep h))
      rw [← hX1] at HD
      rw [← hX2] at HO
      have HRS := Lib.hid (rowsL_succ hx)
      have hrl := rowsL_len HF.out k
      obtain ⟨T, hT⟩ : ∃ T, T = rowsL L k := ⟨_, rfl⟩
      rw [← hT] at HBR HRS hrl
      have HLEN := Lib.hid (And.intro hrl (And.intro hk h100))
      clear hX1 hX2 hx hin hrc hT q0 q1
      go_upto_region 7 with fail
      obtain ⟨W1, hW1⟩ : ∃ W, W = wr.alloc (.cells #[.int .i64 d, .int .i64 (o : Int)] 38 (0, 0)) := ⟨_, rfl⟩
      have k1 : Kp No wr W1 := by rw [hW1]; exact (Kp.refl _ _).alloc _
      have hb1 : W1.heap[wr.heap.size]? = some (.cells #[.int .i64 d, .int .i64 (o : Int)] 38 (0, 0)) := by rw [hW1]; exact heap_alloc_new wr _
      have z0 : ∀ W, Kp No W1 W → W.cell? ⟨wr.heap.size, 0, none⟩ = some (.int .i64 d) := fun W h => by rw [cell_at (h.get hb1 fun x => x)]; rfl
      have z1 : ∀ W, Kp No W1 W → W.cell? ⟨wr.heap.size, 1, none⟩ = some (.int .i64 (o : Int)) := fun W h => by rw [cell_at (h.get hb1 fun x => x)]; rfl
      rw [← hW1]
      have HK1 := Lib.hid k1
      have hT1 : ∀ W, Kp No W1 W → Kp No w W := fun W h => HK2.out.trans_same (HKW.out.trans_same (k1.trans_same h))
      have HT1 := Lib.hid hT1
      clear hW1 hb1 k1 y0 y1 hT1 hrl
      refine wp_region_last (Kp No W1) [0,0,2,0,0,0,2,0,0,2] [0,1,4,5,2,3,6,7,8] 9 (by kernel_rfl) (by kernel_rfl) (fun _ n h => h.drewN n) (Kp.refl _ _) ?_
      repeat (first
        | (apply wpOrd_skip rfl (by decide) rfl; (focus (go_simp; rfl)))
        | (apply wpOrd_pure rfl rfl rfl; (focus (intro _ _; go_simp; (try go_ints); rfl)); (focus (go_simp; rfl)))
        | (apply wpOrd_read rfl rfl rfl; (focus (intro _; go_simp; (try go_ints); rfl)); (focus (go_simp; rfl))))
      refine wpOrd_eff rfl rfl (fun q => ?_)
      go_wp2_with fail
      refine ((HD.out _)).mono ?_
      rintro e w3 ⟨rfl, hk⟩
      have h1 : Kp No W1 w3 := (((Kp.refl No W1)).drewN q).trans_same hk
      clear hk
      go_wp2_with fail
      refine wpOrd_pure rfl rfl rfl (v := .string (X1 ++ ⟨#[32]⟩)) ?_ rfl ?_
      · intro _ _
        go_simp
        try omega
      refine wpOrd_eff rfl rfl (fun q => ?_)
      go_wp2_with fail
      refine ((HO.out _ (HT1.out _ (h1.drewN q)))).mono ?_
      rintro e w4 ⟨rfl, hk⟩
      have h2 : Kp No W1 w4 := ((h1).drewN q).trans_same hk
      clear hk
      go_wp2_with fail
      refine wpOrd_pure rfl rfl rfl (v := .string (X1 ++ ⟨#[32]⟩ ++ X2)) ?_ rfl ?_
      · intro _ _
        go_simp
        try omega
      refine wpOrd_pure rfl rfl rfl (v := .string (X1 ++ ⟨#[32]⟩ ++ X2 ++ ⟨#[10]⟩)) ?_ rfl ?_
      · intro _ _
        go_simp
        try omega
      refine last_now (fun n4 => ?_)
      refine wpOrd_eff rfl rfl (fun n5 => ?_)
      obtain ⟨W9, hW9⟩ : ∃ W, W = (w4.drewN n4).drewN n5 := ⟨_, rfl⟩
      have k9 : Kp No W1 W9 := by rw [hW9]; exact (h2.drewN n4).drewN n5
      have kr9 : Kp No wr W9 := HK1.out.trans_same k9
      have k29 : Kp No w2 W9 := HKW.out.trans_same kr9
      have hcc := wstr w2.heap.size w2.heap.size (Lib.byteCells T) (X1 ++ ⟨#[32]⟩ ++ X2 ++ ⟨#[10]⟩) W9 (builder_keep HBR.out.1 kr9) (by
        rw [Lib.byteCells_length]
        have h1 := HLEN.out
        have h2 : (X1 ++ ⟨#[32]⟩ ++ X2 ++ ⟨#[10]⟩).size = X1.size + 1 + X2.size + 1 := by simp only [ByteArray.size_append]; rfl
        omega) k29.size
      rw [← hW9]
      have HCC := Lib.hid hcc
      have HK9 := Lib.hid k29
      clear hcc hW9 k9 kr9 k29 h1 h2 z0 z1
      go_wp2_with fail
      refine HCC.out.mono ?_
      rintro e w5 ⟨rfl, hb5, hbelow⟩
      have hw5 : Kp No w2 w5 := HK9.out.trans (Kp.of_below (S := fun k => w2.heap.size ≤ k) hbelow (fun k _ h => h)) (fun i hi h => by omega)
      have hb6 : ∀ nr, BRel w2 (w5.drewN nr) (rowsL L (k + 1)) := fun nr => by
        refine ⟨?_, hw5.drewN nr⟩
        rw [HRS.out, ← HRC.out, ← cells_eq]
        exact builder_keep (.inr hb5) ((Kp.refl _ _).drewN nr)
      have HB6 := Lib.hid hb6
      clear hb5 hbelow hw5 hb6 HCC HK9
      go_wp2_with fail
      intro nr
      have hb7 := HB6.out nr
      go_wp2_with fail
      go_roundw
      case rel => exact ⟨k + 1, by omega, by go_num, hb7⟩
      case measure => simp [intOf]; omega
    · obtain rfl : k = K := by omega
      have hcc := fun (W : World) (hW : Kp No wr W) => Tryz.Builder_String_any w2.heap.size w2.heap.size _ W (builder_keep HBR.out.1 hW) (HKW.out.trans_same hW).size
      have HCC := Lib.hid hcc
      have e1 := B1.out
      obtain ⟨S, hS⟩ : ∃ X : ByteArray, X = ⟨(rowsL L k).toArray⟩ := ⟨_, rfl⟩
      obtain ⟨X, hX⟩ : ∃ X : ByteArray, X = ⟨(dayL n).toArray⟩ := ⟨_, rfl⟩
      have hXs : X.size = 10 := by rw [hX]; exact dayL_length n
      have hSs : S.size ≤ 1600 := by
        rw [hS]
        have := rowsL_len HF.out k
        show (rowsL L k).length ≤ _
        omega
      have hcat := ecat (rowsL L k) n
      rw [← hS, ← hX] at hcat
      rw [← hX] at HDN
      rw [← hS] at HCC
      have HCAT := Lib.hid hcat
      obtain ⟨W1, hW1⟩ : ∃ W, W = wr := ⟨_, rfl⟩
      rw [← hW1] at HCC HKW ⊢
      clear hX hcat hcc hlt hS hW1
      go_wp2_with fail
      refine wp_region_held' (Kp No w2) [2,0,0,0,2,0,0,0,0] [2,3,0,1,4,5,6,7,8] (by kernel_rfl) (by kernel_rfl) (fun _ n h => h.drewN n) HKW.out ?_
      repeat (first
        | (apply wpOrd_skip rfl (by decide) rfl; (focus (go_simp; rfl)))
        | (apply wpOrd_pure rfl rfl rfl; (focus (intro _ _; go_simp; (try go_ints); rfl)); (focus (go_simp; rfl)))
        | (apply wpOrd_read rfl rfl rfl; (focus (intro _; go_simp; (try go_ints); rfl)); (focus (go_simp; rfl))))
      refine wpOrd_eff rfl rfl (fun n1 => ?_)
      go_wp2_with fail
      refine (HCC.out _ ((Kp.refl _ _).drewN n1)).mono ?_
      rintro e w5 ⟨rfl, hbelow⟩
      have h5 : Kp No w2 w5 := (HKW.out.drewN n1).trans (Kp.of_below (S := fun k => w2.heap.size ≤ k) hbelow (fun k _ h => h)) (fun i hi h => by omega)
      clear hbelow
      go_wp2_with fail
      refine wpOrd_pure rfl rfl rfl (v := .string (S ++ ⟨#[101, 120, 112, 105, 114, 101, 115, 32]⟩)) ?_ rfl ?_
      · intro _ _
        go_simp
        try omega
      refine wpOrd_eff rfl rfl (fun n2 => ?_)
      go_wp2_with fail
      refine (HDN.out _).mono ?_
      rintro e w6 ⟨rfl, hk6⟩
      have h6 : Kp No w2 w6 := (h5.drewN n2).trans_same hk6
      clear hk6
      go_wp2_with fail
      refine wpOrd_pure rfl rfl rfl (v := .string (S ++ ⟨#[101, 120, 112, 105, 114, 101, 115, 32]⟩ ++ X)) ?_ rfl ?_
      · intro _ _
        go_simp
        try omega
      refine wpOrd_pure rfl rfl rfl (v := .string (S ++ ⟨#[101, 120, 112, 105, 114, 101, 115, 32]⟩ ++ X ++ ⟨#[10]⟩)) ?_ rfl ?_
      · intro _ _
        go_simp
        try omega
      repeat (first
        | (apply wpOrd_skip rfl (by decide) rfl; (focus (go_simp; rfl)))
        | (apply wpOrd_pure rfl rfl rfl; (focus (intro _ _; go_simp; (try go_ints); rfl)); (focus (go_simp; rfl)))
        | (apply wpOrd_read rfl rfl rfl; (focus (intro _; go_simp; (try go_ints); rfl)); (focus (go_simp; rfl))))
      refine wpOrd_nil (fun nq => ?_)
      have HK5 := Lib.hid (HK2.out.trans_same (h6.drewN nq))
      clear h5 h6 e1
      go_wp2_with fail
      exact bodyPost_ret (v := .tuple #[.string (S ++ ⟨#[101, 120, 112, 105, 114, 101, 115, 32]⟩ ++ X ++ ⟨#[10]⟩), .int .i64 0]) (by simp [results, Tryz.results6, go_sem]) rfl ⟨by rw [HCAT.out], HK5.out⟩
end Go.Proofs.YtapikolgpmefbaaGreatDoor
