/-
  token's Saw; the law TokenSaw, walked.
-/
import Derived.Test.YtoblbjlabadcoaaDoorStMax
import Derived.Test.YtoblbjlabadcoaaDoorTokLaw1
import Derived.Lib.SmallJoins
namespace Go.Proofs.YtoblbjlabadcoaaDoor
open Go.RowKit Go.Mer

theorem cmp_same : cmpH = cmpS := rfl
theorem infoStamp : (Tryd.prog.info? 23).map (fun i => (i.zero, i.size, i.bytes)) = some (some (.agg #[.int .i64 0, .int .i64 0]), 2, 16) := by kernel_rfl
set_option maxRecDepth 100000 in
set_option maxHeartbeats 1000000 in
theorem Saw_any (w : World) (g : Nat) (p : St) (hA : Blk w g 27 p) (a : Option Addr) (cap : Nat) (L : List St) (hR : Rd w w.heap.size a (stC L)) (hl : L.length ≤ 999) :
    Calls Tryd.prog 12 #[.pointer (some ⟨g, 0, none⟩), .slice a L.length cap] w fun e w' => (∃ v, e = .returned v) ∧ Blk w' g 27 (L.foldl stp p) ∧ Kp (One g) w w' := by
  obtain ⟨i0, hi, hz0, hz1, hz2⟩ := info_parts infoStamp
  have hal : Kp No w (w.alloc (.cells #[.int .i64 p.1, .int .i64 p.2] 23)) := (Kp.refl _ _).alloc _
  have hown0 : Own (w.alloc (.cells #[.int .i64 p.1, .int .i64 p.2] 23)) 23 2 (.slice (some ⟨w.heap.size, 0, none⟩) 1 1) 1 (stC [p]) := Own.made w 23 2 _ 1 1 (Nat.le_refl _) (by simp [maxLen]) (by simp) rfl
  have hsrc : Src (w.alloc (.cells #[.int .i64 p.1, .int .i64 p.2] 23)) 2 (.slice a L.length cap) L.length (stC L) := ⟨stC_len L, a, cap, rfl, (hR.keep hal fun _ _ x => x).mono hal.size (Nat.le_refl _)⟩
  obtain ⟨v1, w1, hrun, hown, hkp, hblk⟩ := run_append_Own (P := Tryd.prog) (w := w.alloc (.cells #[.int .i64 p.1, .int .i64 p.2] 23)) 33 33 33 23 i0 _ 2 16 Tryd.underlying33 ⟨_, Tryd.underlying33⟩ hi hz0 hz1 hz2 rfl
    (.slice (some ⟨w.heap.size, 0, none⟩) 1 1) 1 (stC [p]) hown0 (.slice a L.length cap) L.length (stC L) hsrc (stC_one L) (by simp only [maxLen]; omega) (by omega)
  have hk1 : Kp No w w1 := hal.trans hkp (fun k hk h => by simp [Value.ownBlock] at h; omega)
  obtain ⟨_, a1, c1, rfl, _⟩ := id hown
  have hr1 := hown.rd'
  rw [← stC_append] at hr1
  have hA1 := hA.keep hk1 fun x => x
  have HA1 := Lib.hid hA1
  have hmax := Max_any w1 a1 c1 ([p] ++ L) hr1 (by simp; omega)
  rw [show ([p] ++ L).length = 1 + L.length from by simp; omega] at hmax
  have HM := Lib.hid hmax
  have HR := Lib.hid hrun
  obtain ⟨b0, b1, _, _⟩ := hA.cells
  have hgl := get_lt hA
  clear hrun hown hkp hblk hown0 hsrc hz0 hz1 hz2 hi hr1 hmax hA1 hal hR
  go_enter Tryd.func12, Tryd.ntmps12
  go_wp2_with (at_builtin; refine wpList_append_run rfl rfl rfl rfl HR.out ?_)
  refine (HM.out).mono ?_
  rintro e w2 ⟨rfl, hk2⟩
  have hA2 := HA1.out.keep hk2 fun x => x
  obtain ⟨q, hq⟩ : ∃ q, q = maxL ([p] ++ L) := ⟨_, rfl⟩
  rw [← hq]
  obtain ⟨c0, c1', f0, f1⟩ := hA2.cells
  have hkf : Kp (One g) w ((w2.setCell ⟨g, 0, none⟩ (.int .i64 q.1)).setCell ⟨g, 1, none⟩ (.int .i64 q.2)) := ((Kp.of_no (S := One g) (hk1.trans_same hk2)).setCell (p := ⟨g, 0, none⟩) (.inl rfl) _).setCell (p := ⟨g, 1, none⟩) (.inl rfl) _
  have HF := Lib.hid (And.intro hq (And.intro (hA2.put q.1 q.2) hkf))
  clear hq hA2 hkf hk2 hk1
  go_wp2_with fail
  go_end0
  refine ⟨⟨_, rfl⟩, ?_, HF.out.2.2⟩
  have h : q = L.foldl stp p := HF.out.1
  rw [← h]
  exact HF.out.2.1
theorem Saw_nil (w : World) (v : Value) : Calls Tryd.prog 12 #[.pointer none, v] w fun e w' => (∃ v, e = .returned v) ∧ w = w' := by
  go_enter Tryd.func12, Tryd.ntmps12
  go_wp2_with fail
  go_end0
  exact ⟨⟨_, rfl⟩, rfl⟩
theorem and_le (x : Int) (m : Nat) (hm : m < 9223372036854775808) : ∃ q : Nat, q ≤ m ∧ bits .and .i64 x (m : Int) = (q : Int) := by
  have h : (BitVec.ofInt 64 x &&& BitVec.ofInt 64 (m : Int)).toNat ≤ m := by
    rw [BitVec.toNat_and, bv_small (n := 64) (by omega)]
    exact Nat.and_le_right
  refine ⟨_, h, ?_⟩
  show IntKind.i64.wrap (((BitVec.ofInt 64 x &&& BitVec.ofInt 64 (m : Int)).toNat : Nat) : Int) = _
  exact IntWalk.i64_in _ (by omega)
theorem fold_two (L : List St) (k : Nat) (p : St) : (L.drop k).foldl stp ((L.take k).foldl stp p) = L.foldl stp p := by
  rw [← List.foldl_append, List.take_append_drop]
/-- What holds at the head of the law's loop. -/
def SawRel (w w5 : World) (L : List St) (fin : St) (i : Value) (wr : World) : Prop :=
  ∃ (j : Nat) (p : St), j ≤ L.length ∧ i = .int .i64 (j : Int) ∧ p = (L.take j).foldl stp (0, 0) ∧ Blk wr w5.heap.size 23 p ∧ Blk wr w.heap.size 27 fin ∧ Blk wr (w.heap.size + 1) 27 fin ∧ Kp No w wr
set_option maxRecDepth 100000 in
set_option maxHeartbeats 4000000 in
theorem LawSaw_1 (w : World) (a : Option Addr) (cap : Nat) (L : List St) (cut : Int) (HR : Hid (Rd w w.heap.size a (stC L))) (hcap : L.length ≤ cap) (HT : Hid (Tab16 w)) (h200 : L.length ≤ 200)
    (q : Nat) (hq : q ≤ 65535) (hand' : bits .and .i64 cut 65535 = (q : Int)) (k : Nat) (hkl : k ≤ L.length) (hmod : (q : Int) % ((L.length : Int) + 1) = (k : Int)) (hkc : cap = k) :
    Calls Tryd.prog 4 #[.slice a L.length cap, .int .i64 cut] w fun e w' => e = .returned (.bool true) ∧ Kp No w w' := by
  have hsaw : ∀ (W : World) (g : Nat) (p : St) (j c' : Nat) (a' : Option Addr) (M : List St), Kp No w W → Blk W g 27 p → M.length = j → j ≤ 200 → Rd W w.heap.size a' (stC M) →
      Calls Tryd.prog 12 #[.pointer (some ⟨g, 0, none⟩), .slice a' j c'] W fun e W' => (∃ v, e = .returned v) ∧ Blk W' g 27 (M.foldl stp p) ∧ Kp (One g) W W' := fun W g p j c' a' M hW hA hj hj2 hR => by
    subst hj
    exact Saw_any W g p hA a' c' M (hR.mono hW.size (Nat.le_refl _)) (by omega)
  have HSaw := Lib.hid hsaw
  have hrd := fun W (hW : Kp No w W) => HR.out.keep hW fun _ _ x => x
  have HRd := Lib.hid hrd
  clear hsaw hrd
  obtain ⟨w2, hw2⟩ : ∃ W, W = (w.alloc (.cells #[.int .i64 0, .int .i64 0] 27)).alloc (.cells #[.int .i64 0, .int .i64 0] 27) := ⟨_, rfl⟩
  have hk2 : Kp No w w2 := by rw [hw2]; exact ((Kp.refl _ _).alloc _).alloc _
  have hA2 : Blk w2 w.heap.size 27 (0, 0) := by rw [hw2]; exact (Blk.new w 27 0 0).alloc _
  have hB2 : Blk w2 (w.heap.size + 1) 27 (0, 0) := by
    rw [hw2]
    have := Blk.new (w.alloc (.cells #[.int .i64 0, .int .i64 0] 27)) 27 0 0
    simpa using this
  have HW2 := Lib.hid hw2
  have HA2 := Lib.hid hA2
  have HB2 := Lib.hid hB2
  clear hw2 hA2 hB2
  have hfl := Lib.hid (fold_two L k (0, 0))
  subst hkc
  go_enter Tryd.func4, Tryd.ntmps4
  go_wp2_with fail
  rw [← HW2.out]
  have hcc := HSaw.out w2 w.heap.size (0, 0) cap cap a (L.take cap) hk2 HA2.out (by rw [List.length_take]; omega) (by omega) (by rw [← stC_take]; exact (HRd.out _ hk2).take _)
  with_reducible refine hcc.mono ?_
  clear hcc
  rintro e w3 ⟨⟨v3, rfl⟩, hA3, hk3⟩
  have hB3 := HB2.out.keep hk3 (fun h => by have h' : w.heap.size + 1 = w.heap.size := h; omega)
  have hk3' := hk2.trans hk3 (fun i hi h => by have h' : i = w.heap.size := h; omega)
  have HA3 := Lib.hid hA3
  have HB3 := Lib.hid hB3
  clear hA3 hB3 hk3
  go_wp2_with fail
  skip
  have hcc := HSaw.out w3 w.heap.size _ 0 0 a (L.drop cap) hk3' HA3.out (by rw [List.length_drop]; omega) (by omega) (by rw [List.drop_of_length_le hcap]; exact Rd.nil _ _ _)
  with_reducible refine hcc.mono ?_
  clear hcc
  rintro e w4 ⟨⟨v4, rfl⟩, hA4, hk4⟩
  rw [hfl.out] at hA4
  have hB4 := HB3.out.keep hk4 (fun h => by have h' : w.heap.size + 1 = w.heap.size := h; omega)
  have hk4' := hk3'.trans hk4 (fun i hi h => by have h' : i = w.heap.size := h; omega)
  have HA4 := Lib.hid hA4
  have HB4 := Lib.hid hB4
  clear hA4 hB4 hk4 hk3'
  go_wp2_with fail
  have hcc := HSaw.out w4 (w.heap.size + 1) (0, 0) L.length cap a L hk4' HB4.out rfl (by omega) (HRd.out _ hk4')
  with_reducible refine hcc.mono ?_
  clear hcc
  rintro e w5 ⟨⟨v5, rfl⟩, hB5, hk5⟩
  have hA5 := HA4.out.keep hk5 (fun h => by have h' : w.heap.size = w.heap.size + 1 := h; omega)
  have hk5' := hk4'.trans hk5 (fun i hi h => by have h' : i = w.heap.size + 1 := h; omega)
  obtain ⟨fin, hfin⟩ : ∃ fin, fin = L.foldl stp (0, 0) := ⟨_, rfl⟩
  rw [← hfin] at hA5 hB5
  have HA5 := Lib.hid hA5
  have HB5 := Lib.hid hB5
  have HFin := Lib.hid hfin
  have hs5 := hk5'.size
  have hA5l := get_lt hA5
  have hB5l := get_lt hB5
  clear hA5 hB5 hk5 hk4' hfin hmod hand'
  go_wp2_with fail
  go_loopw [9] (fun i wr => SawRel w w5 L fin i wr) (fun i _ => L.length - (intOf i).toNat)
  case atStart => exact ⟨0, (0, 0), Nat.zero_le _, rfl, rfl, Blk.new w5 23 0 0, HA5.out.alloc _, HB5.out.alloc _, hk5'.alloc _⟩
  case round =>
    obtain ⟨j, p, hj, rfl, hP, hC, hA, hB, hK⟩ := hrel
    have HP := Lib.hid hP
    have HC := Lib.hid hC
    have HA := Lib.hid hA
    have HB := Lib.hid hB
    have HK := Lib.hid hK
    clear hP hC hA hB hK
    obtain ⟨c0, c1, f0, f1⟩ := HC.out.cells
    have hcl := get_lt HC.out
    by_cases hlt : j < L.length
    · obtain ⟨g, off, rfl, hg, _, l0, l1⟩ := rdStamp (HRd.out _ HK.out) hlt
      have hsn := Lib.hid (List.take_succ_eq_append_getElem hlt)
      obtain ⟨s, hs⟩ : ∃ s, s = L[j] := ⟨_, rfl⟩
      rw [← hs] at l0 l1 hsn
      have hstp : stp p s = if 0 < cmpH s.1 s.2 p.1 p.2 then s else p := rfl
      rw [cmp_same] at hstp
      have hrc := fun W => rCmp_any s.1 s.2 p.1 p.2 W
      obtain ⟨r, hr⟩ : ∃ r, r = cmpS s.1 s.2 p.1 p.2 := ⟨_, rfl⟩
      rw [← hr] at hstp hrc
      have HSTP := Lib.hid hstp
      have HRC := Lib.hid hrc
      clear hs hr hstp hrc
      go_wp2_with fail
      refine wp_region_ord [0,0,0,1,1,2,0] [0,1,2,3,4,5,6] (by kernel_rfl) (by kernel_rfl) ?_
      repeat (first
        | (apply wpOrd_skip rfl (by decide) rfl; (focus (go_simp; rfl)))
        | (apply wpOrd_pure rfl rfl rfl; (focus (intro _ _; go_simp; (try go_ints); rfl)); (focus (go_simp; rfl)))
        | (apply wpOrd_read rfl rfl rfl; (focus (intro _; go_simp; (try go_ints); rfl)); (focus (go_simp; rfl))))
      refine wpOrd_eff rfl rfl (fun n1 => ?_)
      go_wp2_with fail
      have hcc := HRC.out (wr.drewN n1)
      with_reducible refine hcc.mono ?_
      clear hcc
      rintro e w7 ⟨rfl, hk7⟩
      have hk7' := hk7.of_drewN
      have HC7 := Lib.hid (HC.out.keep hk7' fun x => x)
      have HA7 := Lib.hid (HA.out.keep hk7' fun x => x)
      have HB7 := Lib.hid (HB.out.keep hk7' fun x => x)
      have HK7 := Lib.hid (HK.out.trans_same hk7')
      have l0' := (hk7'.cell (p := ⟨g, off + j * 2, none⟩) (HK.out.lt hg) fun x => x).trans l0
      have l1' := (hk7'.cell (p := ⟨g, off + j * 2 + 1, none⟩) (HK.out.lt hg) fun x => x).trans l1
      clear hk7 hk7' l0 l1 c0 c1 f0 f1
      obtain ⟨c0, c1, f0, f1⟩ := HC7.out.cells
      go_wp2_with fail
      repeat (first
        | (apply wpOrd_skip rfl (by decide) rfl; (focus (go_simp; rfl)))
        | (apply wpOrd_pure rfl rfl rfl; (focus (intro _ _; go_simp; (try go_ints); rfl)); (focus (go_simp; rfl)))
        | (apply wpOrd_read rfl rfl rfl; (focus (intro _; go_simp; (try go_ints); rfl)); (focus (go_simp; rfl))))
      refine wpOrd_nil (fun nq => ?_)
      by_cases hpos : 0 < r
      · go_wp2_with fail
        go_roundw
        case rel =>
          refine ⟨j + 1, s, by omega, by go_num, ?_, (HC7.out.drewN _).put s.1 s.2, ((HA7.out.drewN _).far (by omega) _).far (by omega) _, ((HB7.out.drewN _).far (by omega) _).far (by omega) _, ((HK7.out.drewN _).setCell (.inr (by simp; omega)) _).setCell (.inr (by simp; omega)) _⟩
          rw [hsn.out, List.foldl_append, ← show p = _ from HP]
          show s = stp p s
          rw [HSTP.out, if_pos hpos]
        case measure => simp [intOf]; omega
      · go_wp2_with fail
        go_roundw
        case rel =>
          refine ⟨j + 1, p, by omega, by go_num, ?_, HC7.out.drewN _, HA7.out.drewN _, HB7.out.drewN _, HK7.out.drewN _⟩
          rw [hsn.out, List.foldl_append, ← show p = _ from HP]
          show p = stp p s
          rw [HSTP.out, if_neg (by omega)]
        case measure => simp [intOf]; omega
    · obtain rfl : j = L.length := by omega
      have hpf : p = fin := by rw [show p = _ from HP, List.take_length, show fin = _ from HFin]
      subst hpf
      obtain ⟨a0, a1, _, _⟩ := HA.out.cells
      obtain ⟨b0, b1, _, _⟩ := HB.out.cells
      clear f0 f1
      go_wp2_with fail
      refine (Saw_nil _ _).mono ?_
      rintro e w8 ⟨⟨v8, rfl⟩, rfl⟩
      go_wp2_with fail
      refine (known_any _ (HT.out.keep HK.out)).mono ?_
      rintro e w9 ⟨rfl, hk9⟩
      go_wp2_with fail
      go_ret
      exact ⟨rfl, HK.out.trans_same hk9⟩
set_option maxRecDepth 100000 in
set_option maxHeartbeats 4000000 in
theorem LawSaw_2 (w : World) (a : Option Addr) (cap : Nat) (L : List St) (cut : Int) (HR : Hid (Rd w w.heap.size a (stC L))) (hcap : L.length ≤ cap) (HT : Hid (Tab16 w)) (h200 : L.length ≤ 200)
    (q : Nat) (hq : q ≤ 65535) (hand' : bits .and .i64 cut 65535 = (q : Int)) (k : Nat) (hkl : k ≤ L.length) (hmod : (q : Int) % ((L.length : Int) + 1) = (k : Int)) (hkc : ¬ cap = k) :
    Calls Tryd.prog 4 #[.slice a L.length cap, .int .i64 cut] w fun e w' => e = .returned (.bool true) ∧ Kp No w w' := by
  have hsaw : ∀ (W : World) (g : Nat) (p : St) (j c' : Nat) (a' : Option Addr) (M : List St), Kp No w W → Blk W g 27 p → M.length = j → j ≤ 200 → Rd W w.heap.size a' (stC M) →
      Calls Tryd.prog 12 #[.pointer (some ⟨g, 0, none⟩), .slice a' j c'] W fun e W' => (∃ v, e = .returned v) ∧ Blk W' g 27 (M.foldl stp p) ∧ Kp (One g) W W' := fun W g p j c' a' M hW hA hj hj2 hR => by
    subst hj
    exact Saw_any W g p hA a' c' M (hR.mono hW.size (Nat.le_refl _)) (by omega)
  have HSaw := Lib.hid hsaw
  have hrd := fun W (hW : Kp No w W) => HR.out.keep hW fun _ _ x => x
  have HRd := Lib.hid hrd
  clear hsaw hrd
  obtain ⟨w2, hw2⟩ : ∃ W, W = (w.alloc (.cells #[.int .i64 0, .int .i64 0] 27)).alloc (.cells #[.int .i64 0, .int .i64 0] 27) := ⟨_, rfl⟩
  have hk2 : Kp No w w2 := by rw [hw2]; exact ((Kp.refl _ _).alloc _).alloc _
  have hA2 : Blk w2 w.heap.size 27 (0, 0) := by rw [hw2]; exact (Blk.new w 27 0 0).alloc _
  have hB2 : Blk w2 (w.heap.size + 1) 27 (0, 0) := by
    rw [hw2]
    have := Blk.new (w.alloc (.cells #[.int .i64 0, .int .i64 0] 27)) 27 0 0
    simpa using this
  have HW2 := Lib.hid hw2
  have HA2 := Lib.hid hA2
  have HB2 := Lib.hid hB2
  clear hw2 hA2 hB2
  have hfl := Lib.hid (fold_two L k (0, 0))
  go_enter Tryd.func4, Tryd.ntmps4
  go_wp2_with fail
  rw [← HW2.out]
  have hcc := HSaw.out w2 w.heap.size (0, 0) k cap a (L.take k) hk2 HA2.out (by rw [List.length_take]; omega) (by omega) (by rw [← stC_take]; exact (HRd.out _ hk2).take _)
  with_reducible refine hcc.mono ?_
  clear hcc
  rintro e w3 ⟨⟨v3, rfl⟩, hA3, hk3⟩
  have hB3 := HB2.out.keep hk3 (fun h => by have h' : w.heap.size + 1 = w.heap.size := h; omega)
  have hk3' := hk2.trans hk3 (fun i hi h => by have h' : i = w.heap.size := h; omega)
  have HA3 := Lib.hid hA3
  have HB3 := Lib.hid hB3
  clear hA3 hB3 hk3
  go_wp2_with fail
  obtain ⟨sl, hsl⟩ : ∃ sl, sl = Option.map (fun x => x.add (k * 2)) a := ⟨_, rfl⟩
  rw [← hsl]
  have HSL := Lib.hid hsl
  clear hsl
  have hcc := HSaw.out w3 w.heap.size _ (L.length - k) (cap - k) sl (L.drop k) hk3' HA3.out (by rw [List.length_drop]) (by omega) (by rw [← stC_drop, HSL.out]; exact (HRd.out _ hk3').drop _)
  with_reducible refine hcc.mono ?_
  clear hcc
  rintro e w4 ⟨⟨v4, rfl⟩, hA4, hk4⟩
  rw [hfl.out] at hA4
  have hB4 := HB3.out.keep hk4 (fun h => by have h' : w.heap.size + 1 = w.heap.size := h; omega)
  have hk4' := hk3'.trans hk4 (fun i hi h => by have h' : i = w.heap.size := h; omega)
  have HA4 := Lib.hid hA4
  have HB4 := Lib.hid hB4
  clear hA4 hB4 hk4 hk3'
  go_wp2_with fail
  have hcc := HSaw.out w4 (w.heap.size + 1) (0, 0) L.length cap a L hk4' HB4.out rfl (by omega) (HRd.out _ hk4')
  with_reducible refine hcc.mono ?_
  clear hcc
  rintro e w5 ⟨⟨v5, rfl⟩, hB5, hk5⟩
  have hA5 := HA4.out.keep hk5 (fun h => by have h' : w.heap.size = w.heap.size + 1 := h; omega)
  have hk5' := hk4'.trans hk5 (fun i hi h => by have h' : i = w.heap.size + 1 := h; omega)
  obtain ⟨fin, hfin⟩ : ∃ fin, fin = L.foldl stp (0, 0) := ⟨_, rfl⟩
  rw [← hfin] at hA5 hB5
  have HA5 := Lib.hid hA5
  have HB5 := Lib.hid hB5
  have HFin := Lib.hid hfin
  have hs5 := hk5'.size
  have hA5l := get_lt hA5
  have hB5l := get_lt hB5
  clear hA5 hB5 hk5 hk4' hfin hmod hand'
  go_wp2_with fail
  go_loopw [9] (fun i wr => SawRel w w5 L fin i wr) (fun i _ => L.length - (intOf i).toNat)
  case atStart => exact ⟨0, (0, 0), Nat.zero_le _, rfl, rfl, Blk.new w5 23 0 0, HA5.out.alloc _, HB5.out.alloc _, hk5'.alloc _⟩
  case round =>
    obtain ⟨j, p, hj, rfl, hP, hC, hA, hB, hK⟩ := hrel
    have HP := Lib.hid hP
    have HC := Lib.hid hC
    have HA := Lib.hid hA
    have HB := Lib.hid hB
    have HK := Lib.hid hK
    clear hP hC hA hB hK
    obtain ⟨c0, c1, f0, f1⟩ := HC.out.cells
    have hcl := get_lt HC.out
    by_cases hlt : j < L.length
    · obtain ⟨g, off, rfl, hg, _, l0, l1⟩ := rdStamp (HRd.out _ HK.out) hlt
      have hsn := Lib.hid (List.take_succ_eq_append_getElem hlt)
      obtain ⟨s, hs⟩ : ∃ s, s = L[j] := ⟨_, rfl⟩
      rw [← hs] at l0 l1 hsn
      have hstp : stp p s = if 0 < cmpH s.1 s.2 p.1 p.2 then s else p := rfl
      rw [cmp_same] at hstp
      have hrc := fun W => rCmp_any s.1 s.2 p.1 p.2 W
      obtain ⟨r, hr⟩ : ∃ r, r = cmpS s.1 s.2 p.1 p.2 := ⟨_, rfl⟩
      rw [← hr] at hstp hrc
      have HSTP := Lib.hid hstp
      have HRC := Lib.hid hrc
      clear hs hr hstp hrc
      go_wp2_with fail
      refine wp_region_ord [0,0,0,1,1,2,0] [0,1,2,3,4,5,6] (by kernel_rfl) (by kernel_rfl) ?_
      repeat (first
        | (apply wpOrd_skip rfl (by decide) rfl; (focus (go_simp; rfl)))
        | (apply wpOrd_pure rfl rfl rfl; (focus (intro _ _; go_simp; (try go_ints); rfl)); (focus (go_simp; rfl)))
        | (apply wpOrd_read rfl rfl rfl; (focus (intro _; go_simp; (try go_ints); rfl)); (focus (go_simp; rfl))))
      refine wpOrd_eff rfl rfl (fun n1 => ?_)
      go_wp2_with fail
      have hcc := HRC.out (wr.drewN n1)
      with_reducible refine hcc.mono ?_
      clear hcc
      rintro e w7 ⟨rfl, hk7⟩
      have hk7' := hk7.of_drewN
      have HC7 := Lib.hid (HC.out.keep hk7' fun x => x)
      have HA7 := Lib.hid (HA.out.keep hk7' fun x => x)
      have HB7 := Lib.hid (HB.out.keep hk7' fun x => x)
      have HK7 := Lib.hid (HK.out.trans_same hk7')
      have l0' := (hk7'.cell (p := ⟨g, off + j * 2, none⟩) (HK.out.lt hg) fun x => x).trans l0
      have l1' := (hk7'.cell (p := ⟨g, off + j * 2 + 1, none⟩) (HK.out.lt hg) fun x => x).trans l1
      clear hk7 hk7' l0 l1 c0 c1 f0 f1
      obtain ⟨c0, c1, f0, f1⟩ := HC7.out.cells
      go_wp2_with fail
      repeat (first
        | (apply wpOrd_skip rfl (by decide) rfl; (focus (go_simp; rfl)))
        | (apply wpOrd_pure rfl rfl rfl; (focus (intro _ _; go_simp; (try go_ints); rfl)); (focus (go_simp; rfl)))
        | (apply wpOrd_read rfl rfl rfl; (focus (intro _; go_simp; (try go_ints); rfl)); (focus (go_simp; rfl))))
      refine wpOrd_nil (fun nq => ?_)
      by_cases hpos : 0 < r
      · go_wp2_with fail
        go_roundw
        case rel =>
          refine ⟨j + 1, s, by omega, by go_num, ?_, (HC7.out.drewN _).put s.1 s.2, ((HA7.out.drewN _).far (by omega) _).far (by omega) _, ((HB7.out.drewN _).far (by omega) _).far (by omega) _, ((HK7.out.drewN _).setCell (.inr (by simp; omega)) _).setCell (.inr (by simp; omega)) _⟩
          rw [hsn.out, List.foldl_append, ← show p = _ from HP]
          show s = stp p s
          rw [HSTP.out, if_pos hpos]
        case measure => simp [intOf]; omega
      · go_wp2_with fail
        go_roundw
        case rel =>
          refine ⟨j + 1, p, by omega, by go_num, ?_, HC7.out.drewN _, HA7.out.drewN _, HB7.out.drewN _, HK7.out.drewN _⟩
          rw [hsn.out, List.foldl_append, ← show p = _ from HP]
          show p = stp p s
          rw [HSTP.out, if_neg (by omega)]
        case measure => simp [intOf]; omega
    · obtain rfl : j = L.length := by omega
      have hpf : p = fin := by rw [show p = _ from HP, List.take_length, show fin = _ from HFin]
      subst hpf
      obtain ⟨a0, a1, _, _⟩ := HA.out.cells
      obtain ⟨b0, b1, _, _⟩ := HB.out.cells
      clear f0 f1
      go_wp2_with fail
      refine (Saw_nil _ _).mono ?_
      rintro e w8 ⟨⟨v8, rfl⟩, rfl⟩
      go_wp2_with fail
      refine (known_any _ (HT.out.keep HK.out)).mono ?_
      rintro e w9 ⟨rfl, hk9⟩
      go_wp2_with fail
      go_ret
      exact ⟨rfl, HK.out.trans_same hk9⟩
theorem LawSaw_any (w : World) (a : Option Addr) (cap : Nat) (L : List St) (cut : Int) (hR : Rd w w.heap.size a (stC L)) (hl : L.length ≤ 140737488355328) (hcap : L.length ≤ cap) (ht : Tab16 w) :
    Calls Tryd.prog 4 #[.slice a L.length cap, .int .i64 cut] w fun e w' => e = .returned (.bool true) ∧ Kp No w w' := by
  have HR := Lib.hid hR
  have HT := Lib.hid ht
  clear hR ht
  by_cases h200 : L.length ≤ 200
  · obtain ⟨q, hq, hand⟩ := and_le cut 65535 (by decide)
    have hand' : bits .and .i64 cut 65535 = (q : Int) := hand
    obtain ⟨k, hk⟩ : ∃ k, k = q % (L.length + 1) := ⟨_, rfl⟩
    have hkl : k ≤ L.length := by
      have := Nat.mod_lt q (show 0 < L.length + 1 by omega)
      omega
    have hmod : (q : Int) % ((L.length : Int) + 1) = (k : Int) := by rw [hk]; simp
    by_cases hkc : cap = k
    · exact LawSaw_1 w a cap L cut HR hcap HT h200 q hq hand' k hkl hmod hkc
    · exact LawSaw_2 w a cap L cut HR hcap HT h200 q hq hand' k hkl hmod hkc
  · go_enter Tryd.func4, Tryd.ntmps4
    go_wp2_with fail
    go_ret
    exact ⟨rfl, Kp.refl _ _⟩
end Go.Proofs.YtoblbjlabadcoaaDoor
