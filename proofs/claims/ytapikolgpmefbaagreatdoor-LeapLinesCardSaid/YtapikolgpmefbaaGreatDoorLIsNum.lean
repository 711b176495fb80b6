/-
  Is a text a number; a text cut at a blank: leap's isNumber, strings.Cut.
-/
import Derived.Test.YtapikolgpmefbaaGreatDoorLNum
import Derived.Test.YtapikolgpmefbaaGreatDoorRegion
import Derived.Test.YtapikolgpmefbaaGreatDoorShelf
import Derived.Shelf.Strings.SlTrimAscii
import Derived.Deep.CutRange
namespace Go.Proofs.YtapikolgpmefbaaGreatDoor
open Go.RowKit Go.Mer

/-- A text, cut at the first c. -/
def cutF (c : UInt8) : List UInt8 → List UInt8 × List UInt8 × Bool
  | [] => ([], [], false)
  | x :: r => if x = c then ([], r, true) else (x :: (cutF c r).1, (cutF c r).2.1, (cutF c r).2.2)
theorem cutF_at (c : UInt8) (l : List UInt8) : ∀ i : Nat, Lib.indexByte l c = (i : Int) → cutF c l = (l.take i, l.drop (i + 1), true) := by
  induction l with
  | nil => intro i h; simp [Lib.indexByte] at h
  | cons x r ih =>
    intro i h
    unfold Lib.indexByte at h
    rw [cutF]
    by_cases hc : x = c
    · rw [if_pos (by simpa using hc)] at h
      obtain rfl : i = 0 := by omega
      simp [hc]
    · rw [if_neg (by simpa using hc)] at h
      by_cases h1 : Lib.indexByte r c = -1
      · rw [if_pos (by simpa using h1)] at h; omega
      · rw [if_neg (by simpa using h1)] at h
        have hge := Lib.indexByte_ge r c
        obtain ⟨j, hj⟩ : ∃ j : Nat, Lib.indexByte r c = (j : Int) := ⟨(Lib.indexByte r c).toNat, by omega⟩
        obtain rfl : i = j + 1 := by omega
        rw [if_neg hc, ih j hj]
        simp
theorem cutF_none (c : UInt8) (l : List UInt8) (h : Lib.indexByte l c = -1) : cutF c l = (l, [], false) := by
  induction l with
  | nil => rfl
  | cons x r ih =>
    unfold Lib.indexByte at h
    rw [cutF]
    by_cases hc : x = c
    · rw [if_pos (by simpa using hc)] at h; omega
    · rw [if_neg (by simpa using hc)] at h
      by_cases h1 : Lib.indexByte r c = -1
      · rw [if_neg hc, ih h1]
      · rw [if_neg (by simpa using h1)] at h
        have := Lib.indexByte_ge r c
        omega
theorem sCut_any (B : ByteArray) (w : World) (hB : B.size ≤ 1000000) : Calls Tryz.prog 61 #[.string B, .string ⟨#[32]⟩] w fun e w' => e = .returned (.tuple #[strV (cutF 32 B.data.toList).1, strV (cutF 32 B.data.toList).2.1, .bool (cutF 32 B.data.toList).2.2]) ∧ Kp No w w' := by
  have hidx := Tryz.stringslite_Index_one B 32 w
  obtain ⟨i, hi⟩ : ∃ i, i = Lib.indexByte B.data.toList 32 := ⟨_, rfl⟩
  obtain ⟨r, hr⟩ : ∃ r, r = cutF 32 B.data.toList := ⟨_, rfl⟩
  rw [← hr]
  rw [← hi] at hidx
  have HX := Lib.hid hidx
  clear hidx
  rcases Int.lt_or_le i 0 with hn | hn
  · have h1 : i = -1 := by have := Lib.indexByte_ge B.data.toList 32; omega
    have HR := Lib.hid (show r = (B.data.toList, [], false) by rw [hr]; exact cutF_none _ _ (by rw [← hi, h1]))
    have bi : decide (0 ≤ i) = false := by rw [decide_eq_false_iff_not]; omega
    clear hi hr h1
    go_enter Tryz.func61, Tryz.ntmps61
    go_wp2_with fail
    refine HX.out.mono ?_
    rintro e w' ⟨rfl, rfl⟩
    go_wp2_with fail
    refine bodyPost_ret (v := .tuple #[.string B, .string { data := #[] }, .bool false]) (by simp [results, Tryz.results61, go_sem]) rfl ⟨?_, Kp.refl _ _⟩
    rw [HR.out, strV, ← ba_eq B _ rfl]
    rfl
  · obtain ⟨j, rfl⟩ : ∃ j : Nat, i = (j : Int) := ⟨i.toNat, by omega⟩
    have HR := Lib.hid (show r = (B.data.toList.take j, B.data.toList.drop (j + 1), true) by rw [hr]; exact cutF_at _ _ j hi.symm)
    have bi : decide ((0 : Int) ≤ (j : Int)) = true := by rw [decide_eq_true_iff]; omega
    have hjl : j < B.size := by
      have := (Lib.indexByte_some hi.symm).1
      exact (List.getElem?_eq_some_iff.1 this).1
    have hw : wrap64 ((j : Int) + 1) = (j : Int) + 1 := IntWalk.wrap64_in _ (by omega)
    clear hi hr
    go_enter Tryz.func61, Tryz.ntmps61
    go_wp2_with fail
    refine HX.out.mono ?_
    rintro e w' ⟨rfl, rfl⟩
    go_wp2_with fail
    refine wp_region_ord [0,0,0,0,0,0,1,0,0,0,0,0] [0,1,2,3,4,5,9,6,7,8,10,11] (by kernel_rfl) (by kernel_rfl) ?_
    repeat (first
      | (apply wpOrd_skip rfl (by decide) rfl; (focus (go_simp; rfl)))
      | (apply wpOrd_pure rfl rfl rfl; (focus (intro _ _; go_simp; (try go_ints); rfl)); (focus (go_simp; rfl)))
      | (apply wpOrd_read rfl rfl rfl; (focus (intro _; go_simp; (try go_ints); rfl)); (focus (go_simp; rfl))))
    refine wpOrd_pure rfl rfl rfl (v := .string (B.extract 0 j)) ?_ rfl ?_
    · intro _ _
      go_simp
      intro h
      first | exact absurd (h (by omega)) (by omega) | exact absurd h (by omega)
    repeat (first
      | (apply wpOrd_skip rfl (by decide) rfl; (focus (go_simp; rfl)))
      | (apply wpOrd_pure rfl rfl rfl; (focus (intro _ _; go_simp; (try go_ints); rfl)); (focus (go_simp; rfl)))
      | (apply wpOrd_read rfl rfl rfl; (focus (intro _; go_simp; (try go_ints); rfl)); (focus (go_simp; rfl))))
    refine wpOrd_pure rfl rfl rfl (v := .string (B.extract (j + 1) B.size)) ?_ rfl ?_
    · intro _ _
      go_simp
      intro h
      first | exact absurd (h (by omega)) (by omega) | exact absurd h (by omega)
    repeat (first
      | (apply wpOrd_skip rfl (by decide) rfl; (focus (go_simp; rfl)))
      | (apply wpOrd_pure rfl rfl rfl; (focus (intro _ _; go_simp; (try go_ints); rfl)); (focus (go_simp; rfl)))
      | (apply wpOrd_read rfl rfl rfl; (focus (intro _; go_simp; (try go_ints); rfl)); (focus (go_simp; rfl))))
    refine wpOrd_nil (fun nq => ?_)
    go_wp2_with fail
    refine bodyPost_ret (v := .tuple #[.string (B.extract 0 j), .string (B.extract (j + 1) B.size), .bool true]) (by simp [results, Tryz.results61, go_sem]) rfl ⟨?_, (Kp.refl _ _).drewN _⟩
    rw [HR.out]
    show _ = Ending.returned (.tuple #[strV (B.data.toList.take j), strV (B.data.toList.drop (j + 1)), .bool true])
    unfold strV
    rw [ba_eq (B.extract 0 j) _ (extract_list _ _ _), ba_eq (B.extract (j + 1) B.size) _ (extract_list _ _ _), List.drop_zero, Nat.sub_zero, List.take_of_length_le (l := B.data.toList.drop (j + 1)) (by rw [List.length_drop]; exact Nat.le_refl _)]
theorem Cut_any (B : ByteArray) (w : World) (hB : B.size ≤ 1000000) : Calls Tryz.prog 43 #[.string B, .string ⟨#[32]⟩] w fun e w' => e = .returned (.tuple #[strV (cutF 32 B.data.toList).1, strV (cutF 32 B.data.toList).2.1, .bool (cutF 32 B.data.toList).2.2]) ∧ Kp No w w' := by
  have HC := Lib.hid (sCut_any B w hB)
  obtain ⟨r, hr⟩ : ∃ r, r = cutF 32 B.data.toList := ⟨_, rfl⟩
  rw [← hr] at HC ⊢
  obtain ⟨v1, h1⟩ : ∃ v, v = strV r.1 := ⟨_, rfl⟩
  obtain ⟨v2, h2⟩ : ∃ v, v = strV r.2.1 := ⟨_, rfl⟩
  rw [← h1, ← h2] at HC ⊢
  clear h1 h2 hr
  go_enter Tryz.func43, Tryz.ntmps43
  go_wp2_with fail
  refine HC.out.mono ?_
  rintro e w' ⟨rfl, hk⟩
  have HK := Lib.hid hk
  clear hk
  go_wp2_with fail
  exact bodyPost_ret (v := .tuple #[v1, v2, .bool r.2.2]) (by simp [results, Tryz.results43, go_sem]) rfl ⟨rfl, HK.out⟩
theorem trimS_nil (cs l : List UInt8) : Lib.trimS l cs = [] ↔ l.all (cs.contains ·) = true := by
  have hdw : ∀ r : List UInt8, r.dropWhile (cs.contains ·) = [] ↔ r.all (cs.contains ·) = true := by
    intro r
    induction r with
    | nil => simp
    | cons x q ih =>
      rw [List.dropWhile_cons, List.all_cons]
      cases hx : cs.contains x with
      | true => simpa using ih
      | false => simp
  unfold Lib.trimS Lib.trimLeftS Lib.trimRightS
  rw [hdw]
  constructor
  · intro h
    have h2 : (l.reverse.dropWhile (cs.contains ·)).all (cs.contains ·) = true := by simpa using h
    have h3 : l.reverse.dropWhile (cs.contains ·) = [] := by
      cases hd : l.reverse.dropWhile (cs.contains ·) with
      | nil => rfl
      | cons x q =>
        have h4 := List.head?_dropWhile_not (cs.contains ·) l.reverse
        rw [hd] at h2 h4
        simp at h2 h4
        exact absurd h2.1 h4
    have := (hdw _).1 h3
    simpa using this
  · intro h
    have : l.reverse.dropWhile (cs.contains ·) = [] := (hdw _).2 (by simpa using h)
    rw [this]
    rfl
/-- Is a text a number: decimal digits without a nought ahead? -/
def isNumF (l : List UInt8) : Bool := !l.isEmpty && l.all isDig && (decide (l.head? ≠ some 48) || decide (l.length = 1))
set_option maxRecDepth 20000 in
theorem digits_fin : ∀ n : Fin 256, ([48, 49, 50, 51, 52, 53, 54, 55, 56, 57] : List UInt8).contains (UInt8.ofFin n) = isDig (UInt8.ofFin n) := by decide
theorem digits_all (l : List UInt8) : l.all (([48, 49, 50, 51, 52, 53, 54, 55, 56, 57] : List UInt8).contains ·) = l.all isDig := by
  have h : ∀ c : UInt8, ([48, 49, 50, 51, 52, 53, 54, 55, 56, 57] : List UInt8).contains c = isDig c := fun c => by
    have := digits_fin c.toFin
    rwa [UInt8.ofFin_toFin] at this
  simp only [h]
theorem isNumber_any (B : ByteArray) (w : World) (hB : B.size ≤ 1000000) : Calls Tryz.prog 44 #[.string B] w fun e w' => e = .returned (.bool (isNumF B.data.toList)) ∧ Kp No w w' := by
  obtain ⟨r, hr⟩ : ∃ r, r = isNumF B.data.toList := ⟨_, rfl⟩
  rw [← hr]
  have ht := Any.strings_Trim_laid Tryz.lays160 (by kernel_rfl) B ⟨#[48, 49, 50, 51, 52, 53, 54, 55, 56, 57]⟩ w (by omega) (by decide) (ascii_of_all (by decide))
  obtain ⟨T, hT⟩ : ∃ T, T = Lib.trimS B.data.toList [48, 49, 50, 51, 52, 53, 54, 55, 56, 57] := ⟨_, rfl⟩
  rw [show (ByteArray.mk #[48, 49, 50, 51, 52, 53, 54, 55, 56, 57]).data.toList = [48, 49, 50, 51, 52, 53, 54, 55, 56, 57] from rfl, ← hT] at ht
  have hTn : T = [] ↔ B.data.toList.all isDig = true := by rw [hT, trimS_nil, digits_all]
  have HT := Lib.hid ht
  clear ht hT
  rcases Nat.eq_zero_or_pos B.size with hz | hz
  · have e : B = ⟨#[]⟩ := ba_eq B [] (List.eq_nil_of_length_eq_zero hz)
    subst e
    have HR := Lib.hid (show r = false by rw [hr]; rfl)
    clear hr hTn HT hB hz
    go_enter Tryz.func44, Tryz.ntmps44
    go_wp2_with fail
    go_ret
    exact ⟨by rw [HR.out]; rfl, Kp.refl _ _⟩
  · obtain ⟨c, hc⟩ : ∃ c, B.data.toList[0]? = some c := ⟨B.data.toList[0]'hz, by simp⟩
    have hidx : ∀ W, (Instr.index 9 (.string B) (.int .i64 0)).run Tryz.prog W = .ok (.int .u8 (c.toNat : Int)) W := fun W => by
      have e : c = B[0]'hz := by
        have := List.getElem?_eq_some_iff.1 hc
        rw [← this.2]; rfl
      rw [run_index_string W 9 B .i64 0 Tryz.underlying9, dif_pos ⟨by omega, by omega⟩, e]
      rfl
    have hne : ¬ B.toList = [] := by
      rw [ByteArray.toList_eq]
      intro h
      have h := ba_eq B [] h
      rw [h] at hz
      exact absurd hz (by decide)
    have HNE := Lib.hid (show B.toList.isEmpty = false by
      cases hd : B.toList with
      | nil => exact absurd hd hne
      | cons x q => rfl)
    have hnl : B.data.toList.isEmpty = false := by
      cases hd : B.data.toList with
      | nil => rw [hd] at hc; cases hc
      | cons x q => rfl
    have hr2 : r = (B.data.toList.all isDig && (decide (c ≠ 48) || decide (B.size = 1))) := by
      rw [hr, isNumF, hnl, List.head?_eq_getElem?, hc]
      simp only [Bool.not_false, Bool.true_and]
      congr 2
      exact decide_eq_decide.2 ⟨fun h h' => h (by rw [h']), fun h h' => h (by simpa using h')⟩
    clear hnl hr hc
    have HS := Lib.hid (And.intro hz hB)
    cases hall : B.data.toList.all isDig with
    | false =>
      have hTne : T ≠ [] := fun h => by rw [hTn.1 h] at hall; cases hall
      have hte : ¬ (ByteArray.mk T.toArray).toList = [] := by
        rw [ByteArray.toList_eq]
        intro h
        exact hTne (by simpa using h)
      have HR := Lib.hid (show r = false by rw [hr2, hall]; rfl)
      obtain ⟨X, hX⟩ : ∃ X, X = ByteArray.mk T.toArray := ⟨_, rfl⟩
      rw [← hX] at hte HT
      clear hr2 hall hTn hTne hX hz hB
      go_enter Tryz.func44, Tryz.ntmps44
      go_wp2_with fail
      refine HT.out.mono ?_
      rintro e w' ⟨rfl, hk⟩
      have HK := Lib.hid (Kp.of_below (S := No) hk (fun k h1 h2 => absurd h1 (by omega)))
      clear hk
      go_wp2_with fail
      go_ret
      refine ⟨?_, HK.out⟩
      rw [HR.out]
      (try rw [HNE.out])
      rfl
    | true =>
      obtain rfl := hTn.2 hall
      rw [hall, Bool.true_and] at hr2
      clear hall hTn
      by_cases h48 : c = 48
      · subst h48
        rcases Nat.decEq B.size 1 with h1 | h1
        · have e1 : ((B.size : Int) == 1) = false := by rw [beq_eq_false_iff_ne]; omega
          have HR := Lib.hid (show r = false by rw [hr2]; simp [h1])
          clear hr2 h1 hz hB
          go_enter Tryz.func44, Tryz.ntmps44
          go_wp2_with fail
          refine HT.out.mono ?_
          rintro e w' ⟨rfl, hk⟩
          have HK := Lib.hid (Kp.of_below (S := No) hk (fun k h1 h2 => absurd h1 (by omega)))
          clear hk
          go_wp2_with fail
          go_ret
          refine ⟨?_, HK.out⟩
          rw [HR.out]
          (try rw [HNE.out])
          rfl
        · have e1 : ((B.size : Int) == 1) = true := by rw [h1]; rfl
          have HR := Lib.hid (show r = true by rw [hr2]; simp [h1])
          clear hr2 h1 hz hB
          go_enter Tryz.func44, Tryz.ntmps44
          go_wp2_with fail
          refine HT.out.mono ?_
          rintro e w' ⟨rfl, hk⟩
          have HK := Lib.hid (Kp.of_below (S := No) hk (fun k h1 h2 => absurd h1 (by omega)))
          clear hk
          go_wp2_with fail
          go_ret
          refine ⟨?_, HK.out⟩
          rw [HR.out]
          (try rw [HNE.out])
          rfl
      · have e7 : ((c.toNat : Int) == 48) = false := by
          rw [beq_eq_false_iff_ne]; intro h; exact h48 (UInt8.toNat_inj.1 (show c.toNat = 48 by omega))
        have e7' : ((c.toNat : Int) != 48) = true := by rw [bne, e7]; rfl
        have HR := Lib.hid (show r = true by rw [hr2]; simp [h48])
        clear hr2 h48 hz hB
        go_enter Tryz.func44, Tryz.ntmps44
        go_wp2_with fail
        refine HT.out.mono ?_
        rintro e w' ⟨rfl, hk⟩
        have HK := Lib.hid (Kp.of_below (S := No) hk (fun k h1 h2 => absurd h1 (by omega)))
        clear hk
        go_wp2_with fail
        go_ret
        refine ⟨?_, HK.out⟩
        rw [HR.out]
        (try rw [HNE.out])
        rfl
end Go.Proofs.YtapikolgpmefbaaGreatDoor
