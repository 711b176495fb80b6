/-
  Texts laid together: WNm, WNmW, WSeg, WSegR.
-/
import Derived.Test.YtdibkdgafidjgaaGreatDoorWa4
import Derived.Test.YtdibkdgafidjgaaGreatDoorWa1
import Derived.Test.YtdibkdgafidjgaaGreatDoorShelf
import Derived.Lib.ItoaNum
import Derived.Shelf.Strings.SlTrimAscii
import Derived.Deep.CutRange
namespace Go.Proofs.YtdibkdgafidjgaaGreatDoor
open Go.RowKit Go.Mer
theorem conv_oneW (W : World) (b : UInt8) : (convert 23 9 (.slice (some ⟨W.heap.size, 0, none⟩) 1 1)).run Tryz.prog (W.alloc (.cells #[.int .u8 (b.toNat : Int)] 5)) = .ok (.string ⟨#[b]⟩) (W.alloc (.cells #[.int .u8 (b.toNat : Int)] 5)) :=
 run_convert_bytes_back (P := Tryz.prog) (W.alloc (.cells #[.int .u8 (b.toNat : Int)] 5)) 23 9 5 ⟨W.heap.size, 0, none⟩ 1 [b] Tryz.underlying23 Tryz.underlying5 Tryz.underlying9 (fun j hj => by
  have : j = 0 := by simpa using hj
  subst this
  rw [Addr.add_lit, cell_at (heap_alloc_new W _)]
  rfl)
theorem size_appW {x y : List UInt8} {S : ByteArray} {c : UInt8} (h : S = ⟨y.toArray⟩) (e : x = c :: y) : (⟨#[c]⟩ : ByteArray) ++ S = ⟨x.toArray⟩ := by
 subst h
 subst e
 apply ByteArray.ext
 simp
theorem app_text {P S : ByteArray} {l : List UInt8} (h : S = ⟨l.toArray⟩) : P ++ S = ⟨(P.data.toList ++ l).toArray⟩ := by
 subst h
 apply ByteArray.ext
 simp
theorem text_size {S : ByteArray} {l : List UInt8} (h : S = ⟨l.toArray⟩) : S.size = l.length := by
 subst h
 rfl
theorem dgtW (n : Nat) : ∃ q : Nat, q < 10 ∧ q = n % 10 ∧ (n : Int).tmod 10 = (q : Int) ∧ wrap64 (48 + (q : Int)) = 48 + (q : Int) ∧ (UInt8.ofNat (48 + q)).toNat = 48 + q := by
 refine ⟨n % 10, Nat.mod_lt _ (by decide), rfl, ?_, IntWalk.wrap64_in _ (by omega), (dgB_nat n).2⟩
 rw [Int.tmod_eq_emod_of_nonneg (by omega)]
 exact (Int.natCast_emod n 10).symm
set_option maxRecDepth 100000 in
theorem rDec_any (n : Nat) (hn : n < 1000000) (w : World) :
  Calls Tryz.prog 71 #[.int .i64 (n : Int)] w fun e w' => e = .returned (.string ⟨(Lib.decDigits n).toArray⟩) ∧ Kp No w w' := by
 go_enter Tryz.func71, Tryz.ntmps71
 go_wp2_with fail
 rename World => w0
 go_loopw [0, 3] (fun x s wr => ∃ (y : Nat) (S : ByteArray) (l : List UInt8), x = .int .i64 (y : Int) ∧ s = .string S ∧ S.size + y ≤ 1000000 ∧ y < 1000000 ∧ Hid (S = ⟨l.toArray⟩ ∧ Lib.decDigits n = Lib.decDigits y ++ l) ∧ Hid (Kp No w0 wr)) (fun x _ _ => (intOf x).toNat)
 case atStart => exact ⟨n, ⟨#[]⟩, [], rfl, rfl, by simp [ByteArray.size]; omega, hn, ⟨rfl, by simp⟩, Kp.refl _ _⟩
 case round =>
  obtain ⟨y, S, l, rfl, rfl, hS, hy, HS, HK⟩ := hrel
  obtain ⟨q, hq10, hq, hqm, hqw, hqn⟩ := dgtW y
  have HQ := Lib.hid hq
  have hcv := fun W => conv_oneW W (UInt8.ofNat (48 + q))
  rw [hqn, Int.natCast_add, show ((48 : Nat) : Int) = 48 from rfl] at hcv
  obtain ⟨c, hc⟩ : ∃ c, c = UInt8.ofNat (48 + q) := ⟨_, rfl⟩
  rw [← hc] at hcv
  have HC := Lib.hid hc
  clear hq hc hqn
  by_cases hlt : y < 10
  ·have hd0 : (y : Int).tdiv 10 = 0 := Int.tdiv_eq_zero_of_lt (by omega) (by omega)
   go_wp2_with fail
   go_ret
   refine ⟨congrArg (fun s => Ending.returned (.string s)) (size_appW HS.out.1 ?_), (show Kp No w0 wr from HK).alloc _⟩
   rw [HS.out.2, decDm_small hlt, HC.out, HQ.out]
   rfl
  ·obtain ⟨z, hz⟩ : ∃ z, z = y / 10 := ⟨_, rfl⟩
   have hd0 : (y : Int).tdiv 10 = (z : Int) := by rw [hz, Int.tdiv_eq_ediv_of_nonneg (by omega)]; exact (Int.natCast_ediv y 10).symm
   have hz0 : ((z : Int) == 0) = false := by rw [beq_eq_false_iff_ne]; omega
   have hzp : z < y := by omega
   have HZ := Lib.hid hz
   have hzn : ¬ z = 0 := by omega
   clear hz
   go_wp2_with fail
   go_roundw
   case rel =>
    refine ⟨z, _, c :: l, rfl, rfl, ?_, by omega, ⟨size_appW HS.out.1 rfl, ?_⟩, (show Kp No w0 wr from HK).alloc _⟩
    ·rw [ByteArray.size_append]
     show 1 + S.size + z ≤ _
     omega
    ·rw [HS.out.2, decDm_step hlt, HC.out, HQ.out, HZ.out]
     simp
   case measure => simp [intOf]; omega
def strN : Value → Nat
 | .string S => 8 - S.size
 | _ => 0
set_option maxRecDepth 100000 in
theorem rName_any (P : ByteArray) (hP : P.size ≤ 1000) (n : Nat) (hn : n < 1000000) (w : World) :
  Calls Tryz.prog 29 #[.string P, .int .i64 (n : Int)] w fun e w' => e = .returned (.string ⟨(nameL P.data.toList n).toArray⟩) ∧ Kp No w w' := by
 have hd := rDec_any n hn w
 obtain ⟨D, hD⟩ : ∃ D : ByteArray, D = ⟨(Lib.decDigits n).toArray⟩ := ⟨_, rfl⟩
 rw [← hD] at hd
 have hdl := decDm_len 5 n (by omega)
 have hDs : D.size = (Lib.decDigits n).length := text_size hD
 have HD := Lib.hid hD
 have HC := Lib.hid hd
 clear hd hD
 obtain ⟨d, hdd⟩ : ∃ d, d = (Lib.decDigits n).length := ⟨_, rfl⟩
 rw [← hdd] at hdl hDs
 have HDD := Lib.hid hdd
 clear hdd
 go_enter Tryz.func29, Tryz.ntmps29
 go_wp2_with fail
 have hc := HC.out
 with_reducible refine hc.mono ?_
 rintro e w1 ⟨rfl, hk⟩
 have HK1 := Lib.hid hk
 clear hc hk
 go_wp2_with fail
 go_loopw [5] (fun s wr => ∃ (j : Nat) (S : ByteArray), s = .string S ∧ S.size = j + d ∧ j + d ≤ 8 ∧ Hid (S = ⟨(List.replicate j 48 ++ Lib.decDigits n).toArray⟩) ∧ w1 = wr) (fun s _ => strN s)
 case atStart => exact ⟨0, D, rfl, by omega, by omega, HD, rfl⟩
 case round =>
  obtain ⟨j, S, rfl, hS, hj, HS, rfl⟩ := hrel
  rcases Nat.lt_or_ge (j + d) 8 with hlt | hge
  ·have e1 : decide ((S.size : Int) < 8) = true := by rw [decide_eq_true_iff]; omega
   have hS8 : S.size < 8 := by omega
   go_wp2_with fail
   go_roundw
   case rel =>
    refine ⟨j + 1, _, rfl, ?_, by omega, (size_appW HS.out (by rw [List.replicate_succ]; rfl)), trivial⟩
    rw [ByteArray.size_append]
    show 1 + S.size = _
    omega
   case measure =>
    show 8 - (_ : ByteArray).size < 8 - S.size
    rw [ByteArray.size_append]
    show 8 - (1 + S.size) < _
    omega
  ·have e1 : decide ((S.size : Int) < 8) = false := by rw [decide_eq_false_iff_not]; omega
   have hS8 : ¬ S.size < 8 := by omega
   go_wp2_with fail
   go_ret
   refine ⟨congrArg (fun s => Ending.returned (.string s)) ((app_text HS.out).trans ?_), HK1.out⟩
   have hj8 : j = 8 - (Lib.decDigits n).length := by rw [← HDD.out]; omega
   rw [hj8]
   rfl
end Go.Proofs.YtdibkdgafidjgaaGreatDoor
namespace Go.Proofs.YtdibkdgafidjgaaGreatDoor
open Go.RowKit Go.Mer
theorem gPow : Tryz.prog.globalNamed "internal/strconv.uint64pow10" = some 1 := by kernel_rfl
def Pow (w : World) : Prop := Lib.TabIs Tryz.prog w "internal/strconv.uint64pow10" .u64 Lib.pow10Tab
theorem Pow.keep {w w' : World} (h : Pow w) (hk : Kp No w w') : Pow w' := by
 unfold Pow Lib.TabIs World.var? at h ⊢
 rw [gPow] at h ⊢
 simp only [Option.bind_some] at h ⊢
 cases hg : w.heap[1]? with
 | none => rw [hg] at h; simp at h
 | some o => rw [hk.get hg fun x => x]; rw [hg] at h; exact h
theorem ItoaW_any (o : Nat) (h : o ≤ 1000000) (w : World) (ht : Pow w) : Calls Tryz.prog 78 #[.int .i64 (o : Int)] w fun e w' => e = .returned (.string ⟨(Lib.decDigits o).toArray⟩) ∧ Kp No w w' := by
 refine (Tryz.strconv_Itoa (o : Int) (by omega) (by omega) w ht).mono ?_
 rintro e w1 ⟨rfl, k, os, hw⟩
 refine ⟨?_, ?_⟩
 ·have : Lib.itoa (o : Int) = Lib.decDigits o := by
   unfold Lib.itoa
   simp
  rw [this]
 ·rw [hw]
  refine ⟨rfl, rfl, rfl, by show w.heap.size ≤ (w.heap ++ os).size; simp, fun j hj _ => ?_⟩
  show (w.heap ++ os)[j]? = _
  exact Array.getElem?_append_left hj
theorem zeros_any (c : Nat) (hc : c ≤ 8) (w : World) : Calls Tryz.prog 79 #[.string ⟨#[48]⟩, .int .i64 (c : Int)] w fun e w' => e = .returned (.string ⟨(List.replicate c 48).toArray⟩) ∧ Kp No w w' := by
 refine (Tryz.strings_Repeat ⟨#[48]⟩ c w (by omega) (by show 1 * c ≤ _; omega)).mono ?_
 rintro e w1 ⟨rfl, hb⟩
 refine ⟨?_, Kp.of_below hb fun k hk hb => absurd hk (by omega)⟩
 have := Lib.repeatL_replicate (48 : UInt8) 1 c
 rw [Nat.mul_one] at this
 rw [← this]
 rfl
set_option maxRecDepth 100000 in
theorem wName_any (P : ByteArray) (hP : P.size ≤ 1000) (n : Nat) (hn : n < 1000000) (w : World) (ht : Pow w) :
  Calls Tryz.prog 40 #[.string P, .int .i64 (n : Int)] w fun e w' => e = .returned (.string ⟨(nameL P.data.toList n).toArray⟩) ∧ Kp No w w' := by
 have hd := ItoaW_any n (by omega) w ht
 obtain ⟨D, hD⟩ : ∃ D : ByteArray, D = ⟨(Lib.decDigits n).toArray⟩ := ⟨_, rfl⟩
 rw [← hD] at hd
 have hdl := decDm_len 5 n (by omega)
 have hDs : D.size = (Lib.decDigits n).length := text_size hD
 have HD := Lib.hid hD
 have HC := Lib.hid hd
 clear hd hD
 obtain ⟨d, hdd⟩ : ∃ d, d = (Lib.decDigits n).length := ⟨_, rfl⟩
 rw [← hdd] at hdl hDs
 have HDD := Lib.hid hdd
 clear hdd
 obtain ⟨k, hk⟩ : ∃ k, k = 8 - d := ⟨_, rfl⟩
 have hw8 : wrap64 (8 - (D.size : Int)) = (k : Int) := by rw [IntWalk.wrap64_in _ (by omega), hk, hDs]; omega
 have hk8 : k ≤ 8 := by omega
 have hmx : max (0 : Int) (8 - (d : Int)) = (k : Int) := by omega
 have hkp : 2 ≤ k := by omega
 have hz := fun W => zeros_any k hk8 W
 obtain ⟨Z, hZ⟩ : ∃ Z : ByteArray, Z = ⟨(List.replicate k 48).toArray⟩ := ⟨_, rfl⟩
 rw [← hZ] at hz
 have hZs : Z.size = k := by rw [text_size hZ, List.length_replicate]
 have HZ := Lib.hid hZ
 have HZC := Lib.hid hz
 have HKK := Lib.hid hk
 have hN : (P ++ Z) ++ D = ⟨(nameL P.data.toList n).toArray⟩ := by
  rw [app_text HD.out, app_text HZ.out]
  rw [show nameL P.data.toList n = P.data.toList ++ (List.replicate (8 - (Lib.decDigits n).length) 48 ++ Lib.decDigits n) from rfl, ← HDD.out, ← hk]
  simp
 have HN := Lib.hid hN
 clear hz hZ hk hN
 go_enter Tryz.func40, Tryz.ntmps40
 go_wp2_with fail
 have hc := HC.out
 with_reducible refine hc.mono ?_
 rintro e w1 ⟨rfl, hk⟩
 have HK1 := Lib.hid hk
 clear hc hk
 go_wp2_with fail
 have hc := HZC.out w1
 with_reducible refine hc.mono ?_
 rintro e w2 ⟨rfl, hk⟩
 have HK2 := Lib.hid (HK1.out.trans_same hk)
 clear hc hk
 go_wp2_with fail
 go_ret
 exact ⟨congrArg (fun s => Ending.returned (.string s)) HN.out, HK2.out⟩
end Go.Proofs.YtdibkdgafidjgaaGreatDoor
namespace Go.Proofs.YtdibkdgafidjgaaGreatDoor
open Go.RowKit Go.Mer
theorem trimW_nil (cs l : List UInt8) : Lib.trimS l cs = [] ↔ l.all (cs.contains ·) = true := by
 have hdw : ∀ r : List UInt8, r.dropWhile (cs.contains ·) = [] ↔ r.all (cs.contains ·) = true := by
  intro r
  induction r with
  | nil => simp
  | cons x q ih =>
   rw [List.dropWhile_cons, List.all_cons]
   cases hx : cs.contains x with
   | true => simpa using ih
   | false => simp
 unfold Lib.trimS Lib.trimLeftS Lib.trimRightS
 rw [hdw]
 constructor
 ·intro h
  have h2 : (l.reverse.dropWhile (cs.contains ·)).all (cs.contains ·) = true := by simpa using h
  have h3 : l.reverse.dropWhile (cs.contains ·) = [] := by
   cases hd : l.reverse.dropWhile (cs.contains ·) with
   | nil => rfl
   | cons x q =>
    have h4 := List.head?_dropWhile_not (cs.contains ·) l.reverse
    rw [hd] at h2 h4
    simp at h2 h4
    exact absurd h2.1 h4
  have := (hdw _).1 h3
  simpa using this
 ·intro h
  have : l.reverse.dropWhile (cs.contains ·) = [] := (hdw _).2 (by simpa using h)
  rw [this]
  rfl
set_option maxRecDepth 20000 in
theorem digitsW_fin : ∀ n : Fin 256, ([48, 49, 50, 51, 52, 53, 54, 55, 56, 57] : List UInt8).contains (UInt8.ofFin n) = dgB (UInt8.ofFin n) := by decide
theorem digitsW_all (l : List UInt8) : l.all (([48, 49, 50, 51, 52, 53, 54, 55, 56, 57] : List UInt8).contains ·) = l.all dgB := by
 have h : ∀ c : UInt8, ([48, 49, 50, 51, 52, 53, 54, 55, 56, 57] : List UInt8).contains c = dgB c := fun c => by
  have := digitsW_fin c.toFin
  rwa [UInt8.ofFin_toFin] at this
 simp only [h]
set_option maxRecDepth 100000 in
theorem isSeg_any (B P : ByteArray) (w : World) (hB : B.size ≤ 1000000) : Calls Tryz.prog 55 #[.string B, .string P] w fun e w' => e = .returned (.bool (segNo P.data.toList B.data.toList).isSome) ∧ Kp No w w' := by
 obtain ⟨r, hr⟩ : ∃ r, r = (segNo P.data.toList B.data.toList).isSome := ⟨_, rfl⟩
 rw [← hr]
 have hcp := Tryz.strings_CutPrefix B P w
 obtain ⟨q, hq⟩ : ∃ q, q = Lib.hasPrefix B.data.toList P.data.toList := ⟨_, rfl⟩
 obtain ⟨R, hR⟩ : ∃ R : ByteArray, R = ⟨(Lib.trimPrefix B.data.toList P.data.toList).toArray⟩ := ⟨_, rfl⟩
 rw [← hq, ← hR] at hcp
 have hRs : R.size ≤ 1000000 := by
  rw [text_size hR, Lib.trimPrefix]
  have hb : B.data.toList.length = B.size := Array.length_toList
  split
  ·rw [List.length_drop]; omega
  ·omega
 have hRl : R.data.toList = Lib.trimPrefix B.data.toList P.data.toList := by rw [hR]
 have hsz : R.size = R.data.toList.length := Array.length_toList.symm
 have ht := fun W => Any.strings_Trim_laid Tryz.lays160 (by kernel_rfl) R ⟨#[48, 49, 50, 51, 52, 53, 54, 55, 56, 57]⟩ W (by omega) (by decide) (ascii_of_all (by decide))
 obtain ⟨T, hT⟩ : ∃ T, T = Lib.trimS R.data.toList [48, 49, 50, 51, 52, 53, 54, 55, 56, 57] := ⟨_, rfl⟩
 rw [show (ByteArray.mk #[48, 49, 50, 51, 52, 53, 54, 55, 56, 57]).data.toList = [48, 49, 50, 51, 52, 53, 54, 55, 56, 57] from rfl, ← hT] at ht
 have hTn : T = [] ↔ R.data.toList.all dgB = true := by rw [hT, trimW_nil, digitsW_all]
 have HT := Lib.hid ht
 have HCP := Lib.hid hcp
 clear ht hT hcp
 have hseg : r = (q && (decide (R.size = 8) && R.data.toList.all dgB)) := by
  rw [hr, hsz, hRl, Lib.trimPrefix, segNo, hq]
  unfold Lib.hasPrefix
  cases hx : P.data.toList.isPrefixOf B.data.toList with
  | false => simp
  | true =>
   simp only [Bool.true_and, if_true]
   split
   ·next h => rw [h]; rfl
   ·next h => simp only [Bool.not_eq_true] at h; rw [h]; rfl
 clear hr hq hR hRl hsz
 cases q with
 | false =>
  have HR := Lib.hid (show r = false by rw [hseg]; rfl)
  clear hseg hTn HT
  go_enter Tryz.func55, Tryz.ntmps55
  go_wp2_with fail
  have hc := HCP.out
  with_reducible refine hc.mono ?_
  rintro e w1 ⟨rfl, rfl⟩
  clear hc
  go_wp2_with fail
  go_ret
  exact ⟨by rw [HR.out]; rfl, Kp.refl _ _⟩
 | true =>
  rw [Bool.true_and] at hseg
  rcases Nat.decEq R.size 8 with h8 | h8
  ·have e1 : ((R.size : Int) == 8) = false := by rw [beq_eq_false_iff_ne]; omega
   have HR := Lib.hid (show r = false by rw [hseg]; simp [h8])
   clear hseg hTn HT
   go_enter Tryz.func55, Tryz.ntmps55
   go_wp2_with fail
   have hc := HCP.out
   with_reducible refine hc.mono ?_
   rintro e w1 ⟨rfl, rfl⟩
   clear hc
   go_wp2_with fail
   go_ret
   exact ⟨by rw [HR.out]; rfl, Kp.refl _ _⟩
  ·have e1 : ((R.size : Int) == 8) = true := by rw [h8]; rfl
   rw [decide_eq_true h8, Bool.true_and] at hseg
   cases hall : R.data.toList.all dgB with
   | false =>
    have hTne : T ≠ [] := fun h => by rw [hTn.1 h] at hall; cases hall
    have hte : ¬ (ByteArray.mk T.toArray).toList = [] := by
     rw [ByteArray.toList_eq]
     intro h
     exact hTne (by simpa using h)
    have HR := Lib.hid (show r = false by rw [hseg, hall])
    obtain ⟨X, hX⟩ : ∃ X, X = ByteArray.mk T.toArray := ⟨_, rfl⟩
    rw [← hX] at hte HT
    have HNE := Lib.hid (show X.toList.isEmpty = false by
     cases hd : X.toList with
     | nil => exact absurd hd hte
     | cons x q => rfl)
    clear hseg hall hTn hTne hX
    go_enter Tryz.func55, Tryz.ntmps55
    go_wp2_with fail
    have hc := HCP.out
    with_reducible refine hc.mono ?_
    rintro e w1 ⟨rfl, rfl⟩
    clear hc
    go_wp2_with fail
    refine (HT.out _).mono ?_
    rintro e w' ⟨rfl, hk⟩
    have HK := Lib.hid (Kp.of_below (S := No) hk (fun k h1 h2 => absurd h1 (by omega)))
    clear hk
    go_wp2_with fail
    go_ret
    refine ⟨?_, HK.out⟩
    rw [HR.out]
    (try rw [HNE.out])
    rfl
   | true =>
    obtain rfl := hTn.2 hall
    have HR := Lib.hid (show r = true by rw [hseg, hall])
    clear hseg hall hTn
    go_enter Tryz.func55, Tryz.ntmps55
    go_wp2_with fail
    have hc := HCP.out
    with_reducible refine hc.mono ?_
    rintro e w1 ⟨rfl, rfl⟩
    clear hc
    go_wp2_with fail
    refine (HT.out _).mono ?_
    rintro e w' ⟨rfl, hk⟩
    have HK := Lib.hid (Kp.of_below (S := No) hk (fun k h1 h2 => absurd h1 (by omega)))
    clear hk
    go_wp2_with fail
    go_ret
    refine ⟨?_, HK.out⟩
    rw [HR.out]
    (try rw [HNE.out])
    rfl
end Go.Proofs.YtdibkdgafidjgaaGreatDoor
namespace Go.Proofs.YtdibkdgafidjgaaGreatDoor
open Go.RowKit Go.Mer
def numI : Option Nat → Int
 | none => -1
 | some m => m
set_option maxRecDepth 100000 in
theorem number_any (B P : ByteArray) (w : World) (hB : B.size ≤ 1000000) (hP : P.size ≤ 1000000) : Calls Tryz.prog 60 #[.string P, .string B] w fun e w' => e = .returned (.int .i64 (numI (segNo P.data.toList B.data.toList))) ∧ Kp No w w' := by
 obtain ⟨r, hr⟩ : ∃ r, r = segNo P.data.toList B.data.toList := ⟨_, rfl⟩
 rw [← hr]
 have hb : B.data.toList.length = B.size := Array.length_toList
 have hp : P.data.toList.length = P.size := Array.length_toList
 obtain ⟨p8, hp8⟩ : ∃ p8, p8 = P.size + 8 := ⟨_, rfl⟩
 have hw8 : wrap64 ((P.size : Int) + 8) = (p8 : Int) := by rw [IntWalk.wrap64_in _ (by omega), hp8]; push_cast; rfl
 rcases Nat.decEq B.size p8 with h8 | h8
 ·have e1 : ((B.size : Int) == (p8 : Int)) = false := by rw [beq_eq_false_iff_ne]; omega
  have e2 : ((B.size : Int) != (p8 : Int)) = true := by rw [bne, e1]; rfl
  have HR := Lib.hid (show r = none by
   rw [hr, segNo, if_neg]
   intro h
   simp only [Bool.and_eq_true, decide_eq_true_iff] at h
   rw [List.length_drop, hb, hp] at h
   omega)
  clear hr
  go_enter Tryz.func60, Tryz.ntmps60
  go_wp2_with fail
  go_ret
  exact ⟨by rw [HR.out]; rfl, Kp.refl _ _⟩
 ·have e1 : ((B.size : Int) == (p8 : Int)) = true := by rw [beq_iff_eq]; omega
  have e2 : ((B.size : Int) != (p8 : Int)) = false := by rw [bne, e1]; rfl
  have hPB : P.size ≤ B.size := by omega
  obtain ⟨q, hq⟩ : ∃ q, q = ((B.extract 0 P.size).toList == P.toList) := ⟨_, rfl⟩
  have hqp : q = P.data.toList.isPrefixOf B.data.toList := by
   rw [hq, ByteArray.toList_eq, ByteArray.toList_eq, ByteArray.data_extract, Array.toList_extract, List.extract_eq_take_drop]
   rw [Bool.eq_iff_iff, beq_iff_eq, List.isPrefixOf_iff_prefix, List.prefix_iff_eq_take, hp]
   simp only [List.drop_zero, Nat.sub_zero]
   exact eq_comm
  obtain ⟨d, hd⟩ : ∃ d, d = B.data.toList.drop P.size := ⟨_, rfl⟩
  have hdl : d.length = 8 := by rw [hd, List.length_drop, hb]; omega
  have hr2 : r = if (q && d.all dgB) = true then some (dcF 0 d) else none := by
   rw [hr, segNo, ← hqp, hp, ← hd, hdl]
   simp
  have hq' := hq.symm
  clear hr hqp hq
  cases q with
  | false =>
   have HR := Lib.hid (show r = none by rw [hr2]; rfl)
   clear hr2 hd
   go_enter Tryz.func60, Tryz.ntmps60
   go_wp2_with fail
   go_ret
   exact ⟨by rw [HR.out]; rfl, Kp.refl _ _⟩
  | true =>
   rw [Bool.true_and] at hr2
   have HR2 := Lib.hid hr2
   have HD := Lib.hid (And.intro hd hdl)
   clear hr2 hd hdl
   go_enter Tryz.func60, Tryz.ntmps60
   go_wp2_with fail
   rename World => w0
   go_loopw [5, 6] (fun s5 s6 wr => ∃ i n : Nat, P.size ≤ i ∧ i ≤ p8 ∧ s5 = .int .i64 (n : Int) ∧ s6 = .int .i64 (i : Int) ∧ n < 100000000 ∧ Hid (n = dcF 0 (d.take (i - P.size)) ∧ (d.take (i - P.size)).all dgB = true) ∧ w0 = wr) (fun _ s6 _ => p8 - (intOf s6).toNat)
   case atStart => exact ⟨P.size, 0, Nat.le_refl _, by omega, rfl, rfl, by decide, ⟨by rw [Nat.sub_self]; rfl, by rw [Nat.sub_self]; rfl⟩, rfl⟩
   case round =>
    obtain ⟨i, n, hi1, hi2, rfl, rfl, hn, HN, rfl⟩ := hrel
    rcases Nat.lt_or_ge i p8 with hlt | hge
    ·have hiB : i < B.size := by omega
     obtain ⟨k, hk⟩ : ∃ k, k = i - P.size := ⟨_, rfl⟩
     have hk8 : k < d.length := by rw [HD.out.2]; omega
     obtain ⟨c, hc⟩ : ∃ c, d[k]? = some c := ⟨d[k]'hk8, List.getElem?_eq_getElem _⟩
     have hcB : B.data.toList[i]? = some c := by
      rw [HD.out.1, List.getElem?_drop, show P.size + k = i by omega] at hc
      exact hc
     have hidx : ∀ W, (Instr.index 9 (.string B) (.int .i64 (i : Int))).run Tryz.prog W = .ok (.int .u8 (c.toNat : Int)) W := fun W => by
      have e : c = B[i]'hiB := by
       have := List.getElem?_eq_some_iff.1 hcB
       rw [← this.2]; rfl
      rw [run_index_string W 9 B .i64 (i : Int) Tryz.underlying9, dif_pos ⟨by omega, by omega⟩, e]
      rfl
     have htk : d.take (i + 1 - P.size) = d.take k ++ [c] := by
      rw [show i + 1 - P.size = k + 1 by omega, List.take_add_one, hc]
      rfl
     have hall : dgB c = false → r = none := fun hx => by
      rw [HR2.out, if_neg]
      intro h
      have := List.all_eq_true.1 h c (List.mem_of_getElem? hc)
      rw [hx] at this
      cases this
     obtain ⟨C, hC⟩ : ∃ C, C = c.toNat := ⟨_, rfl⟩
     rw [← hC] at hidx
     have hC256 : C < 256 := by rw [hC]; exact c.toNat_lt
     have HTK := Lib.hid (And.intro htk (And.intro hall (And.intro hk hC)))
     clear hk hc hcB htk hall hC hk8
     rcases Nat.lt_or_ge C 48 with h1 | h1
     ·have e3 : decide ((C : Int) < 48) = true := by rw [decide_eq_true_iff]; omega
      have HR := Lib.hid (HTK.out.2.1 (by unfold dgB; rw [← HTK.out.2.2.2, decide_eq_false (by omega)]; rfl))
      go_wp2_with fail
      go_ret
      exact ⟨by rw [HR.out]; rfl, Kp.refl _ _⟩
     ·have e3 : decide ((C : Int) < 48) = false := by rw [decide_eq_false_iff_not]; omega
      rcases Nat.lt_or_ge 57 C with h2 | h2
      ·have e4 : decide ((57 : Int) < (C : Int)) = true := by rw [decide_eq_true_iff]; omega
       have HR := Lib.hid (HTK.out.2.1 (by unfold dgB; rw [← HTK.out.2.2.2, decide_eq_false (show ¬ C ≤ 57 by omega), Bool.and_false]))
       go_wp2_with fail
       go_ret
       exact ⟨by rw [HR.out]; rfl, Kp.refl _ _⟩
      ·have e4 : decide ((57 : Int) < (C : Int)) = false := by rw [decide_eq_false_iff_not]; omega
       have hdg : dgB c = true := by unfold dgB; rw [← HTK.out.2.2.2, decide_eq_true h1, decide_eq_true h2]; rfl
       have hall2 : (d.take (i + 1 - P.size)).all dgB = true := by
        rw [HTK.out.1, List.all_append, HTK.out.2.2.1, HN.out.2]
        simp [hdg]
       have hnum : dcF 0 (d.take (i + 1 - P.size)) = 10 * n + (C - 48) := by
        rw [HTK.out.1, dcF_append, dcF_one, HTK.out.2.2.1, ← HN.out.1, ← HTK.out.2.2.2]
       have hlt2 : 10 * n + (C - 48) < 100000000 := by
        have := dcF_lt _ hall2 0
        rw [hnum, Nat.zero_add, Nat.one_mul] at this
        refine Nat.lt_of_lt_of_le this (Nat.le_trans (Nat.pow_le_pow_right (by decide) (show _ ≤ 8 from ?_)) (by decide))
        rw [List.length_take, HD.out.2]
        omega
       have HG := Lib.hid (And.intro hall2 (And.intro hnum hlt2))
       clear hdg hall2 hnum hlt2
       go_wp2_with fail
       go_roundw
       case rel => exact ⟨i + 1, 10 * n + (C - 48), by omega, by omega, by go_num, by go_num, HG.out.2.2, ⟨HG.out.2.1.symm, HG.out.1⟩, trivial⟩
       case measure => simp [intOf]; omega
    ·obtain rfl : i = p8 := by omega
     have ht : d.take (i - P.size) = d := List.take_of_length_le (by rw [HD.out.2]; omega)
     have HR := Lib.hid (show r = some n by
      have h := HN.out
      rw [ht] at h
      rw [HR2.out, if_pos h.2, h.1])
     clear ht
     go_wp2_with fail
     go_ret
     exact ⟨by rw [HR.out]; rfl, Kp.refl _ _⟩
end Go.Proofs.YtdibkdgafidjgaaGreatDoor

