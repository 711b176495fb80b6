/-
  Texts laid together: WLog, WNm, WNmW, WSeg.
-/
import Derived.Test.YtgnkmjeoaoongaaGreatDoorSa8
import Derived.Test.YtgnkmjeoaoongaaGreatDoorSa1
import Derived.Test.YtgnkmjeoaoongaaGreatDoorShelf
import Derived.Lib.ItoaNum
import Derived.Shelf.Strings.SlTrimAscii
namespace Go.Proofs.YtgnkmjeoaoongaaGreatDoor
open Go.RowKit Go.Mer
structure LSt where
 ents : List (List UInt8)
 segs : List (Nat × Nat)
 synced : Nat
 dead : Bool
def bnm (P : ByteArray) (n : Nat) : ByteArray := ⟨(nameL P.data.toList n).toArray⟩
def isSegN (P : ByteArray) (x : ByteArray) : Bool := (segNo P.data.toList x.data.toList).isSome
def takeS (l : Files) (P : ByteArray) (st : LSt) (x : ByteArray) : LSt × Bool :=
 if x = bnm P (st.ents.length + 1) then
  ({ st with
    ents := st.ents ++ (entsF (st.ents.length + 1) (rdS l x).1).1
    segs := if 0 < (entsF (st.ents.length + 1) (rdS l x).1).2 ∨ (rdS l x).1.length = 0 then st.segs ++ [(st.ents.length + 1, (entsF (st.ents.length + 1) (rdS l x).1).2)] else st.segs },
   decide ((entsF (st.ents.length + 1) (rdS l x).1).2 = (rdS l x).1.length))
 else (st, false)
def st0 : LSt := ⟨[], [], 0, false⟩
def syncsS (P : ByteArray) (s : DSt) (st : LSt) : Int × DSt × LSt :=
 if st.synced < st.ents.length then
  match st.segs.getLast? with
  | none => (0, s, st)
  | some z => ((syS s (bnm P z.1)).1, (syS s (bnm P z.1)).2, if (syS s (bnm P z.1)).1 = 0 then { st with synced := st.ents.length } else st)
 else (0, s, st)
def entL (n : Nat) (p : List UInt8) : List UInt8 := frameL (numL n ++ p)
def freshS (st : LSt) : Bool := match st.segs.getLast? with | none => true | some z => decide (1024 ≤ z.2)
def lastNo (st : LSt) : Nat := match st.segs.getLast? with | none => 0 | some z => z.1
def bump (segs : List (Nat × Nat)) (k : Nat) : List (Nat × Nat) := match segs.getLast? with | none => [] | some z => segs.dropLast ++ [(z.1, z.2 + k)]
def preS (P : ByteArray) (s : DSt) (st : LSt) : Int × DSt × LSt := if freshS st = true ∧ st.segs ≠ [] then syncsS P s st else (0, s, st)
def toN (P : ByteArray) (st : LSt) : ByteArray := bnm P (if freshS st = true then st.ents.length + 1 else lastNo st)
def addS (st : LSt) (p : List UInt8) : LSt :=
 { st with
  ents := st.ents ++ [p]
  segs := if freshS st = true then st.segs ++ [(st.ents.length + 1, (entL (st.ents.length + 1) p).length)] else bump st.segs (entL (st.ents.length + 1) p).length }
def appS (P : ByteArray) (s : DSt) (st : LSt) (p : List UInt8) : (Nat × Int) × DSt × LSt :=
 if st.dead = true then ((0, 9), s, st)
 else if 262134 < p.length then ((0, 5), s, st)
 else if (preS P s st).1 = 0 then
  let q := wrS (preS P s st).2.1 (toN P st) (entL (st.ents.length + 1) p)
  if q.1 = 0 then ((st.ents.length + 1, 0), q.2, addS (preS P s st).2.2 p) else ((0, q.1), q.2, { (preS P s st).2.2 with dead := decide (q.1 ≠ 6) })
 else ((0, (preS P s st).1), (preS P s st).2.1, { (preS P s st).2.2 with dead := decide ((preS P s st).1 ≠ 6) })
def sncS (P : ByteArray) (s : DSt) (st : LSt) : Int × DSt × LSt :=
 if st.dead = true then (9, s, st) else ((syncsS P s st).1, (syncsS P s st).2.1, { (syncsS P s st).2.2 with dead := decide ((syncsS P s st).1 ≠ 0) })
end Go.Proofs.YtgnkmjeoaoongaaGreatDoor
namespace Go.Proofs.YtgnkmjeoaoongaaGreatDoor
open Go.RowKit Go.Mer
theorem conv_oneW (W : World) (b : UInt8) : (convert 42 9 (.slice (some ⟨W.heap.size, 0, none⟩) 1 1)).run Tryz.prog (W.alloc (.cells #[.int .u8 (b.toNat : Int)] 5)) = .ok (.string ⟨#[b]⟩) (W.alloc (.cells #[.int .u8 (b.toNat : Int)] 5)) :=
 run_convert_bytes_back (P := Tryz.prog) (W.alloc (.cells #[.int .u8 (b.toNat : Int)] 5)) 42 9 5 ⟨W.heap.size, 0, none⟩ 1 [b] Tryz.underlying42 Tryz.underlying5 Tryz.underlying9 (fun j hj => by
  have : j = 0 := by simpa using hj
  subst this
  rw [Addr.add_lit, cell_at (heap_alloc_new W _)]
  rfl)
theorem size_appW {x y : List UInt8} {S : ByteArray} {c : UInt8} (h : S = ⟨y.toArray⟩) (e : x = c :: y) : (⟨#[c]⟩ : ByteArray) ++ S = ⟨x.toArray⟩ := by
 subst h
 subst e
 apply ByteArray.ext
 simp
theorem app_text {P S : ByteArray} {l : List UInt8} (h : S = ⟨l.toArray⟩) : P ++ S = ⟨(P.data.toList ++ l).toArray⟩ := by
 subst h
 apply ByteArray.ext
 simp
theorem text_size {S : ByteArray} {l : List UInt8} (h : S = ⟨l.toArray⟩) : S.size = l.length := by
 subst h
 rfl
theorem dgtW (n : Nat) : ∃ q : Nat, q < 10 ∧ q = n % 10 ∧ (n : Int).tmod 10 = (q : Int) ∧ wrap64 (48 + (q : Int)) = 48 + (q : Int) ∧ (UInt8.ofNat (48 + q)).toNat = 48 + q := by
 refine ⟨n % 10, Nat.mod_lt _ (by decide), rfl, ?_, IntWalk.wrap64_in _ (by omega), (dgB_nat n).2⟩
 rw [Int.tmod_eq_emod_of_nonneg (by omega)]
 exact (Int.natCast_emod n 10).symm
set_option maxRecDepth 100000 in
theorem rDec_any (n : Nat) (hn : n < 1000000) (w : World) :
  Calls Tryz.prog 174 #[.int .i64 (n : Int)] w fun e w' => e = .returned (.string ⟨(Lib.decDigits n).toArray⟩) ∧ Kp No w w' := by
 go_enter Tryz.func174, Tryz.ntmps174
 go_wp2_with fail
 rename World => w0
 go_loopw [0, 3] (fun x s wr => ∃ (y : Nat) (S : ByteArray) (l : List UInt8), x = .int .i64 (y : Int) ∧ s = .string S ∧ S.size + y ≤ 1000000 ∧ y < 1000000 ∧ Hid (S = ⟨l.toArray⟩ ∧ Lib.decDigits n = Lib.decDigits y ++ l) ∧ Hid (Kp No w0 wr)) (fun x _ _ => (intOf x).toNat)
 case atStart => exact ⟨n, ⟨#[]⟩, [], rfl, rfl, by simp [ByteArray.size]; omega, hn, ⟨rfl, by simp⟩, Kp.refl _ _⟩
 case round =>
  obtain ⟨y, S, l, rfl, rfl, hS, hy, HS, HK⟩ := hrel
  obtain ⟨q, hq10, hq, hqm, hqw, hqn⟩ := dgtW y
  have HQ := Lib.hid hq
  have hcv := fun W => conv_oneW W (UInt8.ofNat (48 + q))
  rw [hqn, Int.natCast_add, show ((48 : Nat) : Int) = 48 from rfl] at hcv
  obtain ⟨c, hc⟩ : ∃ c, c = UInt8.ofNat (48 + q) := ⟨_, rfl⟩
  rw [← hc] at hcv
  have HC := Lib.hid hc
  clear hq hc hqn
  by_cases hlt : y < 10
  ·have hd0 : (y : Int).tdiv 10 = 0 := Int.tdiv_eq_zero_of_lt (by omega) (by omega)
   go_wp2_with fail
   go_ret
   refine ⟨congrArg (fun s => Ending.returned (.string s)) (size_appW HS.out.1 ?_), (show Kp No w0 wr from HK).alloc _⟩
   rw [HS.out.2, decDm_small hlt, HC.out, HQ.out]
   rfl
  ·obtain ⟨z, hz⟩ : ∃ z, z = y / 10 := ⟨_, rfl⟩
   have hd0 : (y : Int).tdiv 10 = (z : Int) := by rw [hz, Int.tdiv_eq_ediv_of_nonneg (by omega)]; exact (Int.natCast_ediv y 10).symm
   have hz0 : ((z : Int) == 0) = false := by rw [beq_eq_false_iff_ne]; omega
   have hzp : z < y := by omega
   have HZ := Lib.hid hz
   have hzn : ¬ z = 0 := by omega
   clear hz
   go_wp2_with fail
   go_roundw
   case rel =>
    refine ⟨z, _, c :: l, rfl, rfl, ?_, by omega, ⟨size_appW HS.out.1 rfl, ?_⟩, (show Kp No w0 wr from HK).alloc _⟩
    ·rw [ByteArray.size_append]
     show 1 + S.size + z ≤ _
     omega
    ·rw [HS.out.2, decDm_step hlt, HC.out, HQ.out, HZ.out]
     simp
   case measure => simp [intOf]; omega
end Go.Proofs.YtgnkmjeoaoongaaGreatDoor
namespace Go.Proofs.YtgnkmjeoaoongaaGreatDoor
open Go.RowKit Go.Mer
theorem gPow : Tryz.prog.globalNamed "internal/strconv.uint64pow10" = some 0 := by kernel_rfl
def Pow (w : World) : Prop := Lib.TabIs Tryz.prog w "internal/strconv.uint64pow10" .u64 Lib.pow10Tab
theorem Pow.keep {w w' : World} (h : Pow w) (hk : Kp No w w') : Pow w' := by
 unfold Pow Lib.TabIs World.var? at h ⊢
 rw [gPow] at h ⊢
 simp only [Option.bind_some] at h ⊢
 cases hg : w.heap[0]? with
 | none => rw [hg] at h; simp at h
 | some o => rw [hk.get hg fun x => x]; rw [hg] at h; exact h
theorem ItoaW_any (o : Nat) (h : o ≤ 1000000) (w : World) (ht : Pow w) : Calls Tryz.prog 152 #[.int .i64 (o : Int)] w fun e w' => e = .returned (.string ⟨(Lib.decDigits o).toArray⟩) ∧ Kp No w w' := by
 refine (Tryz.strconv_Itoa (o : Int) (by omega) (by omega) w ht).mono ?_
 rintro e w1 ⟨rfl, k, os, hw⟩
 refine ⟨?_, ?_⟩
 ·have : Lib.itoa (o : Int) = Lib.decDigits o := by
   unfold Lib.itoa
   simp
  rw [this]
 ·rw [hw]
  refine ⟨rfl, rfl, rfl, by show w.heap.size ≤ (w.heap ++ os).size; simp, fun j hj _ => ?_⟩
  show (w.heap ++ os)[j]? = _
  exact Array.getElem?_append_left hj
theorem zeros_any (c : Nat) (hc : c ≤ 8) (w : World) : Calls Tryz.prog 230 #[.string ⟨#[48]⟩, .int .i64 (c : Int)] w fun e w' => e = .returned (.string ⟨(List.replicate c 48).toArray⟩) ∧ Kp No w w' := by
 refine (Tryz.strings_Repeat ⟨#[48]⟩ c w (by omega) (by show 1 * c ≤ _; omega)).mono ?_
 rintro e w1 ⟨rfl, hb⟩
 refine ⟨?_, Kp.of_below hb fun k hk hb => absurd hk (by omega)⟩
 have := Lib.repeatL_replicate (48 : UInt8) 1 c
 rw [Nat.mul_one] at this
 rw [← this]
 rfl
set_option maxRecDepth 100000 in
theorem wName_any (P : ByteArray) (hP : P.size ≤ 1000) (n : Nat) (hn : n < 1000000) (w : World) (ht : Pow w) :
  Calls Tryz.prog 184 #[.string P, .int .i64 (n : Int)] w fun e w' => e = .returned (.string ⟨(nameL P.data.toList n).toArray⟩) ∧ Kp No w w' := by
 have hd := ItoaW_any n (by omega) w ht
 obtain ⟨D, hD⟩ : ∃ D : ByteArray, D = ⟨(Lib.decDigits n).toArray⟩ := ⟨_, rfl⟩
 rw [← hD] at hd
 have hdl := decDm_len 5 n (by omega)
 have hDs : D.size = (Lib.decDigits n).length := text_size hD
 have HD := Lib.hid hD
 have HC := Lib.hid hd
 clear hd hD
 obtain ⟨d, hdd⟩ : ∃ d, d = (Lib.decDigits n).length := ⟨_, rfl⟩
 rw [← hdd] at hdl hDs
 have HDD := Lib.hid hdd
 clear hdd
 obtain ⟨k, hk⟩ : ∃ k, k = 8 - d := ⟨_, rfl⟩
 have hw8 : wrap64 (8 - (D.size : Int)) = (k : Int) := by rw [IntWalk.wrap64_in _ (by omega), hk, hDs]; omega
 have hk8 : k ≤ 8 := by omega
 have hmx : max (0 : Int) (8 - (d : Int)) = (k : Int) := by omega
 have hkp : 2 ≤ k := by omega
 have hz := fun W => zeros_any k hk8 W
 obtain ⟨Z, hZ⟩ : ∃ Z : ByteArray, Z = ⟨(List.replicate k 48).toArray⟩ := ⟨_, rfl⟩
 rw [← hZ] at hz
 have hZs : Z.size = k := by rw [text_size hZ, List.length_replicate]
 have HZ := Lib.hid hZ
 have HZC := Lib.hid hz
 have HKK := Lib.hid hk
 have hN : (P ++ Z) ++ D = ⟨(nameL P.data.toList n).toArray⟩ := by
  rw [app_text HD.out, app_text HZ.out]
  rw [show nameL P.data.toList n = P.data.toList ++ (List.replicate (8 - (Lib.decDigits n).length) 48 ++ Lib.decDigits n) from rfl, ← HDD.out, ← hk]
  simp
 have HN := Lib.hid hN
 clear hz hZ hk hN
 go_enter Tryz.func184, Tryz.ntmps184
 go_wp2_with fail
 have hc := HC.out
 with_reducible refine hc.mono ?_
 rintro e w1 ⟨rfl, hk⟩
 have HK1 := Lib.hid hk
 clear hc hk
 go_wp2_with fail
 have hc := HZC.out w1
 with_reducible refine hc.mono ?_
 rintro e w2 ⟨rfl, hk⟩
 have HK2 := Lib.hid (HK1.out.trans_same hk)
 clear hc hk
 go_wp2_with fail
 go_ret
 exact ⟨congrArg (fun s => Ending.returned (.string s)) HN.out, HK2.out⟩
end Go.Proofs.YtgnkmjeoaoongaaGreatDoor
namespace Go.Proofs.YtgnkmjeoaoongaaGreatDoor
open Go.RowKit Go.Mer
end Go.Proofs.YtgnkmjeoaoongaaGreatDoor

