/-
  A token's text: Print, and the reference's.
-/
import Derived.Test.YtoblbjlabadcoaaDoorRep0
import Derived.Lib.SlBytesConst
namespace Go.Proofs.YtoblbjlabadcoaaDoor
open Go.RowKit Go.Mer

abbrev tkv (m c : Int) : Value := .agg #[.int .i64 m, .int .i64 c]
def tokS (m c : Int) : ByteArray := ⟨(tok m c).toArray⟩
/-- []byte(s). -/
theorem conv_bytes (w : World) (s : ByteArray) : ∃ c W', (convert 9 45 (.string s)).run Tryd.prog w = .ok (.slice (some ⟨w.heap.size, 0, none⟩) s.size c) W' ∧ Kp No w W' ∧ Rd W' W'.heap.size (some ⟨w.heap.size, 0, none⟩) (u8s s.data.toList) ∧ W'.heap.size = w.heap.size + 1 := by
  refine ⟨_, _, run_bytes_of_string w 9 45 5 s Tryd.underlying9 Tryd.underlying45 Tryd.underlying5, ((Kp.refl _ _).drew).alloc _, fun _ => ⟨w.heap.size, 0, rfl, by simp, Nat.le_refl _, fun j u hu => ?_⟩, by simp⟩
  show (w.drew.alloc _).cell? ⟨w.drew.heap.size, 0 + j, none⟩ = _
  rw [cell_of_row _ _ _ _ _ _ (heap_alloc_new w.drew _)]
  rw [u8s_get?] at hu
  have hj : j < s.data.toList.length := by
    rcases Nat.lt_or_ge j s.data.toList.length with h | h
    · exact h
    · rw [List.getElem?_eq_none h] at hu; cases hu
  rw [List.getElem?_eq_getElem hj] at hu
  simp at hj
  unfold bytesRow
  rw [Nat.zero_add, Array.getElem?_append_left (by simpa using hj)]
  simp only [Array.getElem?_map, Array.getElem?_eq_getElem hj, Option.map_some, Option.some.injEq] at hu ⊢
  rw [← hu]
  simp [u8]
theorem size_app {a b : ByteArray} {x y : List UInt8} (ha : a = ⟨x.toArray⟩) (hb : b = ⟨y.toArray⟩) : a ++ b = ⟨(x ++ y).toArray⟩ := by
  subst ha; subst hb
  apply ByteArray.ext
  simp
theorem tokT_eq (p : Nat) : tokT p = [109] ++ hexL 16 p := by simp [tokT]
/-- One row. -/
theorem RowsAt.one {w : World} {g : Nat} {t : TypeId} {r : Row} (h : w.heap[g]? = some (.cells #[r.val] t (0, 0))) (hr : Rd w w.heap.size r.a (u8s r.data)) (hl : r.data.length ≤ 140737488355328) : RowsAt w (some ⟨g, 0, none⟩) [r] :=
  ⟨Rd.row (n := 1) h rfl (get_lt h) (Nat.le_refl _), fun r' hr' => by
    rw [List.mem_singleton] at hr'
    subst hr'
    exact ⟨hr, hl⟩⟩
/-- The check sum of one row. -/
theorem Sum_one (w2 w3 : World) (l : List UInt8) (n c0 : Nat) (hn : l.length = n) (hn1 : n ≤ 1000) (hr : Rd w3 w3.heap.size (some ⟨w2.heap.size, 0, none⟩) (u8s l)) (hs : w3.heap.size = w2.heap.size + 1) :
    Calls Tryd.prog 18 #[.slice (some ⟨w2.heap.size + 1, 0, none⟩) 1 1] (w3.alloc (.cells #[.slice (some ⟨w2.heap.size, 0, none⟩) n c0] 45)) fun e w' => ∃ q : Nat, Hid (q = crc l) ∧ q < 4294967296 ∧ e = .returned (.int .u32 (q : Int)) ∧ Kp No w3 w' := by
  subst hn
  have hk : Kp No w3 (w3.alloc (.cells #[.slice (some ⟨w2.heap.size, 0, none⟩) l.length c0] 45)) := (Kp.refl _ _).alloc _
  have hR : RowsAt (w3.alloc (.cells #[.slice (some ⟨w2.heap.size, 0, none⟩) l.length c0] 45)) (some ⟨w2.heap.size + 1, 0, none⟩) [⟨some ⟨w2.heap.size, 0, none⟩, c0, l⟩] := by
    rw [← hs]
    exact RowsAt.one (heap_alloc_new w3 _) ((hr.keep hk fun _ _ x => x).mono hk.size (Nat.le_refl _)) (by show l.length ≤ _; omega)
  refine (Sum_any _ _ 1 _ hR (by simp)).mono ?_
  rintro e w' ⟨rfl, rfl⟩
  refine ⟨_, ?_, crc_lt _, rfl, hk⟩
  show crc _ = crc l
  simp [catR]
theorem tok_is {p q : Nat} {T S : ByteArray} (hT : T = ⟨(tokT p).toArray⟩) (hq : q = crc (tokT p)) (hS : S = ⟨(hexL 8 q).toArray⟩) : T ++ (⟨#[45]⟩ : ByteArray) ++ S = ⟨(tokN p).toArray⟩ := by
  subst hT; subst hS; subst hq
  apply ByteArray.ext
  simp [tokN]
set_option maxRecDepth 100000 in
theorem Print_any (m c : Int) (h : isSt m c = true) (w : World) (ht : Tab16 w) :
    Calls Tryd.prog 8 #[tkv m c] w fun e w' => e = .returned (.tuple #[.string (tokS m c), .int .i64 0]) ∧ Kp No w w' := by
  have HH := Lib.hid (And.intro h ht)
  clear h ht
  go_enter Tryd.func8, Tryd.ntmps8
  go_wp2_with fail
  refine (Pack_any m c _ HH.out.1).mono ?_
  rintro e w1 ⟨rfl, hk1⟩
  have hk1' : Kp No w w1 := ((Kp.refl _ _).alloc _).trans_same hk1
  clear hk1
  obtain ⟨p, hp⟩ : ∃ p, p = pk m c := ⟨_, rfl⟩
  rw [← hp]
  have HP := Lib.hid hp
  have hpl := pk_lt HH.out.1
  rw [← hp] at hpl
  have hpl' : p < 18446744073709551616 := hpl
  clear hp hpl
  go_wp2_with fail
  refine (hex16 p hpl' _ (HH.out.2.keep hk1')).mono ?_
  rintro e w2 ⟨S, HS, hS16, rfl, hk2⟩
  have hk2' := hk1'.trans_same hk2
  clear hk2 hk1'
  go_wp2_with fail
  obtain ⟨T, hT⟩ : ∃ T : ByteArray, T = ⟨#[109]⟩ ++ S := ⟨_, rfl⟩
  have hT17 : T.size = 17 := by rw [hT, ByteArray.size_append, hS16]; rfl
  have hTd : T = ⟨(tokT p).toArray⟩ := by rw [hT, tokT_eq]; exact size_app (x := [109]) rfl HS.out
  rw [← hT]
  obtain ⟨c0, w3, hrun, hk3, hr3, hs3⟩ := conv_bytes w2 T
  rw [hrun]
  simp only [Result.andThen_ok]
  have hTD := Lib.hid (And.intro hTd hrun)
  clear hT hrun hTd
  go_wp2_with fail
  have hTl : T.data.toList.length = 17 := by rw [Array.length_toList]; exact hT17
  refine (Sum_one w2 w3 T.data.toList 17 c0 hTl (by omega) hr3 hs3).mono ?_
  rintro e w4 ⟨q, HQ, hq, rfl, hk4⟩
  have hk4' : Kp No w w4 := (hk2'.trans_same hk3).trans_same hk4
  clear hr3 hs3 hk3 hk4 hTl
  go_wp2_with fail
  refine (hex8 q hq _ (HH.out.2.keep hk4')).mono ?_
  rintro e w5 ⟨S8, HS8, hS8, rfl, hk5⟩
  go_wp2_with fail
  go_ret2
  refine ⟨?_, hk4'.trans_same hk5⟩
  have e1 : T = ⟨(tokT p).toArray⟩ := hTD.out.1
  have e2 : q = crc (tokT p) := by
    have : q = crc T.data.toList := HQ.out
    rw [this, e1]
  have e3 := tok_is e1 e2 HS8.out
  show Ending.returned (.tuple #[.string (T ++ (⟨#[45]⟩ : ByteArray) ++ S8), .int .i64 0]) = _
  rw [e3, show p = _ from HP.out]
  rfl
theorem Print_no (m c : Int) (h : isSt m c = false) (w : World) : Calls Tryd.prog 8 #[tkv m c] w fun e w' => e = .returned (.tuple #[.string ⟨#[]⟩, .int .i64 1]) ∧ Kp No w w' := by
  have HH := Lib.hid h
  clear h
  go_enter Tryd.func8, Tryd.ntmps8
  go_wp2_with fail
  refine (Pack_no m c _ HH.out).mono ?_
  rintro e w1 ⟨rfl, hk1⟩
  have hk1' : Kp No w w1 := ((Kp.refl _ _).alloc _).trans_same hk1
  clear hk1
  go_wp2_with fail
  go_ret2
  exact ⟨rfl, hk1'⟩
end Go.Proofs.YtoblbjlabadcoaaDoor
