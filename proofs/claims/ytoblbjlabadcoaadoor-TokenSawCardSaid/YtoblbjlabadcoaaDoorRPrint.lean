/-
  The reference's text of a token.
-/
import Derived.Test.YtoblbjlabadcoaaDoorPrint
namespace Go.Proofs.YtoblbjlabadcoaaDoor
open Go.RowKit Go.Mer

theorem conv_one (W : World) (b : UInt8) : (convert 45 9 (.slice (some ⟨W.heap.size, 0, none⟩) 1 1)).run Tryd.prog (W.alloc (.cells #[.int .u8 (b.toNat : Int)] 5)) = .ok (.string ⟨#[b]⟩) (W.alloc (.cells #[.int .u8 (b.toNat : Int)] 5)) :=
  run_convert_bytes_back (P := Tryd.prog) (W.alloc (.cells #[.int .u8 (b.toNat : Int)] 5)) 45 9 5 ⟨W.heap.size, 0, none⟩ 1 [b] Tryd.underlying45 Tryd.underlying5 Tryd.underlying9 (fun j hj => by
    have : j = 0 := by simpa using hj
    subst this
    rw [Addr.add_lit, cell_at (heap_alloc_new W _)]
    rfl)
theorem dg16 : ∀ q : Fin 16, (⟨#[48, 49, 50, 51, 52, 53, 54, 55, 56, 57, 97, 98, 99, 100, 101, 102]⟩ : ByteArray)[q.val]'q.isLt = hexd q.val := by decide +kernel
theorem dg16' {q : Nat} (h' : q < (⟨#[48, 49, 50, 51, 52, 53, 54, 55, 56, 57, 97, 98, 99, 100, 101, 102]⟩ : ByteArray).size) : (⟨#[48, 49, 50, 51, 52, 53, 54, 55, 56, 57, 97, 98, 99, 100, 101, 102]⟩ : ByteArray)[q]'h' = hexd q := dg16 ⟨q, h'⟩
set_option maxRecDepth 100000 in
theorem rhex_any (n many : Nat) (hm : many ≤ 16) (hn : n < 18446744073709551616) (w : World) :
    Calls Tryd.prog 21 #[.int .u64 (n : Int), .int .i64 (many : Int)] w fun e w' => e = .returned (.string ⟨(hexL many n).toArray⟩) ∧ Kp No w w' := by
  go_enter Tryd.func21, Tryd.ntmps21
  go_wp2_with fail
  rename World => w0
  go_loopw [0, 5, 6] (fun x s i wr => ∃ (k y : Nat) (S : ByteArray), k ≤ many ∧ i = .int .i64 (k : Int) ∧ x = .int .u64 (y : Int) ∧ s = .string S ∧ S.size = k ∧ y < 18446744073709551616 ∧ Hid (S = ⟨(hexL k n).toArray⟩ ∧ y = n / 16 ^ k) ∧ Hid (Kp No w0 wr)) (fun _ _ i _ => many - (intOf i).toNat)
  case atStart => exact ⟨0, n, ⟨#[]⟩, Nat.zero_le _, rfl, rfl, rfl, rfl, hn, ⟨rfl, by simp⟩, Kp.refl _ _⟩
  case round =>
    obtain ⟨k, y, S, hk, rfl, rfl, rfl, hS, hy, HS, HK⟩ := hrel
    by_cases hlt : k < many
    · have hl4 := low4 hy
      obtain ⟨q, hq⟩ : ∃ q, q = y % 16 := ⟨_, rfl⟩
      have hq16 : q < 16 := by omega
      rw [← hq] at hl4
      have HQ := Lib.hid hq
      have hcv := fun W => conv_one W (hexd q)
      rw [← dg16' hq16] at hcv
      clear hq
      go_wp2_with fail
      go_roundw
      case rel =>
        refine ⟨k + 1, y / 16, _, by omega, by go_num, by go_num, rfl, ?_, by omega, ⟨?_, ?_⟩, (show Kp No w0 wr from HK).alloc _⟩
        · rw [ByteArray.size_append, hS]
          show 1 + k = k + 1
          omega
        · rw [dg16' hq16, hexL_cons, show q = _ from HQ.out, show y = _ from HS.out.2]
          exact size_app (x := [hexd (n / 16 ^ k % 16)]) rfl HS.out.1
        · rw [Nat.pow_succ, ← Nat.div_div_eq_div_mul, ← show y = _ from HS.out.2]
      case measure => simp [intOf]; omega
    · obtain rfl : k = many := by omega
      go_wp2_with fail
      go_ret
      exact ⟨congrArg (fun s => Ending.returned (.string s)) HS.out.1, HK⟩
theorem rhex16 (n : Nat) (hn : n < 18446744073709551616) (w : World) : Calls Tryd.prog 21 #[.int .u64 (n : Int), .int .i64 16] w fun e w' => ∃ S : ByteArray, Hid (S = ⟨(hexL 16 n).toArray⟩) ∧ S.size = 16 ∧ e = .returned (.string S) ∧ Kp No w w' :=
  (rhex_any n 16 (by decide) hn w).mono fun _ _ ⟨he, hk⟩ => ⟨_, rfl, by simp [ByteArray.size, hexL_len], he, hk⟩
theorem rhex8 (n : Nat) (hn : n < 4294967296) (w : World) : Calls Tryd.prog 21 #[.int .u64 (n : Int), .int .i64 8] w fun e w' => ∃ S : ByteArray, Hid (S = ⟨(hexL 8 n).toArray⟩) ∧ S.size = 8 ∧ e = .returned (.string S) ∧ Kp No w w' :=
  (rhex_any n 8 (by decide) (by omega) w).mono fun _ _ ⟨he, hk⟩ => ⟨_, rfl, by simp [ByteArray.size, hexL_len], he, hk⟩
set_option maxRecDepth 100000 in
theorem rPrint_any (m c : Int) (h : isSt m c = true) (w : World) :
    Calls Tryd.prog 13 #[tkv m c] w fun e w' => e = .returned (.tuple #[.string (tokS m c), .int .i64 0]) ∧ Kp No w w' := by
  have HH := Lib.hid h
  clear h
  go_enter Tryd.func13, Tryd.ntmps13
  go_wp2_with fail
  refine (rPack_any m c _ HH.out).mono ?_
  rintro e w1 ⟨rfl, hk1⟩
  have hk1' : Kp No w w1 := ((Kp.refl _ _).alloc _).trans_same hk1
  clear hk1
  obtain ⟨p, hp⟩ : ∃ p, p = pk m c := ⟨_, rfl⟩
  rw [← hp]
  have HP := Lib.hid hp
  have hpl := pk_lt HH.out
  rw [← hp] at hpl
  have hpl' : p < 18446744073709551616 := hpl
  clear hp hpl
  go_wp2_with fail
  refine (rhex16 p hpl' _).mono ?_
  rintro e w2 ⟨S, HS, hS16, rfl, hk2⟩
  have hk2' := hk1'.trans_same hk2
  clear hk2 hk1'
  go_wp2_with fail
  obtain ⟨T, hT⟩ : ∃ T : ByteArray, T = ⟨#[109]⟩ ++ S := ⟨_, rfl⟩
  have hT17 : T.size = 17 := by rw [hT, ByteArray.size_append, hS16]; rfl
  have hTd : T = ⟨(tokT p).toArray⟩ := by rw [hT, tokT_eq]; exact size_app (x := [109]) rfl HS.out
  rw [← hT]
  obtain ⟨c0, w3, hrun, hk3, hr3, hs3⟩ := conv_bytes w2 T
  rw [hrun]
  simp only [Result.andThen_ok]
  have hTD := Lib.hid (And.intro hTd hrun)
  have hTl : T.data.toList.length = 17 := by rw [Array.length_toList]; exact hT17
  obtain ⟨D, hD⟩ : ∃ D, D = T.data.toList := ⟨_, rfl⟩
  rw [← hD] at hr3 hTl
  have hsum := rSum_any w3 _ c0 D hr3 (by omega)
  rw [hTl] at hsum
  have HSum := Lib.hid hsum
  have hcl := crc_lt D
  obtain ⟨q, hq⟩ : ∃ q, q = crc D := ⟨_, rfl⟩
  rw [← hq] at hcl
  have HQ := Lib.hid (And.intro hq hD)
  clear hT hrun hTd hsum hr3 hs3 hTl hD
  go_wp2_with fail
  refine (HSum.out).mono ?_
  rintro e w4 ⟨rfl, rfl⟩
  rw [← HQ.out.1]
  clear hq
  have hk4' : Kp No w w3 := hk2'.trans_same hk3
  clear hk3 hk2'
  go_wp2_with fail
  refine (rhex8 q hcl _).mono ?_
  rintro e w5 ⟨S8, HS8, hS8, rfl, hk5⟩
  go_wp2_with fail
  go_ret2
  refine ⟨?_, hk4'.trans_same hk5⟩
  have e1 : T = ⟨(tokT p).toArray⟩ := hTD.out.1
  have e2 : q = crc (tokT p) := by
    rw [HQ.out.1, HQ.out.2, e1]
  have e3 := tok_is e1 e2 HS8.out
  show Ending.returned (.tuple #[.string (T ++ (⟨#[45]⟩ : ByteArray) ++ S8), .int .i64 0]) = _
  rw [e3, show p = _ from HP.out]
  rfl
theorem rPrint_no (m c : Int) (h : isSt m c = false) (w : World) : Calls Tryd.prog 13 #[tkv m c] w fun e w' => e = .returned (.tuple #[.string ⟨#[]⟩, .int .i64 1]) ∧ Kp No w w' := by
  have HH := Lib.hid h
  clear h
  go_enter Tryd.func13, Tryd.ntmps13
  go_wp2_with fail
  refine (rPack_no m c _ HH.out).mono ?_
  rintro e w1 ⟨rfl, hk1⟩
  have hk1' : Kp No w w1 := ((Kp.refl _ _).alloc _).trans_same hk1
  clear hk1
  go_wp2_with fail
  go_ret2
  exact ⟨rfl, hk1'⟩
end Go.Proofs.YtoblbjlabadcoaaDoor
