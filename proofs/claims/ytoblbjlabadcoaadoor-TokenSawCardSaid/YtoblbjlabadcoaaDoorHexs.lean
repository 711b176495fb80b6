/-
  strconv.FormatUint at base 16.
-/
import Derived.Test.YtoblbjlabadcoaaDoorSum
namespace Go.Proofs.YtoblbjlabadcoaaDoor
open Go.RowKit Go.Mer

/-- What of the library's table is read at 16. -/
def Tab16 (w : World) : Prop := w.cell? ⟨5, 15, none⟩ = some (.int .u8 4)
theorem Tab16.keep {w w' : World} (h : Tab16 w) (hk : Kp No w w') : Tab16 w' := (hk.cell (World.block_lt_of_cell? w _ h) fun x => x).trans h

theorem TZ64_16 (w : World) (ht : Tab16 w) : Calls Tryd.prog 70 #[.int .u64 16] w fun e w' => e = .returned (.int .i64 4) ∧ w = w' := by
  have ht' : w.cell? ⟨5, 15, none⟩ = some (.int .u8 4) := ht
  have hw : IntKind.u64.wrap (-16) = 18446744073709551600 := by decide +kernel
  have hb : bits .and .u64 16 18446744073709551600 = 16 := by decide +kernel
  have hm : IntKind.u64.wrap 4573923408821661840 = 4573923408821661840 := by decide +kernel
  clear ht
  go_enter Tryd.func70, Tryd.ntmps70
  go_wp2_with fail
  go_ret
  exact ⟨rfl, rfl⟩
theorem TZ_16 (w : World) (ht : Tab16 w) : Calls Tryd.prog 65 #[.int .u64 16] w fun e w' => e = .returned (.int .i64 4) ∧ w = w' := by
  have HT := Lib.hid (TZ64_16 w ht)
  clear ht
  go_enter Tryd.func65, Tryd.ntmps65
  go_wp2_with fail
  refine (HT.out).mono ?_
  rintro e w' ⟨rfl, rfl⟩
  go_wp2_with fail
  go_ret
  exact ⟨rfl, rfl⟩
theorem P2_16 (w : World) : Calls Tryd.prog 64 #[.int .i64 16] w fun e w' => e = .returned (.bool true) ∧ w = w' := by
  have hb : bits .and .i64 16 15 = 0 := by decide +kernel
  go_enter Tryd.func64, Tryd.ntmps64
  go_wp2_with fail
  go_ret
  exact ⟨rfl, rfl⟩
/-- The last k digits of n lie at the end of block B. -/
def HexB (w wr : World) (B j k n : Nat) : Prop := ∃ cur : Array Value, wr.heap[B]? = some (.cells cur 104 (0, 0)) ∧ cur.size = 65 ∧ cur.toList.drop j = u8s (hexL k n) ∧ Kp No w wr ∧ w.heap.size ≤ B
theorem HexB.step {w wr : World} {B j k n : Nat} (h : HexB w wr B (j + 1) k n) (hj : j < 65) : HexB w (wr.setCell ⟨B, j, none⟩ (.int .u8 ((hexd (n / 16 ^ k % 16)).toNat : Int))) B j (k + 1) n := by
  obtain ⟨cur, h1, h2, h3, h4, h5⟩ := h
  refine ⟨cur.setIfInBounds j (.int .u8 ((hexd (n / 16 ^ k % 16)).toNat : Int)), set_at h1 j _, by simpa using h2, ?_, h4.setCell (.inr h5) _, h5⟩
  rw [hexL_cons, List.drop_eq_getElem_cons (by simp; omega)]
  simp only [Array.toList_setIfInBounds, List.getElem_set_self]
  rw [List.drop_set_of_lt (by omega), h3]
  rfl
theorem dg36 : ∀ q : Fin 16, (⟨#[48, 49, 50, 51, 52, 53, 54, 55, 56, 57, 97, 98, 99, 100, 101, 102, 103, 104, 105, 106, 107, 108, 109, 110, 111, 112, 113, 114, 115, 116, 117, 118, 119, 120, 121, 122]⟩ : ByteArray)[q.val]'(Nat.lt_of_lt_of_le q.isLt (by decide)) = hexd q.val := by decide +kernel
theorem dg36' {q : Nat} (h : q < 16) (h' : q < (⟨#[48, 49, 50, 51, 52, 53, 54, 55, 56, 57, 97, 98, 99, 100, 101, 102, 103, 104, 105, 106, 107, 108, 109, 110, 111, 112, 113, 114, 115, 116, 117, 118, 119, 120, 121, 122]⟩ : ByteArray).size) : (⟨#[48, 49, 50, 51, 52, 53, 54, 55, 56, 57, 97, 98, 99, 100, 101, 102, 103, 104, 105, 106, 107, 108, 109, 110, 111, 112, 113, 114, 115, 116, 117, 118, 119, 120, 121, 122]⟩ : ByteArray)[q]'h' = hexd q := dg36 ⟨q, h⟩
theorem low4 {n : Nat} (h : n < 18446744073709551616) : bits .and .u64 (n : Int) 15 = ((n % 16 : Nat) : Int) := by
  have := bits_and (k := .u64) rfl (a := n) (b := 15) h (by decide)
  rw [Nat.and_two_pow_sub_one_eq_mod n 4] at this
  exact this
set_option maxRecDepth 100000 in
theorem FB_16 (n : Nat) (hn : n < 18446744073709551616) (w : World) (ht : Tab16 w) :
    Calls Tryd.prog 51 #[.slice none 0 0, .int .u64 (n : Int), .int .i64 16, .bool false, .bool false] w fun e w' => ∃ k, n < 16 ^ k ∧ 1 ≤ k ∧ k ≤ 16 ∧ (k = 1 ∨ 16 ^ (k - 1) ≤ n) ∧ e = .returned (.tuple #[.slice none 0 0, .string ⟨(hexL k n).toArray⟩]) ∧ Kp No w w' := by
  have HT := Lib.hid ht
  clear ht
  go_enter Tryd.func51, Tryd.ntmps51
  go_wp2_with fail
  refine (P2_16 _).mono ?_
  rintro e w' ⟨rfl, rfl⟩
  go_wp2_with fail
  refine (TZ_16 _ (HT.out.keep ((Kp.refl _ _).alloc _))).mono ?_
  rintro e w' ⟨rfl, rfl⟩
  go_wp2_with fail
  rename World => w0
  go_loopw [1, 13] (fun u i wr => ∃ k j x : Nat, k ≤ 15 ∧ j + k = 65 ∧ u = .int .u64 (x : Int) ∧ i = .int .i64 (j : Int) ∧ x < 18446744073709551616 ∧ (k = 0 ∨ 1 ≤ x) ∧ Hid (x = n / 16 ^ k) ∧ Hid (HexB w0 wr w0.heap.size j k n)) (fun u _ _ => (intOf u).toNat)
  case atStart =>
    exact ⟨0, 65, n, by omega, rfl, rfl, rfl, hn, .inl rfl, by show n = n / 16 ^ 0; simp, ⟨_, heap_alloc_new w0 _, by kernel_rfl, by kernel_rfl, (Kp.refl _ _).alloc _, Nat.le_refl _⟩⟩
  case round =>
    obtain ⟨k, j, x, hk, hjk, rfl, rfl, hx, hx1, HX, HB⟩ := hrel
    have HX1 := Lib.hid hx1
    clear hx1
    obtain ⟨cur, h1, h2, h3, h4, h5⟩ := HB.out
    obtain ⟨p, rfl⟩ : ∃ p, j = p + 1 := ⟨j - 1, by omega⟩
    have hc := cell_at h1 p
    rw [Array.getElem?_eq_getElem (by omega)] at hc
    have hf := free_at h1 p
    have hl4 := low4 hx
    by_cases h16 : 16 ≤ x
    · have hk14 : k ≤ 14 := by
        have : k ≠ 15 := by
          rintro rfl
          have h : x = n / 16 ^ 15 := HX.out
          omega
        omega
      obtain ⟨q, hq⟩ : ∃ q, q = x % 16 := ⟨_, rfl⟩
      have hq16 : q < 16 := by omega
      rw [← hq] at hl4
      have HQ := Lib.hid hq
      clear hq
      go_wp2_with fail
      go_roundw
      case rel =>
        refine ⟨k + 1, p, x / 16, by omega, by omega, by go_num, rfl, by omega, .inr (by omega), ?_, ?_⟩
        · show x / 16 = n / 16 ^ (k + 1)
          rw [Nat.pow_succ, ← Nat.div_div_eq_div_mul, ← show x = _ from HX.out]
        · rw [dg36' hq16, show q = _ from HQ.out, show x = _ from HX.out]
          exact HB.out.step (by omega)
      case measure => simp [intOf]; omega
    · have hsl : ∀ W, (Instr.sliceAt 104 (.pointer (some ⟨w0.heap.size, 0, none⟩)) (some (.int .i64 (p : Int))) none none).run Tryd.prog W = .ok (.slice (some ⟨w0.heap.size, p, none⟩) (k + 1) (k + 1)) W := fun W => by
        have e : (65 : Nat) ≠ p := by omega
        have e2 : 65 - p = k + 1 := by omega
        have hsz : ∀ W, (Go.sizeOf (Tryd.prog.elem 104)).run Tryd.prog W = .ok 1 W := fun W => by kernel_rfl
        have hal : Tryd.prog.arrayLen 104 = 65 := by kernel_rfl
        rw [run_sliceAt_array_l W 104 ⟨w0.heap.size, 0, none⟩ Tryd.underlying104 .i64 (p : Int) (by omega) (by rw [hal]; omega), hsz, hal]
        simp only [Result.andThen_ok, slicedAt, Int.toNat_natCast, if_neg e, e2, Nat.mul_one, Addr.add_lit, Nat.zero_add]
      clear hl4 h1 h3 h4 h5
      go_wp2_with fail
      have hx16 : x < 16 := by omega
      rw [dg36' hx16]
      have hxx : x = n / 16 ^ k % 16 := by
        have : x = n / 16 ^ k := HX.out
        omega
      have HB' := HB.out.step (j := p) (by omega)
      rw [← hxx] at HB'
      obtain ⟨W', hW'⟩ : ∃ W', W' = wr.setCell ⟨w0.heap.size, p, none⟩ (.int .u8 ((hexd x).toNat : Int)) := ⟨_, rfl⟩
      rw [← hW'] at HB' ⊢
      obtain ⟨cur', h1', h2', h3', h4', h5'⟩ := HB'
      have hcv := run_convert_bytes_back (P := Tryd.prog) W' 45 9 5 ⟨w0.heap.size, p, none⟩ (k + 1) (hexL (k + 1) n) Tryd.underlying45 Tryd.underlying5 Tryd.underlying9 (fun j hj => by
        rw [Addr.add_lit, cell_at h1']
        have e := congrArg (fun l : List Value => l[j]?) h3'
        simp only [List.getElem?_drop, u8s_get?] at e
        rw [List.getElem?_eq_getElem hj] at e
        simpa [u8] using e)
      rw [hexL_len] at hcv
      have hfin : n < 16 ^ (k + 1) := by
        have : x = n / 16 ^ k := HX.out
        rw [Nat.pow_succ]
        have hd := Nat.div_lt_iff_lt_mul (x := n) (y := 16) (k := 16 ^ k) (Nat.pow_pos (by decide))
        have := hd.1 (by omega)
        omega
      have HF := Lib.hid hfin
      clear hW' hxx h1' h3' hfin
      rw [hcv]
      simp only [Result.andThen_ok]
      clear hcv hsl
      go_wp2_with fail
      go_ret2
      have hmin : k + 1 = 1 ∨ 16 ^ (k + 1 - 1) ≤ n := by
        rcases HX1.out with h | h
        · exact .inl (by omega)
        · refine .inr ?_
          rw [show x = n / 16 ^ k from HX.out] at h
          rw [Nat.add_sub_cancel]
          have := (Nat.le_div_iff_mul_le (Nat.pow_pos (by decide : 0 < 16))).1 h
          omega
      exact ⟨k + 1, HF.out, by omega, by omega, hmin, rfl, h4'⟩
def FU0P (n : Nat) (w : World) (e : Ending) (w' : World) : Prop := ∃ k, n < 16 ^ k ∧ 1 ≤ k ∧ k ≤ 16 ∧ (k = 1 ∨ 16 ^ (k - 1) ≤ n) ∧ e = .returned (.string ⟨(hexL k n).toArray⟩) ∧ Kp No w w'
theorem FU0_16 (n : Nat) (hn : n < 18446744073709551616) (w : World) (ht : Tab16 w) : Calls Tryd.prog 33 #[.int .u64 (n : Int), .int .i64 16] w (FU0P n w) := by
  have HT := Lib.hid ht
  clear ht
  go_enter Tryd.func33, Tryd.ntmps33
  go_wp2_with fail
  refine (FB_16 _ hn _ HT.out).mono ?_
  rintro e w' ⟨k, hk1, hk2, hk3, hk4, rfl, hk⟩
  have HK := Lib.hid (And.intro hk1 hk4)
  clear hk1 hk4
  go_wp2_with fail
  go_ret
  exact ⟨k, HK.out.1, hk2, hk3, HK.out.2, rfl, hk⟩
def FUP (n : Nat) (w : World) (e : Ending) (w' : World) : Prop := ∃ k, n < 16 ^ k ∧ 1 ≤ k ∧ k ≤ 16 ∧ (k = 1 ∨ 16 ^ (k - 1) ≤ n) ∧ e = .returned (.string ⟨(hexL k n).toArray⟩) ∧ Kp No w w'
theorem FU_16 (n : Nat) (hn : n < 18446744073709551616) (w : World) (ht : Tab16 w) : Calls Tryd.prog 27 #[.int .u64 (n : Int), .int .i64 16] w (FUP n w) := by
  have HT := Lib.hid ht
  clear ht
  go_enter Tryd.func27, Tryd.ntmps27
  go_wp2_with fail
  refine (FU0_16 _ hn _ HT.out).mono ?_
  rintro e w' ⟨k, hk1, hk2, hk3, hk4, rfl, hk⟩
  have HK := Lib.hid (And.intro hk1 hk4)
  clear hk1 hk4
  go_wp2_with fail
  go_ret
  exact ⟨k, HK.out.1, hk2, hk3, HK.out.2, rfl, hk⟩
end Go.Proofs.YtoblbjlabadcoaaDoor
