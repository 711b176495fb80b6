/-
  The law TraceQuotes, walked.
-/
import Derived.Test.YthkbcfenjodbmaaDoorLine
import Derived.Laws.BytesString
namespace Go.Proofs.YthkbcfenjodbmaaDoor
open Go.RowKit Go.Mer

theorem str_of (W : World) (B : Nat) (a : Option Addr) (cap : Nat) (l : List UInt8) (hr : Rd W B a (u8s l)) : (convert 22 9 (.slice a l.length cap)).run Tryd.prog W = .ok (.string ⟨l.toArray⟩) W := by
  rcases l with _ | ⟨x, l⟩
  · rw [run_convert_bytes_string W 22 9 5 a _ cap Tryd.underlying22 Tryd.underlying5 Tryd.underlying9]
    cases a <;> simp [Conv.bytesToString, loadCells]
    all_goals rfl
  · obtain ⟨g, off, rfl, _, _, hc⟩ := hr (by simp [u8s])
    exact run_convert_bytes_back (P := Tryd.prog) W 22 9 5 ⟨g, off, none⟩ cap (x :: l) Tryd.underlying22 Tryd.underlying5 Tryd.underlying9 (fun j hj => by
      rw [add_lit']
      exact hc j _ (by rw [u8s_get?, List.getElem?_eq_getElem hj]; rfl))
theorem quoS_beq (xs ys : List UInt8) :
    (((quoS xs).toList == (quoS ys).toList) = true ∧ ((⟨xs.toArray⟩ : ByteArray).toList == (⟨ys.toArray⟩ : ByteArray).toList) = true) ∨
    (((quoS xs).toList == (quoS ys).toList) = false ∧ ((⟨xs.toArray⟩ : ByteArray).toList == (⟨ys.toArray⟩ : ByteArray).toList) = false) := by
  by_cases h : xs = ys
  · subst h
    exact .inl ⟨beq_self_eq_true _, beq_self_eq_true _⟩
  · refine .inr ⟨beq_false_of_ne fun e => h ?_, beq_false_of_ne fun e => h ?_⟩
    · rw [Go.ByteArray.toList_eq, Go.ByteArray.toList_eq] at e
      exact quoteL_inj e
    · rw [Go.ByteArray.toList_eq, Go.ByteArray.toList_eq] at e
      exact e
theorem quoS_at (xs : List UInt8) {k : Nat} (h : k < (quoS xs).size) : 32 ≤ ((quoS xs)[k]'h).toNat ∧ ((quoS xs)[k]'h).toNat ≤ 126 :=
  quoteL_range xs _ (by
    have h' : k < (quoteL xs).length := by simpa [quoS, ByteArray.size] using h
    have : (quoS xs)[k]'h = (quoteL xs)[k]'h' := by
      show (quoteL xs).toArray[k]'(by simpa using h') = _
      exact List.getElem_toArray _
    rw [this]
    exact List.getElem_mem _)
set_option maxRecDepth 100000 in
set_option maxHeartbeats 1000000 in
theorem quotes_in (w : World) (a : Option Addr) (ca : Nat) (xs : List UInt8) (b : Option Addr) (cb : Nat) (ys : List UInt8) (hA : Rd w w.heap.size a (u8s xs)) (hB : Rd w w.heap.size b (u8s ys)) (h1 : xs.length ≤ 4000) (h2 : ys.length ≤ 4000) :
    Calls Tryd.prog 3 #[.slice a xs.length ca, .slice b ys.length cb] w fun e w' => e = .returned (.bool true) ∧ Kp No w w' := by
  have hqa : ∀ W, Kp No w W → Calls Tryd.prog 5 #[.slice a xs.length ca] W fun e w' => e = .returned (.string (quoS xs)) ∧ Kp No W w' := fun W hW => Quote_any W a ca xs ((hA.keep hW fun _ _ x => x).mono hW.size (Nat.le_refl _)) h1
  have hqb : ∀ W, Kp No w W → Calls Tryd.prog 5 #[.slice b ys.length cb] W fun e w' => e = .returned (.string (quoS ys)) ∧ Kp No W w' := fun W hW => Quote_any W b cb ys ((hB.keep hW fun _ _ x => x).mono hW.size (Nat.le_refl _)) h2
  have hra : ∀ W, Kp No w W → Calls Tryd.prog 6 #[.slice a xs.length ca] W fun e w' => e = .returned (.string (quoS xs)) ∧ Kp No W w' := fun W hW => rQuote_any W a ca xs ((hA.keep hW fun _ _ x => x).mono hW.size (Nat.le_refl _)) h1
  have hrb : ∀ W, Kp No w W → Calls Tryd.prog 6 #[.slice b ys.length cb] W fun e w' => e = .returned (.string (quoS ys)) ∧ Kp No W w' := fun W hW => rQuote_any W b cb ys ((hB.keep hW fun _ _ x => x).mono hW.size (Nat.le_refl _)) h2
  have hsa : ∀ W, Kp No w W → (convert 22 9 (.slice a xs.length ca)).run Tryd.prog W = .ok (.string ⟨xs.toArray⟩) W := fun W hW => str_of W _ a ca xs (hA.keep hW fun _ _ x => x)
  have hsb : ∀ W, Kp No w W → (convert 22 9 (.slice b ys.length cb)).run Tryd.prog W = .ok (.string ⟨ys.toArray⟩) W := fun W hW => str_of W _ b cb ys (hB.keep hW fun _ _ x => x)
  have hbe := quoS_beq xs ys
  have hat := fun (k : Nat) (h : k < (quoS xs).size) => quoS_at xs h
  have hsz : xs.length + 2 ≤ (quoS xs).size ∧ (quoS xs).size ≤ 4 * xs.length + 2 := by simpa [quoS, ByteArray.size] using quoteL_len xs
  obtain ⟨S, hS⟩ : ∃ S, S = quoS xs := ⟨_, rfl⟩
  obtain ⟨T, hT⟩ : ∃ T, T = quoS ys := ⟨_, rfl⟩
  obtain ⟨X, hX⟩ : ∃ X : ByteArray, X = ⟨xs.toArray⟩ := ⟨_, rfl⟩
  obtain ⟨Y, hY⟩ : ∃ Y : ByteArray, Y = ⟨ys.toArray⟩ := ⟨_, rfl⟩
  rw [← hS, ← hT, ← hX, ← hY] at hbe
  rw [← hS] at hat hsz hqa hra
  rw [← hT] at hqb hrb
  rw [← hX] at hsa
  rw [← hY] at hsb
  obtain ⟨hsz1, hsz2⟩ := hsz
  have HQA := Lib.hid hqa
  have HQB := Lib.hid hqb
  have HRA := Lib.hid hra
  have HRB := Lib.hid hrb
  have HSA := Lib.hid hsa
  have HSB := Lib.hid hsb
  have HAT := Lib.hid hat
  clear hqa hqb hra hrb hsa hsb hat hS hT hX hY hA hB
  go_enter Tryd.func3, Tryd.ntmps3
  go_wp2_with fail
  refine (HQA.out _ (Kp.refl _ _)).mono ?_
  rintro e w1 ⟨rfl, hk1⟩
  go_wp2_with fail
  refine (HQB.out _ hk1).mono ?_
  rintro e w2 ⟨rfl, hk2⟩
  have hk2' := hk1.trans_same hk2
  clear hk1 hk2
  go_wp2_with fail
  refine (HRA.out _ hk2').mono ?_
  rintro e w3 ⟨rfl, hk3⟩
  have hk3' := hk2'.trans_same hk3
  clear hk2' hk3
  go_wp2_with fail
  refine (HRB.out _ hk3').mono ?_
  rintro e w4 ⟨rfl, hk4⟩
  have hk4' := hk3'.trans_same hk4
  clear hk3' hk4
  have c1 := HSA.out _ hk4'
  have c2 := HSB.out _ hk4'
  rcases hbe with ⟨e1, e2⟩ | ⟨e1, e2⟩
  all_goals
    go_wp2_with fail
    go_loop [7] (fun i => ∃ k : Nat, k ≤ S.size ∧ i = .int .i64 (k : Int)) (fun i => S.size - (intOf i).toNat)
    case atStart => exact ⟨0, Nat.zero_le _, rfl⟩
    case round =>
      obtain ⟨k, hk, rfl⟩ := hrel
      by_cases hlt : k < S.size
      · obtain ⟨z1, z2⟩ := HAT.out k hlt
        go_wp2_with fail
        go_round
        case rel => exact ⟨k + 1, by omega, by go_num⟩
        case measure => simp [intOf]; omega
      · obtain rfl : k = S.size := by omega
        go_wp2_with fail
        refine (known_any _).mono ?_
        rintro e w5 ⟨rfl, hk5⟩
        go_wp2_with fail
        go_ret
        exact ⟨rfl, hk4'.trans_same hk5⟩
theorem Quotes_any (w : World) (a : Option Addr) (ca : Nat) (xs : List UInt8) (b : Option Addr) (cb : Nat) (ys : List UInt8) (hA : Rd w w.heap.size a (u8s xs)) (hB : Rd w w.heap.size b (u8s ys)) :
    Calls Tryd.prog 3 #[.slice a xs.length ca, .slice b ys.length cb] w fun e w' => e = .returned (.bool true) ∧ Kp No w w' := by
  rcases Nat.lt_or_ge 4000 xs.length with h | h
  · clear hA hB
    go_enter Tryd.func3, Tryd.ntmps3
    go_wp2_with fail
    go_ret
    exact ⟨rfl, Kp.refl _ _⟩
  · rcases Nat.lt_or_ge 4000 ys.length with h' | h'
    · clear hA hB
      go_enter Tryd.func3, Tryd.ntmps3
      go_wp2_with fail
      go_ret
      exact ⟨rfl, Kp.refl _ _⟩
    · exact quotes_in w a ca xs b cb ys hA hB h h'
end Go.Proofs.YthkbcfenjodbmaaDoor
