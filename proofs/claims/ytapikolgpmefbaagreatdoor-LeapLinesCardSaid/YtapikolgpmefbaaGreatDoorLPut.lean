/-
  The closure put of cal.Print: a number's digits into a row of bytes, from the last one on.
-/
import Derived.Test.YtapikolgpmefbaaGreatDoorLDig
import Derived.Test.YtapikolgpmefbaaGreatDoorChunk
namespace Go.Proofs.YtapikolgpmefbaaGreatDoor
open Go.RowKit Go.Mer

theorem digL_zero (k : Nat) : digL 0 k = List.replicate k 48 := by
  induction k with
  | zero => rfl
  | succ k ih => rw [digL_cons, ih, Nat.zero_div, List.replicate_succ]; rfl
/-- The higher digits are noughts. -/
theorem digL_high (n j m : Nat) (h : n < 10 ^ j) : digL n (m + j) = List.replicate m 48 ++ digL n j := by
  induction m with
  | zero => rw [Nat.zero_add]; rfl
  | succ m ih =>
    rw [show m + 1 + j = (m + j) + 1 by omega, digL_cons, ih, List.replicate_succ]
    have hp : 10 ^ j ≤ 10 ^ (m + j) := Nat.pow_le_pow_right (by decide) (by omega)
    rw [Nat.div_eq_of_lt (by omega)]
    rfl
theorem set_rep (A R : List Value) (m : Nat) (c u : Value) : (A ++ List.replicate (m + 1) c ++ R).set (A.length + m) u = A ++ List.replicate m c ++ u :: R := by
  rw [List.replicate_succ', List.append_assoc, List.append_assoc, List.set_append_right _ _ (by omega), Nat.add_sub_cancel_left, List.append_assoc, List.set_append_right _ _ (by simp)]
  simp
theorem get_rep (A R : List Value) (m : Nat) (c : Value) : (A ++ List.replicate (m + 1) c ++ R)[A.length + m]? = some c := by
  rw [List.append_assoc, List.getElem?_append_right (by omega), Nat.add_sub_cancel_left, List.replicate_succ', List.append_assoc, List.getElem?_append_right (by simp)]
  simp
theorem dgz (y : Nat) (h : ¬ y = 0) : ∃ z : Nat, z = y / 10 ∧ (y : Int).tdiv 10 = (z : Int) ∧ z < y :=
  ⟨y / 10, rfl, by rw [Int.tdiv_eq_ediv_of_nonneg (by omega)]; exact (Int.natCast_ediv y 10).symm, by omega⟩
def putL (A Z : List UInt8) (m j n : Nat) : List Value := u8s A ++ List.replicate m (u8 48) ++ u8s (digL n j ++ Z)
theorem putL_set (A Z : List UInt8) (m j n q : Nat) (hq : q = n / 10 ^ j % 10) : (putL A Z (m + 1) j n).set (A.length + m) (u8 (UInt8.ofNat (48 + q))) = putL A Z m (j + 1) n := by
  unfold putL
  have := set_rep (u8s A) (u8s (digL n j ++ Z)) m (u8 48) (u8 (UInt8.ofNat (48 + q)))
  rw [u8s_length] at this
  rw [this, digL_cons, ← hq]
  rfl
theorem putL_get (A Z : List UInt8) (m j n : Nat) : (putL A Z (m + 1) j n)[A.length + m]? = some (.int .u8 48) := by
  unfold putL
  have := get_rep (u8s A) (u8s (digL n j ++ Z)) m (u8 48)
  rw [u8s_length] at this
  exact this
theorem rep_u8s (m : Nat) : List.replicate m (u8 48) = u8s (List.replicate m 48) := by simp [u8s]
theorem putL_end (A Z : List UInt8) (m j n : Nat) (h : n < 10 ^ j) : putL A Z m j n = u8s (A ++ digL n (m + j) ++ Z) := by
  unfold putL
  rw [digL_high n j m h, rep_u8s, ← u8s_append, ← u8s_append]
  simp
theorem free_atF {w : World} {g lo hi : Nat} {cs : Array Value} {t : TypeId} (h : w.heap[g]? = some (.cells cs t (lo, hi))) {i : Nat} (hi : i < lo) : w.frozen? ⟨g, i, none⟩ = false := by
  simp [World.frozen?, h]
  omega
theorem cell_atF {w : World} {g : Nat} {cs : Array Value} {t : TypeId} {f : Nat × Nat} (h : w.heap[g]? = some (.cells cs t f)) (i : Nat) : w.cell? ⟨g, i, none⟩ = cs[i]? := cell_of_row w g i cs t f h
theorem set_atF {w : World} {g : Nat} {cs : Array Value} {t : TypeId} {f : Nat × Nat} (h : w.heap[g]? = some (.cells cs t f)) (i : Nat) (u : Value) : (w.setCell ⟨g, i, none⟩ u).heap[g]? = some (.cells (cs.setIfInBounds i u) t f) := by
  simp [World.setCell, Array.getElem?_modify, h]
/-- A row of ten bytes, of a constant. -/
def RowM (W : World) (D : Nat) (l : List Value) : Prop := W.heap[D]? = some (.cells l.toArray 5 (10, 11))
theorem RowM.keep {W W' : World} {D : Nat} {l : List Value} {S : Nat → Prop} (h : RowM W D l) (hk : Kp S W W') (hS : ¬ S D) : RowM W' D l := hk.get h hS
theorem RowM.set {W : World} {D : Nat} {l : List Value} (h : RowM W D l) (p : Nat) (u : Value) : RowM (W.setCell ⟨D, p, none⟩ u) D (l.set p u) := by
  unfold RowM
  rw [set_atF h, List.setIfInBounds_toArray]
set_option maxRecDepth 100000 in
set_option maxHeartbeats 1000000 in
theorem put_any (w : World) (V D n k at_ : Nat) (A Z : List UInt8) (hV : w.heap[V]? = some (.cells #[.slice (some ⟨D, 0, none⟩) 10 10] 43 (0, 0))) (hne : V ≠ D)
    (hO : RowM w D (putL A Z k 0 n)) (hat : at_ + 1 = A.length + k) (hn : n < 10 ^ k) (hk : k ≤ 4) (hal : A.length + k ≤ 10) :
    Calls Tryz.prog 52 #[.int .i64 (at_ : Int), .int .i64 (n : Int), .pointer (some ⟨V, 0, none⟩)] w fun e w' => e = .returned (.tuple #[]) ∧ RowM w' D (u8s (A ++ digL n k ++ Z)) ∧ Kp (Mer.One D) w w' := by
  have hn4 : n < 10000 := Nat.lt_of_lt_of_le hn (Nat.pow_le_pow_right (by decide) hk)
  have HN := Lib.hid hn
  have HO := Lib.hid hO
  have HV := Lib.hid hV
  clear hn hO hV
  go_enter Tryz.func52, Tryz.ntmps52
  go_wp2_with fail
  go_loopw [0, 1] (fun p x wr => ∃ (m j y : Nat), m + j = k ∧ p = .int .i64 ((A.length : Int) + (m : Int) - 1) ∧ x = .int .i64 (y : Int) ∧ y ≤ n ∧ Hid (y = n / 10 ^ j) ∧ Hid (RowM wr D (putL A Z m j n)) ∧ Hid (Kp (Mer.One D) w wr)) (fun _ x _ => (intOf x).toNat)
  case atStart => exact ⟨k, 0, n, rfl, by congr 1; omega, rfl, Nat.le_refl _, by show n = _; simp, HO, Kp.refl _ _⟩
  case round =>
    obtain ⟨m, j, y, hmj, rfl, rfl, hyn, HY, HR, HK⟩ := hrel
    by_cases hy : y = 0
    · subst hy
      go_wp2_with fail
      refine bodyPost_end (results_none rfl _ _ _) rfl ⟨rfl, ?_, HK⟩
      have e := putL_end A Z m j n (by
        have h0 : 0 = n / 10 ^ j := HY
        exact Nat.lt_of_div_eq_zero (Nat.pow_pos (by decide)) h0.symm)
      rw [hmj] at e
      rw [← e]
      exact HR
    · obtain ⟨m, rfl⟩ : ∃ m', m = m' + 1 := by
        cases m with
        | succ m' => exact ⟨m', rfl⟩
        | zero =>
          exfalso
          obtain rfl : j = k := by omega
          exact hy ((show y = _ from HY).trans (Nat.div_eq_of_lt HN.out))
      obtain ⟨q, hq10, hq, hqm, hqw, hqn⟩ := dgt y
      obtain ⟨z, hz, hdz, hzy⟩ := dgz y hy
      obtain ⟨p, hp⟩ : ∃ p, p = A.length + m := ⟨_, rfl⟩
      have hpi : (A.length : Int) + ((m + 1 : Nat) : Int) - 1 = (p : Int) := by rw [hp]; push_cast; omega
      have hp10 : p < 10 := by omega
      have hown := HR.out
      have r0 : wr.cell? ⟨D, p, none⟩ = some (.int .u8 48) := by
        rw [cell_atF hown, hp, List.getElem?_toArray]
        exact putL_get A Z m j n
      have f0 : wr.frozen? ⟨D, p, none⟩ = false := free_atF hown hp10
      have v0 : wr.cell? ⟨V, 0, none⟩ = some (.slice (some ⟨D, 0, none⟩) 10 10) := by rw [cell_at (HK.out.get HV.out hne)]; rfl
      have hgl := get_lt hown
      have hset := hown.set p (.int .u8 ((UInt8.ofNat (48 + q)).toNat : Int))
      rw [hqn, show (putL A Z (m + 1) j n).set p (.int .u8 ((48 + q : Nat) : Int)) = putL A Z m (j + 1) n by
        rw [hp, ← hqn]
        exact putL_set A Z m j n q (by rw [hq, show y = _ from HY]), Int.natCast_add, show ((48 : Nat) : Int) = 48 from rfl] at hset
      have HSET := Lib.hid hset
      have HQ := Lib.hid hq
      have HZ := Lib.hid hz
      have HP := Lib.hid hp
      rw [hpi]
      clear hset hq hz hown hpi hp
      go_wp2_with fail
      go_roundw
      case rel =>
        refine ⟨m, j + 1, z, by omega, ?_, rfl, by omega, ?_, ?_, ?_⟩
        · rw [HP.out]; go_num
        · show z = _
          rw [HZ.out, show y = _ from HY, Nat.pow_succ, ← Nat.div_div_eq_div_mul]
        · exact HSET
        · exact Kp.setCell (show Kp (Mer.One D) w wr from HK) (p := ⟨D, p, none⟩) (.inl rfl) _
      case measure => simp [intOf]; omega
end Go.Proofs.YtapikolgpmefbaaGreatDoor
