/-
  disk's gate: what lets one of the five be done, or refuses.
-/
import Derived.Test.YtenidddbjobblaaDisk
import Derived.WalkKit
import Derived.WalkSpells
import Derived.WalkLawsBesides
import Derived.Lib.Hide
namespace Go.Proofs.Ytenidddbjobblaa
open Go.RowKit Go.Mer

/-- What gate does when the names are names and the fuse isn't burnt. -/
def Gated (d : Nat) (fused : Bool) (left : Int) (R : Int → World → Prop) (e : Ending) (w' : World) : Prop :=
  ∃ r w2, R r w2 ∧ e = .returned (.int .i64 r) ∧ w' = if r = 0 ∧ fused = true then w2.setCell ⟨d, 3, none⟩ (.int .i64 (left - 1)) else w2

set_option maxHeartbeats 400000 in
theorem gate_does (d k : Nat) (room left : Int) (mp : Value) (fused : Bool) (hf : fused = false ∨ 0 < left) (hlm : left ≤ 9223372036854775807) (na : Option Addr) (nc : Nat) (ns : List ByteArray) (N : Int) (pv : Value) (w : World)
    (hd : w.heap[d]? = some (.cells #[.int .i64 room, mp, .bool fused, .int .i64 left] 60 (0, 0)))
    (hns : Rd w w.heap.size na (ns.map Value.string)) (hnl : ns.length ≤ 1000) (hok : ∀ s ∈ ns, nameOk s = true) (R : Int → World → Prop)
    (hR : ∀ r w2, R r w2 → ∃ room' mp', w2.heap[d]? = some (.cells #[.int .i64 room', mp', .bool fused, .int .i64 left] 60 (0, 0)))
    (hcf : ∀ args w, (callFunc k args).run Try.prog w = .ok (.enter k args) w)
    (hk : ∀ w1, Kp No w w1 → Calls Try.prog k #[.pointer (some ⟨d, 0, none⟩), .agg #[.slice na ns.length nc, .int .i64 N, pv]] w1 fun e w2 => ∃ r : Int, e = .returned (.int .i64 r) ∧ R r w2) :
    Calls Try.prog 29 #[.pointer (some ⟨d, 0, none⟩), .func (.func k) #[.pointer (some ⟨d, 0, none⟩)] #[], .agg #[.slice na ns.length nc, .int .i64 N, pv]] w (Gated d fused left R) := by
  have hdl := get_lt hd
  have c2 := cell_at hd 2
  have c3 := cell_at hd 3
  simp at c2 c3
  have HR := Lib.hid hR
  have HK := Lib.hid hk
  have HO := Lib.hid hok
  have HN := Lib.hid hns
  clear hR hk hok hns
  have hl1 : fused = true → 0 < left := fun h => hf.resolve_left (by rw [h]; simp)
  have hl0 : fused = true → ((left : Int) == 0) = false := fun h => by have := hl1 h; simp; omega
  cases fused
  all_goals
    first
      | (have hl2 := hl1 rfl; have hl3 := hl0 rfl; clear hl1 hl0 hf)
      | clear hl1 hl0 hf
    go_enter Try.func29, Try.ntmps29
    go_wp2_with fail
    go_loop [28] (fun i => ∃ j : Nat, j ≤ ns.length ∧ i = .int .i64 j) (fun i => ns.length - (intOf i).toNat)
    case atStart => exact ⟨0, Nat.zero_le _, rfl⟩
    case round =>
      obtain ⟨j, hj, rfl⟩ := hrel
      by_cases hlt : j < ns.length
      · obtain ⟨g, off, rfl, hg, _, hc⟩ := HN.out.at_ (i := j) (u := .string ns[j]) (by simp [hlt])
        have hn := HO.out ns[j] (List.getElem_mem hlt)
        simp only [nameOk, Bool.and_eq_true, decide_eq_true_eq] at hn
        obtain ⟨hn1, hn2⟩ := hn
        go_wp2_with fail
        go_round
        case rel => exact ⟨j + 1, by omega, by go_num⟩
        case measure => simp [intOf]; omega
      · go_wp2_with fail
        refine (HK.out _ ((Kp.refl _ _).alloc _)).mono ?_
        rintro e w2 ⟨r, rfl, hr⟩
        obtain ⟨room', mp', hd'⟩ := HR.out r w2 hr
        have c2' := cell_at hd' 2
        have c3' := cell_at hd' 3
        have f3' := free_at hd' 3
        simp at c2' c3'
        have HR2 := Lib.hid hr
        clear hr hd' c2 c3 hd
        by_cases hr0 : r = 0
        · have HZ := Lib.hid hr0
          have hrz : (r == 0) = true := by simp [hr0]
          clear hr0
          go_wp2_with fail
          go_ret
          exact ⟨r, _, HR2.out, rfl, by simp [HZ.out]⟩
        · have hrz : (r == 0) = false := by simp [hr0]
          go_wp2_with fail
          go_ret
          exact ⟨r, _, HR2.out, rfl, by simp [hr0]⟩

/-- gate refuses: a burnt fuse. -/
theorem gate_dead (d : Nat) (room : Int) (mp : Value) (fv wv : Value) (w : World) (hw1 : ∃ a b c, wv = .agg #[a, b, c])
    (hd : w.heap[d]? = some (.cells #[.int .i64 room, mp, .bool true, .int .i64 0] 60 (0, 0))) :
    Calls Try.prog 29 #[.pointer (some ⟨d, 0, none⟩), fv, wv] w fun e w' => e = .returned (.int .i64 9) ∧ Kp No w w' := by
  have hdl := get_lt hd
  have c2 := cell_at hd 2
  have c3 := cell_at hd 3
  simp at c2 c3
  obtain ⟨a, b, c, rfl⟩ := hw1
  go_enter Try.func29, Try.ntmps29
  go_wp2_with fail
  go_ret
  exact ⟨rfl, (Kp.refl _ _).alloc _⟩

/-- gate refuses: nobody. -/
theorem gate_nil (fv wv : Value) (w : World) (hw1 : ∃ a b c, wv = .agg #[a, b, c]) :
    Calls Try.prog 29 #[.pointer none, fv, wv] w fun e w' => e = .returned (.int .i64 1) ∧ Kp No w w' := by
  obtain ⟨a, b, c, rfl⟩ := hw1
  go_enter Try.func29, Try.ntmps29
  go_wp2_with fail
  go_ret
  exact ⟨rfl, (Kp.refl _ _).alloc _⟩

set_option maxHeartbeats 400000 in
/-- gate refuses: a name that is none. -/
theorem gate_arg (d : Nat) (room left : Int) (mp fv : Value) (fused : Bool) (hf : fused = false ∨ 0 < left) (na : Option Addr) (nc : Nat) (ns : List ByteArray) (N : Int) (pv : Value) (w : World)
    (hd : w.heap[d]? = some (.cells #[.int .i64 room, mp, .bool fused, .int .i64 left] 60 (0, 0)))
    (hns : Rd w w.heap.size na (ns.map Value.string)) (hnl : ns.length ≤ 1000) (hbad : ns.all nameOk = false) :
    Calls Try.prog 29 #[.pointer (some ⟨d, 0, none⟩), fv, .agg #[.slice na ns.length nc, .int .i64 N, pv]] w fun e w' => e = .returned (.int .i64 1) ∧ Kp No w w' := by
  have hdl := get_lt hd
  have c2 := cell_at hd 2
  have c3 := cell_at hd 3
  simp at c2 c3
  have HN := Lib.hid hns
  have HB := Lib.hid hbad
  clear hns hbad
  have hl1 : fused = true → 0 < left := fun h => hf.resolve_left (by rw [h]; simp)
  have hl0 : fused = true → ((left : Int) == 0) = false := fun h => by have := hl1 h; simp; omega
  cases fused
  all_goals
    first
      | (have hl2 := hl1 rfl; have hl3 := hl0 rfl; clear hl1 hl0 hf)
      | clear hl1 hl0 hf
    go_enter Try.func29, Try.ntmps29
    go_wp2_with fail
    go_loop [28] (fun i => ∃ j : Nat, j ≤ ns.length ∧ i = .int .i64 j ∧ Hid ((ns.take j).all nameOk = true)) (fun i => ns.length - (intOf i).toNat)
    case atStart => exact ⟨0, Nat.zero_le _, rfl, rfl⟩
    case round =>
      obtain ⟨j, hj, rfl, ht⟩ := hrel
      have hlt : j < ns.length := by
        rcases Nat.lt_or_ge j ns.length with h | h
        · exact h
        · have h1 := ht.out
          rw [List.take_of_length_le h] at h1
          rw [HB.out] at h1
          cases h1
      obtain ⟨g, off, rfl, hg, _, hc⟩ := HN.out.at_ (i := j) (u := .string ns[j]) (by simp [hlt])
      by_cases hn : nameOk ns[j] = true
      · have ht' : Hid ((ns.take (j + 1)).all nameOk = true) := by
          show _ = true
          rw [List.take_succ_eq_append_getElem hlt, List.all_append, ht.out]
          simp [hn]
        simp only [nameOk, Bool.and_eq_true, decide_eq_true_eq] at hn
        obtain ⟨hn1, hn2⟩ := hn
        go_wp2_with fail
        go_round
        case rel => exact ⟨j + 1, by omega, by go_num, ht'⟩
        case measure => simp [intOf]; omega
      · have hn' : ns[j].size < 1 ∨ 64 < ns[j].size := by
          simp only [nameOk, Bool.and_eq_true, decide_eq_true_eq] at hn
          omega
        clear hn ht
        rcases hn' with hn' | hn'
        · go_wp2_with fail
          go_ret
          exact ⟨rfl, (Kp.refl _ _).alloc _⟩
        · have hn1 : ¬ ns[j].size < 1 := by omega
          go_wp2_with fail
          go_ret
          exact ⟨rfl, (Kp.refl _ _).alloc _⟩
end Go.Proofs.Ytenidddbjobblaa
