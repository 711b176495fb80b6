/-
  Whether an answer is heavy.
-/
import Derived.Test.YthkbcfenjodbmaaDoorTrace
namespace Go.Proofs.YthkbcfenjodbmaaDoor
open Go.RowKit Go.Mer

def BoxH (W : World) (b : Nat) (a : Option Addr) (l cap : Nat) (pa : Option Addr) (m pcap : Nat) : Prop := W.cell? ⟨b, 4 + 1, none⟩ = some (.slice a l cap) ∧ W.cell? ⟨b, 5 + 1, none⟩ = some (.slice pa m pcap)
def HvP (r : AnsR) (w : World) (e : Ending) (w' : World) : Prop := ∃ b : Bool, e = .returned (.bool b) ∧ (b = false → r.light) ∧ Kp No w w'
theorem small_step {PS : List PairR} {k : Nat} {key : ByteArray} {pav : Option Addr} {pcv : Nat} {dat : List UInt8} (HE : Hid (PS.take (k + 1) = PS.take k ++ [PairR.mk key pav pcv dat])) (h : Hid (∀ p ∈ PS.take k, p.key.size ≤ 4000 ∧ p.data.length ≤ 4000)) (h1 : key.size ≤ 4000) (h2 : dat.length ≤ 4000) :
    Hid (∀ p ∈ PS.take (k + 1), p.key.size ≤ 4000 ∧ p.data.length ≤ 4000) := Lib.hid fun p hp => by
  rw [HE.out, List.mem_append, List.mem_singleton] at hp
  rcases hp with hp | rfl
  · exact h.out p hp
  · exact ⟨h1, h2⟩
set_option maxRecDepth 100000 in
set_option maxHeartbeats 2000000 in
theorem heavy_any (w : World) (err n mi co : Int) (fo : Bool) (a : Option Addr) (cap : Nat) (D : List UInt8) (pa : Option Addr) (pcap : Nat) (PS : List PairR)
    (ht : Rd w w.heap.size pa (pairC PS)) (hD : D.length ≤ 140737488355328) (hP : PS.length ≤ 140737488355328) (hq : ∀ p ∈ PS, p.key.size ≤ 9223372036854775807 ∧ p.data.length ≤ 140737488355328) :
    Calls Tryd.prog 8 #[.agg #[.int .i64 err, .int .i64 n, .int .i64 mi, .int .i64 co, .bool fo, .slice a D.length cap, .slice pa PS.length pcap]] w
      (HvP (AnsR.mk err n mi co fo a cap D pa pcap PS) w) := by
  obtain ⟨W1, hW1⟩ : ∃ W1, W1 = w.alloc (.cells #[.int .i64 err, .int .i64 n, .int .i64 mi, .int .i64 co, .bool fo, .slice a D.length cap, .slice pa PS.length pcap] 34) := ⟨_, rfl⟩
  have H1 : Kp No w W1 := by rw [hW1]; exact (Kp.refl _ _).alloc _
  have b2 : W1.heap[w.heap.size]? = some (.cells #[.int .i64 err, .int .i64 n, .int .i64 mi, .int .i64 co, .bool fo, .slice a D.length cap, .slice pa PS.length pcap] 34 (0, 0)) := by rw [hW1]; exact heap_alloc_new w _
  have HBX := Lib.hid (show ∀ W, Kp No W1 W → BoxH W w.heap.size a D.length cap pa PS.length pcap from fun W h => by
    have hb := h.get b2 fun x => x
    unfold BoxH
    rw [cell_at hb, cell_at hb]
    exact ⟨rfl, rfl⟩)
  have HA := Lib.hid (ht.kp H1)
  have HH := Lib.hid H1
  have HQ := Lib.hid hq
  obtain ⟨d5, d6⟩ := HBX.out _ (Kp.refl _ _)
  clear b2 H1 ht hq
  go_enter Tryd.func8, Tryd.ntmps8
  go_wp2_with fail
  rw [← hW1]
  clear hW1
  go_wp2_with fail
  go_loopw [3, 4] (fun s i wr => ∃ k N : Nat, k ≤ PS.length ∧ D.length + k ≤ N ∧ N ≤ 140737488355328 ∧ i = .int .i64 (k : Int) ∧ s = .int .i64 (N : Int) ∧ Hid (∀ p ∈ PS.take k, p.key.size ≤ 4000 ∧ p.data.length ≤ 4000) ∧ Hid (Kp No W1 wr)) (fun _ i _ => PS.length - (intOf i).toNat)
  case atStart => exact ⟨0, D.length, Nat.zero_le _, Nat.le_refl _, hD, rfl, rfl, (by intro p hp; simp at hp), Kp.refl _ _⟩
  case round =>
    obtain ⟨k, N, hk, hN1, hN2, rfl, rfl, HPK, HKP⟩ := hrel
    clear d5 d6
    obtain ⟨d5, d6⟩ := HBX.out _ HKP
    by_cases hlt : k < PS.length
    · obtain ⟨q0, q1⟩ := pairC_get PS hlt
      have HE := Lib.hid (List.take_succ_eq_append_getElem hlt)
      have hLk := HQ.out _ (List.getElem_mem hlt)
      obtain ⟨P, hP'⟩ : ∃ P, P = PS[k] := ⟨_, rfl⟩
      rw [← hP'] at q0 q1 HE hLk
      obtain ⟨g, off, rfl, hg, _, l0⟩ := (HA.out.kp HKP).at_ q0
      obtain ⟨g', off', e', _, _, l1⟩ := (HA.out.kp HKP).at_ q1
      injection e' with e'
      injection e' with e1 e2 _
      subst e1; subst e2
      obtain ⟨key, pav, pcv, dat⟩ := P
      rw [← Nat.add_assoc] at l1
      have hL1 : key.size ≤ 9223372036854775807 := hLk.1
      have hL2 : dat.length ≤ 140737488355328 := hLk.2
      clear q0 q1 hP' hLk
      have h4 : 4000 < dat.length ∨ (dat.length ≤ 4000 ∧ 4000 < key.size) ∨ (dat.length ≤ 4000 ∧ key.size ≤ 4000 ∧ 4000 < N) ∨ (dat.length ≤ 4000 ∧ key.size ≤ 4000 ∧ N ≤ 4000) := by omega
      rcases h4 with h1 | ⟨h1, h2⟩ | ⟨h1, h2, h3⟩ | ⟨h1, h2, h3⟩
      · go_wp2_with fail
        go_ret
        exact ⟨true, rfl, (fun h => by cases h), HH.out.trans_same HKP⟩
      · go_wp2_with fail
        go_ret
        exact ⟨true, rfl, (fun h => by cases h), HH.out.trans_same HKP⟩
      · go_wp2_with fail
        go_ret
        exact ⟨true, rfl, (fun h => by cases h), HH.out.trans_same HKP⟩
      · go_wp2_with fail
        refine wp_region_ord [0,0,0,1,0,0,0,1,1,0,0,1,0,0,0,1,1,0,0] [0,1,2,4,10,12,3,5,6,7,8,9,11,13,14,15,16,17,18] (by kernel_rfl) (by kernel_rfl) ?_
        repeat (first
          | (apply wpOrd_skip rfl (by decide) rfl; (focus (go_simp; rfl)))
          | (apply wpOrd_pure rfl rfl rfl; (focus (intro _ _; go_simp; (try go_ints); rfl)); (focus (go_simp; rfl)))
          | (apply wpOrd_read rfl rfl rfl; (focus (intro _; go_simp; (try go_ints); rfl)); (focus (go_simp; rfl))))
        refine wpOrd_nil (fun nq => ?_)
        go_wp2_with fail
        go_roundw
        case rel => exact ⟨k + 1, N + 5 + key.size + dat.length, by omega, by omega, by omega, by go_num, by go_num, small_step HE HPK h2 h1, (show Kp No W1 wr from HKP).drewN nq⟩
        case measure => simp [intOf]; omega
    · obtain rfl : k = PS.length := by omega
      clear hlt
      go_wp2_with fail
      go_ret
      exact ⟨decide (4000 < (N : Int)), rfl, (fun hb => by
        have hN : N ≤ 4000 := by have h := of_decide_eq_false hb; omega
        exact ⟨(by show D.length ≤ 4000; omega), (by show PS.length ≤ 4000; omega), fun p hp => HPK.out p (by rw [List.take_length]; exact hp)⟩), HH.out.trans_same HKP⟩
end Go.Proofs.YthkbcfenjodbmaaDoor
