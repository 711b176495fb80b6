/-
  The law TraceJoins, walked.
-/
import Derived.Test.YthkbcfenjodbmaaDoorLines
import Derived.Test.YthkbcfenjodbmaaDoorHeavy
namespace Go.Proofs.YthkbcfenjodbmaaDoor
open Go.RowKit Go.Mer

theorem and_le (x : Int) (m : Nat) (hm : m < 9223372036854775808) : ∃ q : Nat, q ≤ m ∧ bits .and .i64 x (m : Int) = (q : Int) := by
  have h : (BitVec.ofInt 64 x &&& BitVec.ofInt 64 (m : Int)).toNat ≤ m := by
    rw [BitVec.toNat_and, bv_small (n := 64) (by omega)]
    exact Nat.and_le_right
  refine ⟨_, h, ?_⟩
  show IntKind.i64.wrap (((BitVec.ofInt 64 x &&& BitVec.ofInt 64 (m : Int)).toNat : Nat) : Int) = _
  exact IntWalk.i64_in _ (by omega)
/-- What is known of the arguments. -/
structure Args0 (w : World) (sa : Option Addr) (S : List StepR) (aa : Option Addr) (A : List AnsR) : Prop where
  steps : Rd w w.heap.size sa (S.flatMap StepR.cells)
  answers : Rd w w.heap.size aa (A.flatMap AnsR.cells)
  ints : ∀ s ∈ S, I64 s.kind ∧ I64 s.node
  each : ∀ r ∈ A, r.At w
  sizes : ∀ r ∈ A, r.data.length ≤ 140737488355328 ∧ r.pairs.length ≤ 140737488355328 ∧ ∀ p ∈ r.pairs, p.key.size ≤ 9223372036854775807 ∧ p.data.length ≤ 140737488355328
theorem chunk_take {α : Type} (f : α → List Value) (c : Nat) (hf : ∀ x, (f x).length = c) : ∀ (L : List α) (k : Nat), (L.flatMap f).take (k * c) = (L.take k).flatMap f
  | [], k => by simp
  | x :: L, 0 => by simp
  | x :: L, k + 1 => by
    rw [List.flatMap_cons, List.take_succ_cons, List.flatMap_cons, List.take_append, hf, List.take_of_length_le (by rw [hf, Nat.add_mul]; omega), show (k + 1) * c - c = k * c from by rw [Nat.add_mul]; omega, chunk_take f c hf L k]
theorem chunk_drop {α : Type} (f : α → List Value) (c : Nat) (hf : ∀ x, (f x).length = c) : ∀ (L : List α) (k : Nat), (L.flatMap f).drop (k * c) = (L.drop k).flatMap f
  | [], k => by simp
  | x :: L, 0 => by simp
  | x :: L, k + 1 => by
    rw [List.flatMap_cons, List.drop_succ_cons, List.drop_append, hf, List.drop_of_length_le (by rw [hf, Nat.add_mul]; omega), show (k + 1) * c - c = k * c from by rw [Nat.add_mul]; omega, chunk_drop f c hf L k]
    rfl
theorem zip_split {α β : Type} (k : Nat) : ∀ (S : List α) (A : List β), S.length = A.length → S.zip A = (S.take k).zip (A.take k) ++ (S.drop k).zip (A.drop k) := by
  induction k with
  | zero => intro S A _; simp
  | succ k ih =>
    intro S A h
    rcases S with _ | ⟨s, S⟩
    · rcases A with _ | ⟨a, A⟩
      · simp
      · simp at h
    · rcases A with _ | ⟨a, A⟩
      · simp at h
      · simp only [List.zip_cons_cons, List.take_succ_cons, List.drop_succ_cons, List.cons_append]
        rw [ih S A (by simpa using h)]
theorem linesL_split (k : Nat) (S : List StepR) (A : List AnsR) (h : S.length = A.length) : linesL (S.take k) (A.take k) ++ linesL (S.drop k) (A.drop k) = linesL S A := by
  unfold linesL
  rw [zip_split k S A h, List.flatMap_append]
theorem flat_len {α : Type} (f : α → List UInt8) (B : Nat) : ∀ (L : List α), (∀ x ∈ L, (f x).length ≤ B) → (L.flatMap f).length ≤ L.length * B
  | [], _ => by simp
  | x :: L, h => by
    rw [List.flatMap_cons, List.length_append, List.length_cons, Nat.add_mul]
    have h1 := h x (List.mem_cons_self ..)
    have h2 := flat_len f B L fun y hy => h y (List.mem_cons_of_mem _ hy)
    omega
theorem linesL_len {w : World} {sa : Option Addr} {S : List StepR} {aa : Option Addr} {A : List AnsR} (h : Args w sa S aa A) (hS : S.length ≤ 40) : (linesL S A).length ≤ 9000000000 := by
  have h1 := flat_len lineB 200000001 (S.zip A) fun p hp => by
    obtain ⟨hs, ha⟩ := List.of_mem_zip (a := p.1) (b := p.2) hp
    obtain ⟨i1, i2⟩ := h.ints _ hs
    obtain ⟨h2, h3⟩ := h.each _ ha
    have := lineS_len i1 i2 h2.ints h3
    have e : (lineS p.1.kind p.1.node p.2).data.toList.length = (lineS p.1.kind p.1.node p.2).size := Array.length_toList
    simp only [lineB, List.length_append, List.length_cons, List.length_nil]
    omega
  have h2 : (S.zip A).length ≤ 40 := by rw [List.length_zip]; omega
  have h3 : (S.zip A).length * 200000001 ≤ 40 * 200000001 := Nat.mul_le_mul_right _ h2
  unfold linesL
  omega
/-- s[k:] -/
def cutA (a : Option Addr) (cap k c : Nat) : Option Addr := if cap = k then a else a.map (·.add (k * c))
section
variable {w : World} {sa : Option Addr} {S : List StepR} {aa : Option Addr} {A : List AnsR}
theorem Args.take (h : Args w sa S aa A) (k : Nat) : Args w sa (S.take k) aa (A.take k) where
  steps := by rw [← chunk_take StepR.cells 10 (fun _ => rfl)]; exact h.steps.take _
  answers := by rw [← chunk_take AnsR.cells 7 (fun _ => rfl)]; exact h.answers.take _
  ints := fun s hs => h.ints s (List.mem_of_mem_take hs)
  each := fun r hr => h.each r (List.mem_of_mem_take hr)
theorem Args.drop (h : Args w sa S aa A) (k sc ac : Nat) (hs : S.length ≤ sc) (ha : A.length ≤ ac) : Args w (cutA sa sc k 10) (S.drop k) (cutA aa ac k 7) (A.drop k) where
  steps := by
    unfold cutA
    split
    · rw [List.drop_of_length_le (by omega)]; exact Rd.nil _ _ _
    · rw [← chunk_drop StepR.cells 10 (fun _ => rfl)]; exact h.steps.drop _
  answers := by
    unfold cutA
    split
    · rw [List.drop_of_length_le (by omega)]; exact Rd.nil _ _ _
    · rw [← chunk_drop AnsR.cells 7 (fun _ => rfl)]; exact h.answers.drop _
  ints := fun s hs => h.ints s (List.mem_of_mem_drop hs)
  each := fun r hr => h.each r (List.mem_of_mem_drop hr)
end
theorem light_step {A : List AnsR} {j : Nat} {r : AnsR} (HE : Hid (A.take (j + 1) = A.take j ++ [r])) (h : Hid (∀ r ∈ A.take j, r.light)) (hr : r.light) : Hid (∀ r ∈ A.take (j + 1), r.light) := Lib.hid fun p hp => by
  rw [HE.out, List.mem_append, List.mem_singleton] at hp
  rcases hp with hp | rfl
  · exact h.out p hp
  · exact hr
def LinesC (w : World) (sa : Option Addr) (sn sc : Nat) (aa : Option Addr) (an ac : Nat) (X : ByteArray) : Prop :=
  ∀ W, Kp No w W → Calls Tryd.prog 9 #[.slice sa sn sc, .slice aa an ac] W fun e w' => e = .returned (.string X) ∧ Kp No W w'
theorem linesC {w : World} {sa : Option Addr} {S : List StepR} {aa : Option Addr} {A : List AnsR} (h : Args w sa S aa A) (ht : Pow w) (hS : S.length ≤ 40) (sn an sc ac : Nat) (hs : S.length = sn) (ha : A.length = an) : LinesC w sa sn sc aa an ac ⟨(linesL S A).toArray⟩ := by
  subst hs; subst ha
  exact fun W hW => Lines_any W sa sc S aa ac A (h.keep hW) hS (ht.keep hW)
set_option maxRecDepth 100000 in
set_option maxHeartbeats 4000000 in
theorem joins_in (w : World) (sa : Option Addr) (sc : Nat) (S : List StepR) (aa : Option Addr) (ac : Nat) (A : List AnsR) (cut : Int) (h : Args0 w sa S aa A) (hsc : S.length ≤ sc) (hac : A.length ≤ ac) (ht : Pow w) (hS : S.length ≤ 40) (hSA : A.length = S.length) :
    Calls Tryd.prog 4 #[.slice sa S.length sc, .slice aa S.length ac, .int .i64 cut] w fun e w' => e = .returned (.bool true) ∧ Kp No w w' := by
  obtain ⟨q, hq, hand⟩ := and_le cut 65535 (by decide)
  have hand' : bits .and .i64 cut 65535 = (q : Int) := hand
  obtain ⟨k, hk⟩ : ∃ k, k = q % (S.length + 1) := ⟨_, rfl⟩
  have hkl : k ≤ S.length := by
    have := Nat.mod_lt q (show 0 < S.length + 1 by omega)
    omega
  have hmod : (q : Int) % ((S.length : Int) + 1) = (k : Int) := by rw [hk]; simp
  have HA := Lib.hid h
  have HT := Lib.hid ht
  have HAnd := Lib.hid hand'
  have HMod := Lib.hid hmod
  have HSA := Lib.hid hSA
  clear h ht hand hk hand' hmod
  go_enter Tryd.func4, Tryd.ntmps4
  go_wp2_with fail
  go_loopw [7] (fun i wr => ∃ j : Nat, j ≤ S.length ∧ i = .int .i64 (j : Int) ∧ Hid (∀ r ∈ A.take j, r.light) ∧ Hid (Kp No w wr)) (fun i _ => S.length - (intOf i).toNat)
  case atStart => exact ⟨0, Nat.zero_le _, rfl, Lib.hid (by simp), Lib.hid (Kp.refl _ _)⟩
  case round =>
    obtain ⟨j, hj, rfl, HLI, HKP⟩ := hrel
    by_cases hlt : j < S.length
    · have hjA : j < A.length := by rw [HSA.out]; exact hlt
      obtain ⟨g, off, rfl, l1⟩ := rd_chunk (f := AnsR.cells) (c := 7) (fun _ => rfl) (by decide) HA.out.answers hjA
      have HE := Lib.hid (List.take_succ_eq_append_getElem hjA)
      have hat := (HA.out.each _ (List.getElem_mem hjA)).keep HKP
      obtain ⟨z1, z2, z3⟩ := HA.out.sizes _ (List.getElem_mem hjA)
      obtain ⟨r, hr⟩ : ∃ r, r = A[j] := ⟨_, rfl⟩
      rw [← hr] at l1 hat HE z1 z2 z3
      obtain ⟨err, n, mi, co, fo, a, cap, D, pa, pcap, PS⟩ := r
      have t0 := l1 wr HKP 0 _ rfl
      have t1 := l1 wr HKP 1 _ rfl
      have t2 := l1 wr HKP 2 _ rfl
      have t3 := l1 wr HKP 3 _ rfl
      have t4 := l1 wr HKP 4 _ rfl
      have t5 := l1 wr HKP 5 _ rfl
      have t6 := l1 wr HKP 6 _ rfl
      rw [Nat.add_zero] at t0
      have HH := Lib.hid (heavy_any wr err n mi co fo a cap D pa pcap PS hat.top z1 z2 z3)
      clear l1 hat hr z1 z2 z3 hjA
      go_wp2_with fail
      refine HH.out.mono ?_
      rintro e w1 ⟨b, rfl, hb, hk1⟩
      have HB := Lib.hid hb
      have HK1 := Lib.hid ((show Kp No w wr from HKP).trans_same hk1)
      clear hb hk1 t0 t1 t2 t3 t4 t5 t6
      cases b with
      | false =>
        go_wp2_with fail
        go_roundw
        case rel => exact ⟨j + 1, by omega, by go_num, light_step HE HLI (HB.out trivial), HK1⟩
        case measure => simp [intOf]; omega
      | true =>
        go_wp2_with fail
        go_ret
        exact ⟨rfl, HK1.out⟩
    · obtain rfl : j = S.length := by omega
      have hargs : Args w sa S aa A := ⟨HA.out.steps, HA.out.answers, HA.out.ints, fun r hr => ⟨HA.out.each r hr, HLI.out r (by rw [← HSA.out, List.take_length]; exact hr)⟩⟩
      have hSA := HSA.out
      have L1 := Lib.hid (linesC (hargs.take k) HT.out (by rw [List.length_take]; omega) k k sc ac (by rw [List.length_take]; omega) (by rw [List.length_take]; omega))
      have L2 := Lib.hid (linesC (hargs.drop k sc ac hsc (by omega)) HT.out (by rw [List.length_drop]; omega) (S.length - k) (S.length - k) (sc - k) (ac - k) (by rw [List.length_drop]) (by rw [List.length_drop]; omega))
      have L3 := Lib.hid (linesC hargs HT.out hS S.length S.length sc ac rfl hSA)
      have L4 := Lib.hid (linesC (⟨hargs.steps, Rd.nil _ _ _, hargs.ints, fun r hr => by cases hr⟩ : Args w sa S none []) HT.out hS S.length 0 sc 0 rfl rfl)
      have x1 := linesL_len (hargs.take k) (by rw [List.length_take]; omega)
      have x2 := linesL_len (hargs.drop k sc ac hsc (by omega)) (by rw [List.length_drop]; omega)
      have hX := linesL_split k S A hSA.symm
      rw [show linesL S [] = [] from by simp [linesL]] at L4
      obtain ⟨X1, hX1⟩ : ∃ X : ByteArray, X = ⟨(linesL (S.take k) (A.take k)).toArray⟩ := ⟨_, rfl⟩
      obtain ⟨X2, hX2⟩ : ∃ X : ByteArray, X = ⟨(linesL (S.drop k) (A.drop k)).toArray⟩ := ⟨_, rfl⟩
      obtain ⟨X3, hX3⟩ : ∃ X : ByteArray, X = ⟨(linesL S A).toArray⟩ := ⟨_, rfl⟩
      rw [← hX1] at L1
      rw [← hX2] at L2
      rw [← hX3] at L3
      have hX' : X1 ++ X2 = X3 := by
        rw [hX1, hX2, hX3, ← hX]
        apply ByteArray.ext
        simp
      have y1 : X1.size ≤ 9000000000 := by rw [hX1]; exact x1
      have y2 : X2.size ≤ 9000000000 := by rw [hX2]; exact x2
      unfold cutA at L2
      clear hargs
      by_cases hsk : sc = k
      · rw [if_pos hsk] at L2
        by_cases hak : ac = k
        · rw [if_pos hak] at L2
          obtain rfl : k = sc := hsk.symm
          obtain rfl : k = ac := hak.symm
          have h0 : S.length - k = 0 := by have := HSA.out; omega
          rw [h0, Nat.sub_self] at L2
          clear h0
          have hand' := HAnd.out
          have hmod := HMod.out
          clear hX hX1 hX2 hX3 x1 x2 hlt hSA
          go_wp2_with fail
          refine wp_region_ord [0,0,0,0,0,0,2,0,0,0,0,0,0,2,0,0,0,2,0,0,0,2,0,0,0,2,0,0] [0,1,2,3,4,5,7,8,9,10,11,12,15,16,6,13,14,17,18,19,20,21,22,23,24,25,26,27] (by kernel_rfl) (by kernel_rfl) ?_
          repeat (first
            | (apply wpOrd_skip rfl (by decide) rfl; (focus (go_simp; rfl)))
            | (apply wpOrd_pure rfl rfl rfl; (focus (intro _ _; go_simp; (try go_ints); rfl)); (focus (go_simp; rfl)))
            | (apply wpOrd_read rfl rfl rfl; (focus (intro _; go_simp; (try go_ints); rfl)); (focus (go_simp; rfl))))
          first
            | (refine wpOrd_pure rfl rfl rfl (v := .slice sa k k) ?_ rfl ?_; (focus (intro _ _; go_simp; (intro _; omega))))
            | skip
          repeat (first
            | (apply wpOrd_skip rfl (by decide) rfl; (focus (go_simp; rfl)))
            | (apply wpOrd_pure rfl rfl rfl; (focus (intro _ _; go_simp; (try go_ints); rfl)); (focus (go_simp; rfl)))
            | (apply wpOrd_read rfl rfl rfl; (focus (intro _; go_simp; (try go_ints); rfl)); (focus (go_simp; rfl))))
          first
            | (refine wpOrd_pure rfl rfl rfl (v := .slice aa k k) ?_ rfl ?_; (focus (intro _ _; go_simp; (intro _; omega))))
            | skip
          repeat (first
            | (apply wpOrd_skip rfl (by decide) rfl; (focus (go_simp; rfl)))
            | (apply wpOrd_pure rfl rfl rfl; (focus (intro _ _; go_simp; (try go_ints); rfl)); (focus (go_simp; rfl)))
            | (apply wpOrd_read rfl rfl rfl; (focus (intro _; go_simp; (try go_ints); rfl)); (focus (go_simp; rfl))))
          refine wpOrd_eff rfl rfl (fun n1 => ?_)
          go_wp2_with fail
          refine (L1.out _ ((show Kp No w wr from HKP).drewN n1)).mono ?_
          rintro e w4 ⟨rfl, hk4⟩
          have HK4 := Lib.hid ((show Kp No w wr from HKP).trans_same hk4.of_drewN)
          clear hk4
          go_wp2_with fail
          repeat (first
            | (apply wpOrd_skip rfl (by decide) rfl; (focus (go_simp; rfl)))
            | (apply wpOrd_pure rfl rfl rfl; (focus (intro _ _; go_simp; (try go_ints); rfl)); (focus (go_simp; rfl)))
            | (apply wpOrd_read rfl rfl rfl; (focus (intro _; go_simp; (try go_ints); rfl)); (focus (go_simp; rfl))))
          refine wpOrd_eff rfl rfl (fun n2 => ?_)
          go_wp2_with fail
          have hcc := L2.out _ (HK4.out.drewN n2)
          with_reducible refine hcc.mono ?_
          rintro e w5 ⟨rfl, hk5⟩
          have HK5 := Lib.hid (HK4.out.trans_same hk5.of_drewN)
          clear hk5
          go_wp2_with fail
          refine wpOrd_pure rfl rfl rfl (v := .string X3) ?_ rfl ?_
          · intro _ _
            go_simp
            (try rw [← hX'])
            first | done | omega | (refine ⟨?_, ?_⟩ <;> first | rfl | omega)
            repeat (first
              | (apply wpOrd_skip rfl (by decide) rfl; (focus (go_simp; rfl)))
              | (apply wpOrd_pure rfl rfl rfl; (focus (intro _ _; go_simp; (try go_ints); rfl)); (focus (go_simp; rfl)))
              | (apply wpOrd_read rfl rfl rfl; (focus (intro _; go_simp; (try go_ints); rfl)); (focus (go_simp; rfl))))
          refine wpOrd_eff rfl rfl (fun n3 => ?_)
          go_wp2_with fail
          refine (L3.out _ (HK5.out.drewN n3)).mono ?_
          rintro e w6 ⟨rfl, hk6⟩
          have HK6 := Lib.hid (HK5.out.trans_same hk6.of_drewN)
          clear hk6
          go_wp2_with fail
          repeat (first
            | (apply wpOrd_skip rfl (by decide) rfl; (focus (go_simp; rfl)))
            | (apply wpOrd_pure rfl rfl rfl; (focus (intro _ _; go_simp; (try go_ints); rfl)); (focus (go_simp; rfl)))
            | (apply wpOrd_read rfl rfl rfl; (focus (intro _; go_simp; (try go_ints); rfl)); (focus (go_simp; rfl))))
          refine wpOrd_eff rfl rfl (fun n4 => ?_)
          go_wp2_with fail
          refine (L4.out _ (HK6.out.drewN n4)).mono ?_
          rintro e w7 ⟨rfl, hk7⟩
          have HK7 := Lib.hid (HK6.out.trans_same hk7.of_drewN)
          clear hk7
          go_wp2_with fail
          repeat (first
            | (apply wpOrd_skip rfl (by decide) rfl; (focus (go_simp; rfl)))
            | (apply wpOrd_pure rfl rfl rfl; (focus (intro _ _; go_simp; (try go_ints); rfl)); (focus (go_simp; rfl)))
            | (apply wpOrd_read rfl rfl rfl; (focus (intro _; go_simp; (try go_ints); rfl)); (focus (go_simp; rfl))))
          refine wpOrd_eff rfl rfl (fun n5 => ?_)
          go_wp2_with fail
          refine (known_any _).mono ?_
          rintro e w8 ⟨rfl, hk8⟩
          have HK8 := Lib.hid (HK7.out.trans_same hk8.of_drewN)
          clear hk8
          go_wp2_with fail
          repeat (first
            | (apply wpOrd_skip rfl (by decide) rfl; (focus (go_simp; rfl)))
            | (apply wpOrd_pure rfl rfl rfl; (focus (intro _ _; go_simp; (try go_ints); rfl)); (focus (go_simp; rfl)))
            | (apply wpOrd_read rfl rfl rfl; (focus (intro _; go_simp; (try go_ints); rfl)); (focus (go_simp; rfl))))
          refine wpOrd_nil (fun nq => ?_)
          go_wp2_with fail
          go_ret
          exact ⟨rfl, HK8.out.drewN _⟩
        · rw [if_neg hak] at L2
          obtain rfl : k = sc := hsk.symm
          have h0 : S.length - k = 0 := by have := HSA.out; omega
          rw [h0, Nat.sub_self] at L2
          clear h0
          have hand' := HAnd.out
          have hmod := HMod.out
          clear hX hX1 hX2 hX3 x1 x2 hlt hSA
          go_wp2_with fail
          refine wp_region_ord [0,0,0,0,0,0,2,0,0,0,0,0,0,2,0,0,0,2,0,0,0,2,0,0,0,2,0,0] [0,1,2,3,4,5,7,8,9,10,11,12,15,16,6,13,14,17,18,19,20,21,22,23,24,25,26,27] (by kernel_rfl) (by kernel_rfl) ?_
          repeat (first
            | (apply wpOrd_skip rfl (by decide) rfl; (focus (go_simp; rfl)))
            | (apply wpOrd_pure rfl rfl rfl; (focus (intro _ _; go_simp; (try go_ints); rfl)); (focus (go_simp; rfl)))
            | (apply wpOrd_read rfl rfl rfl; (focus (intro _; go_simp; (try go_ints); rfl)); (focus (go_simp; rfl))))
          first
            | (refine wpOrd_pure rfl rfl rfl (v := .slice sa k k) ?_ rfl ?_; (focus (intro _ _; go_simp; (intro _; omega))))
            | skip
          repeat (first
            | (apply wpOrd_skip rfl (by decide) rfl; (focus (go_simp; rfl)))
            | (apply wpOrd_pure rfl rfl rfl; (focus (intro _ _; go_simp; (try go_ints); rfl)); (focus (go_simp; rfl)))
            | (apply wpOrd_read rfl rfl rfl; (focus (intro _; go_simp; (try go_ints); rfl)); (focus (go_simp; rfl))))
          first
            | (refine wpOrd_pure rfl rfl rfl (v := .slice aa k ac) ?_ rfl ?_; (focus (intro _ _; go_simp; (intro _; omega))))
            | skip
          repeat (first
            | (apply wpOrd_skip rfl (by decide) rfl; (focus (go_simp; rfl)))
            | (apply wpOrd_pure rfl rfl rfl; (focus (intro _ _; go_simp; (try go_ints); rfl)); (focus (go_simp; rfl)))
            | (apply wpOrd_read rfl rfl rfl; (focus (intro _; go_simp; (try go_ints); rfl)); (focus (go_simp; rfl))))
          refine wpOrd_eff rfl rfl (fun n1 => ?_)
          go_wp2_with fail
          refine (L1.out _ ((show Kp No w wr from HKP).drewN n1)).mono ?_
          rintro e w4 ⟨rfl, hk4⟩
          have HK4 := Lib.hid ((show Kp No w wr from HKP).trans_same hk4.of_drewN)
          clear hk4
          go_wp2_with fail
          repeat (first
            | (apply wpOrd_skip rfl (by decide) rfl; (focus (go_simp; rfl)))
            | (apply wpOrd_pure rfl rfl rfl; (focus (intro _ _; go_simp; (try go_ints); rfl)); (focus (go_simp; rfl)))
            | (apply wpOrd_read rfl rfl rfl; (focus (intro _; go_simp; (try go_ints); rfl)); (focus (go_simp; rfl))))
          refine wpOrd_eff rfl rfl (fun n2 => ?_)
          go_wp2_with fail
          have hcc := L2.out _ (HK4.out.drewN n2)
          with_reducible refine hcc.mono ?_
          rintro e w5 ⟨rfl, hk5⟩
          have HK5 := Lib.hid (HK4.out.trans_same hk5.of_drewN)
          clear hk5
          go_wp2_with fail
          refine wpOrd_pure rfl rfl rfl (v := .string X3) ?_ rfl ?_
          · intro _ _
            go_simp
            (try rw [← hX'])
            first | done | omega | (refine ⟨?_, ?_⟩ <;> first | rfl | omega)
            repeat (first
              | (apply wpOrd_skip rfl (by decide) rfl; (focus (go_simp; rfl)))
              | (apply wpOrd_pure rfl rfl rfl; (focus (intro _ _; go_simp; (try go_ints); rfl)); (focus (go_simp; rfl)))
              | (apply wpOrd_read rfl rfl rfl; (focus (intro _; go_simp; (try go_ints); rfl)); (focus (go_simp; rfl))))
          refine wpOrd_eff rfl rfl (fun n3 => ?_)
          go_wp2_with fail
          refine (L3.out _ (HK5.out.drewN n3)).mono ?_
          rintro e w6 ⟨rfl, hk6⟩
          have HK6 := Lib.hid (HK5.out.trans_same hk6.of_drewN)
          clear hk6
          go_wp2_with fail
          repeat (first
            | (apply wpOrd_skip rfl (by decide) rfl; (focus (go_simp; rfl)))
            | (apply wpOrd_pure rfl rfl rfl; (focus (intro _ _; go_simp; (try go_ints); rfl)); (focus (go_simp; rfl)))
            | (apply wpOrd_read rfl rfl rfl; (focus (intro _; go_simp; (try go_ints); rfl)); (focus (go_simp; rfl))))
          refine wpOrd_eff rfl rfl (fun n4 => ?_)
          go_wp2_with fail
          refine (L4.out _ (HK6.out.drewN n4)).mono ?_
          rintro e w7 ⟨rfl, hk7⟩
          have HK7 := Lib.hid (HK6.out.trans_same hk7.of_drewN)
          clear hk7
          go_wp2_with fail
          repeat (first
            | (apply wpOrd_skip rfl (by decide) rfl; (focus (go_simp; rfl)))
            | (apply wpOrd_pure rfl rfl rfl; (focus (intro _ _; go_simp; (try go_ints); rfl)); (focus (go_simp; rfl)))
            | (apply wpOrd_read rfl rfl rfl; (focus (intro _; go_simp; (try go_ints); rfl)); (focus (go_simp; rfl))))
          refine wpOrd_eff rfl rfl (fun n5 => ?_)
          go_wp2_with fail
          refine (known_any _).mono ?_
          rintro e w8 ⟨rfl, hk8⟩
          have HK8 := Lib.hid (HK7.out.trans_same hk8.of_drewN)
          clear hk8
          go_wp2_with fail
          repeat (first
            | (apply wpOrd_skip rfl (by decide) rfl; (focus (go_simp; rfl)))
            | (apply wpOrd_pure rfl rfl rfl; (focus (intro _ _; go_simp; (try go_ints); rfl)); (focus (go_simp; rfl)))
            | (apply wpOrd_read rfl rfl rfl; (focus (intro _; go_simp; (try go_ints); rfl)); (focus (go_simp; rfl))))
          refine wpOrd_nil (fun nq => ?_)
          go_wp2_with fail
          go_ret
          exact ⟨rfl, HK8.out.drewN _⟩
      · rw [if_neg hsk] at L2
        by_cases hak : ac = k
        · rw [if_pos hak] at L2
          obtain rfl : k = ac := hak.symm
          rw [Nat.sub_self] at L2
          have hand' := HAnd.out
          have hmod := HMod.out
          clear hX hX1 hX2 hX3 x1 x2 hlt hSA
          go_wp2_with fail
          refine wp_region_ord [0,0,0,0,0,0,2,0,0,0,0,0,0,2,0,0,0,2,0,0,0,2,0,0,0,2,0,0] [0,1,2,3,4,5,7,8,9,10,11,12,15,16,6,13,14,17,18,19,20,21,22,23,24,25,26,27] (by kernel_rfl) (by kernel_rfl) ?_
          repeat (first
            | (apply wpOrd_skip rfl (by decide) rfl; (focus (go_simp; rfl)))
            | (apply wpOrd_pure rfl rfl rfl; (focus (intro _ _; go_simp; (try go_ints); rfl)); (focus (go_simp; rfl)))
            | (apply wpOrd_read rfl rfl rfl; (focus (intro _; go_simp; (try go_ints); rfl)); (focus (go_simp; rfl))))
          first
            | (refine wpOrd_pure rfl rfl rfl (v := .slice sa k sc) ?_ rfl ?_; (focus (intro _ _; go_simp; (intro _; omega))))
            | skip
          repeat (first
            | (apply wpOrd_skip rfl (by decide) rfl; (focus (go_simp; rfl)))
            | (apply wpOrd_pure rfl rfl rfl; (focus (intro _ _; go_simp; (try go_ints); rfl)); (focus (go_simp; rfl)))
            | (apply wpOrd_read rfl rfl rfl; (focus (intro _; go_simp; (try go_ints); rfl)); (focus (go_simp; rfl))))
          first
            | (refine wpOrd_pure rfl rfl rfl (v := .slice aa k k) ?_ rfl ?_; (focus (intro _ _; go_simp; (intro _; omega))))
            | skip
          repeat (first
            | (apply wpOrd_skip rfl (by decide) rfl; (focus (go_simp; rfl)))
            | (apply wpOrd_pure rfl rfl rfl; (focus (intro _ _; go_simp; (try go_ints); rfl)); (focus (go_simp; rfl)))
            | (apply wpOrd_read rfl rfl rfl; (focus (intro _; go_simp; (try go_ints); rfl)); (focus (go_simp; rfl))))
          refine wpOrd_eff rfl rfl (fun n1 => ?_)
          go_wp2_with fail
          refine (L1.out _ ((show Kp No w wr from HKP).drewN n1)).mono ?_
          rintro e w4 ⟨rfl, hk4⟩
          have HK4 := Lib.hid ((show Kp No w wr from HKP).trans_same hk4.of_drewN)
          clear hk4
          go_wp2_with fail
          repeat (first
            | (apply wpOrd_skip rfl (by decide) rfl; (focus (go_simp; rfl)))
            | (apply wpOrd_pure rfl rfl rfl; (focus (intro _ _; go_simp; (try go_ints); rfl)); (focus (go_simp; rfl)))
            | (apply wpOrd_read rfl rfl rfl; (focus (intro _; go_simp; (try go_ints); rfl)); (focus (go_simp; rfl))))
          refine wpOrd_eff rfl rfl (fun n2 => ?_)
          go_wp2_with fail
          have hcc := L2.out _ (HK4.out.drewN n2)
          with_reducible refine hcc.mono ?_
          rintro e w5 ⟨rfl, hk5⟩
          have HK5 := Lib.hid (HK4.out.trans_same hk5.of_drewN)
          clear hk5
          go_wp2_with fail
          refine wpOrd_pure rfl rfl rfl (v := .string X3) ?_ rfl ?_
          · intro _ _
            go_simp
            (try rw [← hX'])
            first | done | omega | (refine ⟨?_, ?_⟩ <;> first | rfl | omega)
            repeat (first
              | (apply wpOrd_skip rfl (by decide) rfl; (focus (go_simp; rfl)))
              | (apply wpOrd_pure rfl rfl rfl; (focus (intro _ _; go_simp; (try go_ints); rfl)); (focus (go_simp; rfl)))
              | (apply wpOrd_read rfl rfl rfl; (focus (intro _; go_simp; (try go_ints); rfl)); (focus (go_simp; rfl))))
          refine wpOrd_eff rfl rfl (fun n3 => ?_)
          go_wp2_with fail
          refine (L3.out _ (HK5.out.drewN n3)).mono ?_
          rintro e w6 ⟨rfl, hk6⟩
          have HK6 := Lib.hid (HK5.out.trans_same hk6.of_drewN)
          clear hk6
          go_wp2_with fail
          repeat (first
            | (apply wpOrd_skip rfl (by decide) rfl; (focus (go_simp; rfl)))
            | (apply wpOrd_pure rfl rfl rfl; (focus (intro _ _; go_simp; (try go_ints); rfl)); (focus (go_simp; rfl)))
            | (apply wpOrd_read rfl rfl rfl; (focus (intro _; go_simp; (try go_ints); rfl)); (focus (go_simp; rfl))))
          refine wpOrd_eff rfl rfl (fun n4 => ?_)
          go_wp2_with fail
          refine (L4.out _ (HK6.out.drewN n4)).mono ?_
          rintro e w7 ⟨rfl, hk7⟩
          have HK7 := Lib.hid (HK6.out.trans_same hk7.of_drewN)
          clear hk7
          go_wp2_with fail
          repeat (first
            | (apply wpOrd_skip rfl (by decide) rfl; (focus (go_simp; rfl)))
            | (apply wpOrd_pure rfl rfl rfl; (focus (intro _ _; go_simp; (try go_ints); rfl)); (focus (go_simp; rfl)))
            | (apply wpOrd_read rfl rfl rfl; (focus (intro _; go_simp; (try go_ints); rfl)); (focus (go_simp; rfl))))
          refine wpOrd_eff rfl rfl (fun n5 => ?_)
          go_wp2_with fail
          refine (known_any _).mono ?_
          rintro e w8 ⟨rfl, hk8⟩
          have HK8 := Lib.hid (HK7.out.trans_same hk8.of_drewN)
          clear hk8
          go_wp2_with fail
          repeat (first
            | (apply wpOrd_skip rfl (by decide) rfl; (focus (go_simp; rfl)))
            | (apply wpOrd_pure rfl rfl rfl; (focus (intro _ _; go_simp; (try go_ints); rfl)); (focus (go_simp; rfl)))
            | (apply wpOrd_read rfl rfl rfl; (focus (intro _; go_simp; (try go_ints); rfl)); (focus (go_simp; rfl))))
          refine wpOrd_nil (fun nq => ?_)
          go_wp2_with fail
          go_ret
          exact ⟨rfl, HK8.out.drewN _⟩
        · rw [if_neg hak] at L2
          have hand' := HAnd.out
          have hmod := HMod.out
          clear hX hX1 hX2 hX3 x1 x2 hlt hSA
          go_wp2_with fail
          refine wp_region_ord [0,0,0,0,0,0,2,0,0,0,0,0,0,2,0,0,0,2,0,0,0,2,0,0,0,2,0,0] [0,1,2,3,4,5,7,8,9,10,11,12,15,16,6,13,14,17,18,19,20,21,22,23,24,25,26,27] (by kernel_rfl) (by kernel_rfl) ?_
          repeat (first
            | (apply wpOrd_skip rfl (by decide) rfl; (focus (go_simp; rfl)))
            | (apply wpOrd_pure rfl rfl rfl; (focus (intro _ _; go_simp; (try go_ints); rfl)); (focus (go_simp; rfl)))
            | (apply wpOrd_read rfl rfl rfl; (focus (intro _; go_simp; (try go_ints); rfl)); (focus (go_simp; rfl))))
          first
            | (refine wpOrd_pure rfl rfl rfl (v := .slice sa k sc) ?_ rfl ?_; (focus (intro _ _; go_simp; (intro _; omega))))
            | skip
          repeat (first
            | (apply wpOrd_skip rfl (by decide) rfl; (focus (go_simp; rfl)))
            | (apply wpOrd_pure rfl rfl rfl; (focus (intro _ _; go_simp; (try go_ints); rfl)); (focus (go_simp; rfl)))
            | (apply wpOrd_read rfl rfl rfl; (focus (intro _; go_simp; (try go_ints); rfl)); (focus (go_simp; rfl))))
          first
            | (refine wpOrd_pure rfl rfl rfl (v := .slice aa k ac) ?_ rfl ?_; (focus (intro _ _; go_simp; (intro _; omega))))
            | skip
          repeat (first
            | (apply wpOrd_skip rfl (by decide) rfl; (focus (go_simp; rfl)))
            | (apply wpOrd_pure rfl rfl rfl; (focus (intro _ _; go_simp; (try go_ints); rfl)); (focus (go_simp; rfl)))
            | (apply wpOrd_read rfl rfl rfl; (focus (intro _; go_simp; (try go_ints); rfl)); (focus (go_simp; rfl))))
          refine wpOrd_eff rfl rfl (fun n1 => ?_)
          go_wp2_with fail
          refine (L1.out _ ((show Kp No w wr from HKP).drewN n1)).mono ?_
          rintro e w4 ⟨rfl, hk4⟩
          have HK4 := Lib.hid ((show Kp No w wr from HKP).trans_same hk4.of_drewN)
          clear hk4
          go_wp2_with fail
          repeat (first
            | (apply wpOrd_skip rfl (by decide) rfl; (focus (go_simp; rfl)))
            | (apply wpOrd_pure rfl rfl rfl; (focus (intro _ _; go_simp; (try go_ints); rfl)); (focus (go_simp; rfl)))
            | (apply wpOrd_read rfl rfl rfl; (focus (intro _; go_simp; (try go_ints); rfl)); (focus (go_simp; rfl))))
          refine wpOrd_eff rfl rfl (fun n2 => ?_)
          go_wp2_with fail
          have hcc := L2.out _ (HK4.out.drewN n2)
          with_reducible refine hcc.mono ?_
          rintro e w5 ⟨rfl, hk5⟩
          have HK5 := Lib.hid (HK4.out.trans_same hk5.of_drewN)
          clear hk5
          go_wp2_with fail
          refine wpOrd_pure rfl rfl rfl (v := .string X3) ?_ rfl ?_
          · intro _ _
            go_simp
            (try rw [← hX'])
            first | done | omega | (refine ⟨?_, ?_⟩ <;> first | rfl | omega)
            repeat (first
              | (apply wpOrd_skip rfl (by decide) rfl; (focus (go_simp; rfl)))
              | (apply wpOrd_pure rfl rfl rfl; (focus (intro _ _; go_simp; (try go_ints); rfl)); (focus (go_simp; rfl)))
              | (apply wpOrd_read rfl rfl rfl; (focus (intro _; go_simp; (try go_ints); rfl)); (focus (go_simp; rfl))))
          refine wpOrd_eff rfl rfl (fun n3 => ?_)
          go_wp2_with fail
          refine (L3.out _ (HK5.out.drewN n3)).mono ?_
          rintro e w6 ⟨rfl, hk6⟩
          have HK6 := Lib.hid (HK5.out.trans_same hk6.of_drewN)
          clear hk6
          go_wp2_with fail
          repeat (first
            | (apply wpOrd_skip rfl (by decide) rfl; (focus (go_simp; rfl)))
            | (apply wpOrd_pure rfl rfl rfl; (focus (intro _ _; go_simp; (try go_ints); rfl)); (focus (go_simp; rfl)))
            | (apply wpOrd_read rfl rfl rfl; (focus (intro _; go_simp; (try go_ints); rfl)); (focus (go_simp; rfl))))
          refine wpOrd_eff rfl rfl (fun n4 => ?_)
          go_wp2_with fail
          refine (L4.out _ (HK6.out.drewN n4)).mono ?_
          rintro e w7 ⟨rfl, hk7⟩
          have HK7 := Lib.hid (HK6.out.trans_same hk7.of_drewN)
          clear hk7
          go_wp2_with fail
          repeat (first
            | (apply wpOrd_skip rfl (by decide) rfl; (focus (go_simp; rfl)))
            | (apply wpOrd_pure rfl rfl rfl; (focus (intro _ _; go_simp; (try go_ints); rfl)); (focus (go_simp; rfl)))
            | (apply wpOrd_read rfl rfl rfl; (focus (intro _; go_simp; (try go_ints); rfl)); (focus (go_simp; rfl))))
          refine wpOrd_eff rfl rfl (fun n5 => ?_)
          go_wp2_with fail
          refine (known_any _).mono ?_
          rintro e w8 ⟨rfl, hk8⟩
          have HK8 := Lib.hid (HK7.out.trans_same hk8.of_drewN)
          clear hk8
          go_wp2_with fail
          repeat (first
            | (apply wpOrd_skip rfl (by decide) rfl; (focus (go_simp; rfl)))
            | (apply wpOrd_pure rfl rfl rfl; (focus (intro _ _; go_simp; (try go_ints); rfl)); (focus (go_simp; rfl)))
            | (apply wpOrd_read rfl rfl rfl; (focus (intro _; go_simp; (try go_ints); rfl)); (focus (go_simp; rfl))))
          refine wpOrd_nil (fun nq => ?_)
          go_wp2_with fail
          go_ret
          exact ⟨rfl, HK8.out.drewN _⟩
end Go.Proofs.YthkbcfenjodbmaaDoor
