/-
  How long a day is: Length, the program's and the reference's.
-/
import Derived.Test.YtapikolgpmefbaaGreatDoorLOff
namespace Go.Proofs.YtapikolgpmefbaaGreatDoor
open Go.RowKit Go.Mer

def nextF (d : Int) : Int := if d < 9223372036854775807 then d + 1 else d
def lenF (L : List (Int × Int)) (n d : Int) : Int := 86400 + offF L n (nextF d) - offF L n d
theorem leapsF_all {L : List (Int × Int)} (h : leapsF [] L = true) : ∀ x ∈ L, inF x.1 = true ∧ 0 ≤ x.2 ∧ x.2 ≤ 1000 := fun x hx => by
  obtain ⟨i, hi⟩ := List.mem_iff_getElem?.1 hx
  have := followF_off ((leapsF_iff L []).1 h i x hi)
  exact ⟨this.1, this.2.1, this.2.2.1⟩
theorem offG_in (d : Int) (P : Int → Prop) (L : List (Int × Int)) (h : ∀ x ∈ L, P x.2) : ∀ c, P c → P (offG d c L) := by
  induction L with
  | nil => intro c hc; exact hc
  | cons x r ih =>
    intro c hc
    refine ih (fun y hy => h y (List.mem_cons_of_mem _ hy)) _ ?_
    split
    · exact h x (List.mem_cons_self ..)
    · exact hc
theorem offF_in (L : List (Int × Int)) (n d : Int) : 0 ≤ offF L n d ∧ offF L n d ≤ 1000 := by
  unfold offF
  by_cases h : isF L n = true
  · rw [if_pos h]
    unfold isF at h
    rw [Bool.and_eq_true] at h
    have ha := leapsF_all h.1
    refine offG_in d (fun c => 0 ≤ c ∧ c ≤ 1000) L (fun x hx => (ha x hx).2) _ ?_
    cases L with
    | nil => exact ⟨by decide, by decide⟩
    | cons x r => exact (ha x (List.mem_cons_self ..)).2
  · rw [if_neg h]; exact ⟨by decide, by decide⟩
theorem Length_leap (L : List (Int × Int)) (n d : Int) (w : World) (a : Option Addr) (cap B : Nat) (hR : Rd w B a (tbV L)) (hl : L.length ≤ 1000000) (hcap : L.length ≤ cap) (hd : -9223372036854775808 ≤ d ∧ d ≤ 9223372036854775807) : Calls Tryz.prog 23 #[.agg #[.slice a L.length cap, .int .i64 n], .int .i64 d] w fun e w' => e = .returned (.int .i64 (lenF L n d)) ∧ Kp No w w' := by
  have HOF := Lib.hid (fun (x : Int) (W : World) (hW : Kp No w W) => Offset_any L n x W a cap B (hR.keep hW fun _ _ x => x) hl hcap)
  obtain ⟨r, hr⟩ : ∃ r, r = lenF L n d := ⟨_, rfl⟩
  rw [← hr]
  unfold lenF at hr
  obtain ⟨K, hK⟩ : ∃ K, K = L.length := ⟨_, rfl⟩
  rw [← hK] at HOF
  rw [← hK]
  obtain ⟨W0, hW0⟩ : ∃ W0, W0 = w.alloc (.cells #[.slice a K cap, .int .i64 n] 24 (0, 0)) := ⟨_, rfl⟩
  have hb : W0.heap[w.heap.size]? = some (.cells #[.slice a K cap, .int .i64 n] 24 (0, 0)) := by rw [hW0]; exact heap_alloc_new w _
  have c0 : ∀ W, Kp No W0 W → W.cell? ⟨w.heap.size, 0, none⟩ = some (.slice a K cap) := fun W h => by rw [cell_at (h.get hb fun x => x)]; rfl
  have c1 : ∀ W, Kp No W0 W → W.cell? ⟨w.heap.size, 1, none⟩ = some (.int .i64 n) := fun W h => by rw [cell_at (h.get hb fun x => x)]; rfl
  have HK0 := Lib.hid (show Kp No w W0 by rw [hW0]; exact (Kp.refl _ _).alloc _)
  obtain ⟨o1, ho1⟩ : ∃ o, o = offF L n (nextF d) := ⟨_, rfl⟩
  obtain ⟨o2, ho2⟩ : ∃ o, o = offF L n d := ⟨_, rfl⟩
  have hb1 := offF_in L n (nextF d)
  have hb2 := offF_in L n d
  rw [← ho1] at hb1
  rw [← ho2] at hb2
  rw [← ho1, ← ho2] at hr
  have HE1 := Lib.hid ho1
  have HE2 := Lib.hid ho2
  obtain ⟨s, hs⟩ : ∃ s, s = 86400 + o1 := ⟨_, rfl⟩
  have hw1 : wrap64 (86400 + o1) = s := by rw [hs]; exact IntWalk.wrap64_in _ (by omega)
  have hw2 : wrap64 (s - o2) = r := by rw [hs, hr]; exact IntWalk.wrap64_in _ (by omega)
  clear hr hb hR hl hK ho1 ho2 hb1 hb2 hs
  rcases Int.lt_or_le d 9223372036854775807 with h | h
  · have hdc : decide (d < 9223372036854775807) = true := decide_eq_true h
    have hn : wrap64 (d + 1) = nextF d := by rw [nextF, if_pos h]; exact IntWalk.wrap64_in _ (by omega)
    clear h hd
    go_enter Tryz.func23, Tryz.ntmps23
    go_wp2_with fail
    rw [← hW0]
    clear hW0
    refine wp_region_held' (Kp No _) [0,0,2,0,0,0,2,0,0] [0,1,4,5,2,3,6,7,8] (by kernel_rfl) (by kernel_rfl) (fun _ n h => h.drewN n) (Kp.refl _ _) ?_
    repeat (first
      | (apply wpOrd_skip rfl (by decide) rfl; (focus (go_simp; rfl)))
      | (apply wpOrd_pure rfl rfl rfl; (focus (intro _ _; go_simp; (try go_ints); rfl)); (focus (go_simp; rfl)))
      | (apply wpOrd_read rfl rfl rfl; (focus (intro _; go_simp; (try go_ints); rfl)); (focus (go_simp; rfl))))
    refine wpOrd_eff rfl rfl (fun n1 => ?_)
    go_wp2_with fail
    refine (HOF.out _ _ (HK0.out.drewN n1)).mono ?_
    rintro e w2 ⟨rfl, hk2⟩
    have h2 : Kp No W0 w2 := hk2.of_drewN
    rw [← HE1.out]
    clear hk2
    go_wp2_with fail
    repeat (first
      | (apply wpOrd_skip rfl (by decide) rfl; (focus (go_simp; rfl)))
      | (apply wpOrd_pure rfl rfl rfl; (focus (intro _ _; go_simp; (try go_ints); rfl)); (focus (go_simp; rfl)))
      | (apply wpOrd_read rfl rfl rfl; (focus (intro _; go_simp; (try go_ints); rfl)); (focus (go_simp; rfl))))
    refine wpOrd_eff rfl rfl (fun n2 => ?_)
    go_wp2_with fail
    refine (HOF.out _ _ ((HK0.out.trans_same h2).drewN n2)).mono ?_
    rintro e w3 ⟨rfl, hk3⟩
    have h3 : Kp No W0 w3 := (h2.drewN n2).trans_same hk3
    rw [← HE2.out]
    clear hk3
    go_wp2_with fail
    repeat (first
      | (apply wpOrd_skip rfl (by decide) rfl; (focus (go_simp; rfl)))
      | (apply wpOrd_pure rfl rfl rfl; (focus (intro _ _; go_simp; (try go_ints); rfl)); (focus (go_simp; rfl)))
      | (apply wpOrd_read rfl rfl rfl; (focus (intro _; go_simp; (try go_ints); rfl)); (focus (go_simp; rfl))))
    refine wpOrd_nil (fun nq => ?_)
    have H3 := Lib.hid (HK0.out.trans_same h3)
    clear h3 h2 c0 c1
    go_wp2_with fail
    go_ret
    exact ⟨rfl, H3.out.drewN _⟩
  · have hdc : decide (d < 9223372036854775807) = false := by rw [decide_eq_false_iff_not]; omega
    have hn : d = nextF d := by rw [nextF, if_neg (by omega)]
    rw [← hn] at HE1
    clear h hd hn
    go_enter Tryz.func23, Tryz.ntmps23
    go_wp2_with fail
    rw [← hW0]
    clear hW0
    refine wp_region_held' (Kp No _) [0,0,2,0,0,0,2,0,0] [0,1,4,5,2,3,6,7,8] (by kernel_rfl) (by kernel_rfl) (fun _ n h => h.drewN n) (Kp.refl _ _) ?_
    repeat (first
      | (apply wpOrd_skip rfl (by decide) rfl; (focus (go_simp; rfl)))
      | (apply wpOrd_pure rfl rfl rfl; (focus (intro _ _; go_simp; (try go_ints); rfl)); (focus (go_simp; rfl)))
      | (apply wpOrd_read rfl rfl rfl; (focus (intro _; go_simp; (try go_ints); rfl)); (focus (go_simp; rfl))))
    refine wpOrd_eff rfl rfl (fun n1 => ?_)
    go_wp2_with fail
    refine (HOF.out _ _ (HK0.out.drewN n1)).mono ?_
    rintro e w2 ⟨rfl, hk2⟩
    have h2 : Kp No W0 w2 := hk2.of_drewN
    rw [← HE1.out]
    clear hk2
    go_wp2_with fail
    repeat (first
      | (apply wpOrd_skip rfl (by decide) rfl; (focus (go_simp; rfl)))
      | (apply wpOrd_pure rfl rfl rfl; (focus (intro _ _; go_simp; (try go_ints); rfl)); (focus (go_simp; rfl)))
      | (apply wpOrd_read rfl rfl rfl; (focus (intro _; go_simp; (try go_ints); rfl)); (focus (go_simp; rfl))))
    refine wpOrd_eff rfl rfl (fun n2 => ?_)
    go_wp2_with fail
    refine (HOF.out _ _ ((HK0.out.trans_same h2).drewN n2)).mono ?_
    rintro e w3 ⟨rfl, hk3⟩
    have h3 : Kp No W0 w3 := (h2.drewN n2).trans_same hk3
    rw [← HE2.out]
    clear hk3
    go_wp2_with fail
    repeat (first
      | (apply wpOrd_skip rfl (by decide) rfl; (focus (go_simp; rfl)))
      | (apply wpOrd_pure rfl rfl rfl; (focus (intro _ _; go_simp; (try go_ints); rfl)); (focus (go_simp; rfl)))
      | (apply wpOrd_read rfl rfl rfl; (focus (intro _; go_simp; (try go_ints); rfl)); (focus (go_simp; rfl))))
    refine wpOrd_nil (fun nq => ?_)
    have H3 := Lib.hid (HK0.out.trans_same h3)
    clear h3 h2 c0 c1
    go_wp2_with fail
    go_ret
    exact ⟨rfl, H3.out.drewN _⟩
end Go.Proofs.YtapikolgpmefbaaGreatDoor
