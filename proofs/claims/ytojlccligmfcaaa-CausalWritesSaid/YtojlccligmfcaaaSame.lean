/-
  Two rows of bytes the same.
-/
import Derived.Test.YtojlccligmfcaaaProg
import Derived.Test.YtojlccligmfcaaaRegion
import Derived.Test.YtojlccligmfcaaaMem
import Derived.WalkKit
import Derived.Deep.LoopGhost
import Derived.Lib.Hide
namespace Go.Proofs.Ytojlccligmfcaaa
open Go.RowKit Go.Mer

theorem u8_ne {x y : UInt8} (h : ¬ x = y) : ((x.toNat : Int) != (y.toNat : Int)) = true := by
  simp only [bne_iff_ne, ne_eq, Int.natCast_inj]
  exact fun e => h (UInt8.toNat_inj.1 e)

set_option maxHeartbeats 400000 in
theorem same_any (a b : Option Addr) (c d B B' : Nat) (xs ys : List UInt8) (w : World) (hx : Rd w B a (u8s xs)) (hy : Rd w B' b (u8s ys)) (hm : xs.length ≤ 140737488355328) :
    Calls Try.prog 14 #[.slice a xs.length c, .slice b ys.length d] w fun e w' => e = .returned (.bool (decide (xs = ys))) ∧ ∃ n, w' = w.drewN n := by
  by_cases hl : xs.length = ys.length
  · have HL := Lib.hid hl
    rw [← hl]
    clear hl
    have HX := Lib.hid hx
    have HY := Lib.hid hy
    clear hx hy
    go_enter Try.func14, Try.ntmps14
    go_wp2_with fail
    go_loopg [5] xs.length (fun g i wr => ∃ k : Nat, k ≤ xs.length ∧ g = xs.length - k ∧ i = .int .i64 k ∧ Hid (∃ n, wr = w.drewN n) ∧ Hid (xs.take k = ys.take k))
    case atStart => exact ⟨0, Nat.zero_le _, rfl, rfl, ⟨0, rfl⟩, rfl⟩
    case round =>
      obtain ⟨k, hk, rfl, rfl, hw, ht⟩ := hrel
      by_cases hlt : k < xs.length
      · have hlt2 : k < ys.length := by have := HL.out; omega
        have hxw : Rd wr B a (u8s xs) := by obtain ⟨n, rfl⟩ := hw.out; exact HX.out
        have hyw : Rd wr B' b (u8s ys) := by obtain ⟨n, rfl⟩ := hw.out; exact HY.out
        obtain ⟨g, off, rfl, hg, hB, hc⟩ := hxw.byte hlt
        obtain ⟨g', off', rfl, hg', hB', hc'⟩ := hyw.byte (i := k) hlt2
        have hgl : g < wr.heap.size := by omega
        have hgl' : g' < wr.heap.size := by omega
        have hcn : ∀ n, (wr.drewN n).cell? ⟨g, off + k, none⟩ = some (.int .u8 (xs[k].toNat : Int)) := fun _ => hc
        have hcn' : ∀ n, (wr.drewN n).cell? ⟨g', off' + k, none⟩ = some (.int .u8 (ys[k].toNat : Int)) := fun _ => hc'
        by_cases he : xs[k] = ys[k]
        · rw [← he] at hcn'
          have htk : Hid (xs.take (k + 1) = ys.take (k + 1)) := by
            show _ = _
            rw [List.take_succ_eq_append_getElem hlt, List.take_succ_eq_append_getElem hlt2, ht.out, he]
          clear he hxw hyw hc hc'
          go_wp2_with fail
          refine wp_region_ord [0,0,0,1,0,0,0,1,0] [0,1,2,4,5,6,3,7,8] (by kernel_rfl) (by kernel_rfl) ?_
          repeat (first
            | (apply wpOrd_skip rfl (by decide) rfl; (focus (go_simp; rfl)))
            | (apply wpOrd_pure rfl rfl rfl; (focus (intro _ _; go_simp; (try go_ints); rfl)); (focus (go_simp; rfl)))
            | (apply wpOrd_read rfl rfl rfl; (focus (intro _; go_simp; (try go_ints); rfl)); (focus (go_simp; rfl))))
          refine wpOrd_nil (fun nq => ?_)
          go_wp2_with fail
          go_roundg (xs.length - (k + 1))
          case measure => omega
          case rel => exact ⟨k + 1, by omega, rfl, by go_num, by obtain ⟨n, e⟩ := hw.out; exact ⟨n + nq, by rw [e, World.drewN_drewN]⟩, htk⟩
        · have hne := u8_ne he
          have hXY : decide (xs = ys) = false := by
            simp only [decide_eq_false_iff_not]
            rintro rfl
            exact he rfl
          have HXY := Lib.hid hXY
          clear he hxw hyw hc hc' hXY
          go_wp2_with fail
          refine wp_region_ord [0,0,0,1,0,0,0,1,0] [0,1,2,4,5,6,3,7,8] (by kernel_rfl) (by kernel_rfl) ?_
          repeat (first
            | (apply wpOrd_skip rfl (by decide) rfl; (focus (go_simp; rfl)))
            | (apply wpOrd_pure rfl rfl rfl; (focus (intro _ _; go_simp; (try go_ints); rfl)); (focus (go_simp; rfl)))
            | (apply wpOrd_read rfl rfl rfl; (focus (intro _; go_simp; (try go_ints); rfl)); (focus (go_simp; rfl))))
          refine wpOrd_nil (fun nq => ?_)
          go_wp2_with fail
          go_ret
          exact ⟨(by rw [HXY.out]; try rfl), by obtain ⟨n, e⟩ := hw.out; exact ⟨n + nq, by rw [e, World.drewN_drewN]⟩⟩
      · have hXY : decide (xs = ys) = true := by
          have h1 := ht.out
          rw [List.take_of_length_le (by omega), List.take_of_length_le (by have := HL.out; omega)] at h1
          simp [h1]
        have HXY := Lib.hid hXY
        clear hXY
        go_wp2_with fail
        go_ret
        exact ⟨(by rw [HXY.out]; try rfl), hw.out⟩
  · have hXY : decide (xs = ys) = false := by
      simp only [decide_eq_false_iff_not]
      rintro rfl
      exact hl rfl
    have HXY := Lib.hid hXY
    have hne : ¬ ((xs.length : Int) = (ys.length : Int)) := by omega
    clear hx hy hl hXY
    go_enter Try.func14, Try.ntmps14
    go_wp2_with fail
    go_ret
    exact ⟨(by rw [HXY.out]; try rfl), 0, rfl⟩

end Go.Proofs.Ytojlccligmfcaaa
