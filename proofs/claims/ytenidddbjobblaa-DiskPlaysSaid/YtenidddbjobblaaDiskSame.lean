/-
  disk's law: two rows of bytes the same; how many bytes there are, of a disk as a whole; Remove of no file.
-/
import Derived.Test.YtenidddbjobblaaDiskApi
namespace Go.Proofs.Ytenidddbjobblaa
open Go.RowKit Go.Mer

theorem u8_ne {x y : UInt8} (h : ¬ x = y) : ((x.toNat : Int) != (y.toNat : Int)) = true := by
  simp only [bne_iff_ne, ne_eq, Int.natCast_inj]
  exact fun e => h (UInt8.toNat_inj.1 e)

set_option maxHeartbeats 400000 in
theorem same_any (a b : Option Addr) (c d B B' : Nat) (xs ys : List UInt8) (w : World) (hx : Rd w B a (u8s xs)) (hy : Rd w B' b (u8s ys)) (hm : xs.length ≤ 140737488355328) :
    Calls Try.prog 16 #[.slice a xs.length c, .slice b ys.length d] w fun e w' => e = .returned (.bool (decide (xs = ys))) ∧ ∃ n, w' = w.drewN n := by
  by_cases hl : xs.length = ys.length
  · have HL := Lib.hid hl
    rw [← hl]
    clear hl
    have HX := Lib.hid hx
    have HY := Lib.hid hy
    clear hx hy
    go_enter Try.func16, Try.ntmps16
    go_wp2_with fail
    go_loopg [5] xs.length (fun g i wr => ∃ k : Nat, k ≤ xs.length ∧ g = xs.length - k ∧ i = .int .i64 k ∧ Hid (∃ n, wr = w.drewN n) ∧ Hid (xs.take k = ys.take k))
    case atStart => exact ⟨0, Nat.zero_le _, rfl, rfl, ⟨0, rfl⟩, rfl⟩
    case round =>
      obtain ⟨k, hk, rfl, rfl, hw, ht⟩ := hrel
      by_cases hlt : k < xs.length
      · have hlt2 : k < ys.length := by have := HL.out; omega
        have hxw : Rd wr B a (u8s xs) := by obtain ⟨n, rfl⟩ := hw.out; exact HX.out
        have hyw : Rd wr B' b (u8s ys) := by obtain ⟨n, rfl⟩ := hw.out; exact HY.out
        obtain ⟨g, off, rfl, hg, hB, hc⟩ := hxw.byte hlt
        obtain ⟨g', off', rfl, hg', hB', hc'⟩ := hyw.byte (i := k) hlt2
        have hgl : g < wr.heap.size := by omega
        have hgl' : g' < wr.heap.size := by omega
        have hcn : ∀ n, (wr.drewN n).cell? ⟨g, off + k, none⟩ = some (.int .u8 (xs[k].toNat : Int)) := fun _ => hc
        have hcn' : ∀ n, (wr.drewN n).cell? ⟨g', off' + k, none⟩ = some (.int .u8 (ys[k].toNat : Int)) := fun _ => hc'
        by_cases he : xs[k] = ys[k]
        · rw [← he] at hcn'
          have htk : Hid (xs.take (k + 1) = ys.take (k + 1)) := by
            show _ = _
            rw [List.take_succ_eq_append_getElem hlt, List.take_succ_eq_append_getElem hlt2, ht.out, he]
          clear he hxw hyw hc hc'
          go_wp2_with fail
          refine wp_region_ord [0,0,0,1,0,0,0,1,0] [0,1,2,4,5,6,3,7,8] (by kernel_rfl) (by kernel_rfl) ?_
          repeat (first
            | (apply wpOrd_skip rfl (by decide) rfl; (focus (go_simp; rfl)))
            | (apply wpOrd_pure rfl rfl rfl; (focus (intro _ _; go_simp; (try go_ints); rfl)); (focus (go_simp; rfl)))
            | (apply wpOrd_read rfl rfl rfl; (focus (intro _; go_simp; (try go_ints); rfl)); (focus (go_simp; rfl))))
          refine wpOrd_nil (fun nq => ?_)
          go_wp2_with fail
          go_roundg (xs.length - (k + 1))
          case measure => omega
          case rel => exact ⟨k + 1, by omega, rfl, by go_num, by obtain ⟨n, e⟩ := hw.out; exact ⟨n + nq, by rw [e, World.drewN_drewN]⟩, htk⟩
        · have hne := u8_ne he
          have hXY : decide (xs = ys) = false := by
            simp only [decide_eq_false_iff_not]
            rintro rfl
            exact he rfl
          have HXY := Lib.hid hXY
          clear he hxw hyw hc hc' hXY
          go_wp2_with fail
          refine wp_region_ord [0,0,0,1,0,0,0,1,0] [0,1,2,4,5,6,3,7,8] (by kernel_rfl) (by kernel_rfl) ?_
          repeat (first
            | (apply wpOrd_skip rfl (by decide) rfl; (focus (go_simp; rfl)))
            | (apply wpOrd_pure rfl rfl rfl; (focus (intro _ _; go_simp; (try go_ints); rfl)); (focus (go_simp; rfl)))
            | (apply wpOrd_read rfl rfl rfl; (focus (intro _; go_simp; (try go_ints); rfl)); (focus (go_simp; rfl))))
          refine wpOrd_nil (fun nq => ?_)
          go_wp2_with fail
          go_ret
          exact ⟨(by rw [HXY.out]; try rfl), by obtain ⟨n, e⟩ := hw.out; exact ⟨n + nq, by rw [e, World.drewN_drewN]⟩⟩
      · have hXY : decide (xs = ys) = true := by
          have h1 := ht.out
          rw [List.take_of_length_le (by omega), List.take_of_length_le (by have := HL.out; omega)] at h1
          simp [h1]
        have HXY := Lib.hid hXY
        clear hXY
        go_wp2_with fail
        go_ret
        exact ⟨(by rw [HXY.out]; try rfl), hw.out⟩
  · have hXY : decide (xs = ys) = false := by
      simp only [decide_eq_false_iff_not]
      rintro rfl
      exact hl rfl
    have HXY := Lib.hid hXY
    have hne : ¬ ((xs.length : Int) = (ys.length : Int)) := by omega
    clear hx hy hl hXY
    go_enter Try.func16, Try.ntmps16
    go_wp2_with fail
    go_ret
    exact ⟨(by rw [HXY.out]; try rfl), 0, rfl⟩

/-- How many bytes there are, of a disk as a whole. -/
theorem Used_any (w : World) (d : Nat) (s : DSt) (F : Nat → Prop) (hD : DiskAt w d s F) :
    Calls Try.prog 15 #[.pointer (some ⟨d, 0, none⟩)] w fun e w' => e = .returned (.int .i64 (totF s.files : Int)) ∧ Kp No w w' := by
  obtain ⟨m, fused, left, L, hC, hf, hs, hF, hFs⟩ := hD
  rw [hs]
  exact used_any w d m s.room fused left L hC

set_option maxHeartbeats 400000 in
theorem remove_none (w : World) (d m room : Nat) (fused : Bool) (left : Int) (L : FilesR) (hD : DiskC w d m room fused left L) (name : ByteArray) (hc : gget L name = none)
    (na : Option Addr) (nc : Nat) (hns : Rd w w.heap.size na [Value.string name]) (N : Int) (pv : Value) :
    Calls Try.prog 33 #[.pointer (some ⟨d, 0, none⟩), .agg #[.slice na 1 nc, .int .i64 N, pv]] w fun e w' =>
      e = .returned (.int .i64 7) ∧ Kp No w w' := by
  obtain ⟨g, off, rfl, hg, _, hcn⟩ := hns.at_ (i := 0) rfl
  simp only [Nat.add_zero] at hcn
  have FA := facts hD (nc := nc) (N := N) (pv := pv) hcn
  have f1 := FA.d0
  have f2 := FA.d1
  have f3 := FA.b0
  have f4 := FA.b1
  have f5 := FA.b2
  have f6 := FA.nm
  have f7 := FA.look
  have f8 := FA.many
  have f9 := FA.dr
  have hdl := get_lt hD.cell
  have H1 : Kp No w (w.alloc (.cells #[.slice (some ⟨g, off, none⟩) 1 nc, .int .i64 N, pv] 64)) := (Kp.refl _ _).alloc _
  have HD := Lib.hid hD
  clear FA hns hcn
  rw [hc] at f7
  simp only [Option.map_none, Option.getD_none] at f7
  clear hc f8 f1 f4 f5 hD
  obtain ⟨W1, hW1⟩ : ∃ W, W = w.alloc (.cells #[.slice (some ⟨g, off, none⟩) 1 nc, .int .i64 N, pv] 64) := ⟨_, rfl⟩
  go_enter Try.func33, Try.ntmps33
  go_wp2_with fail
  rw [← hW1] at f2 f3 f6 f7 f9 H1 ⊢
  clear hW1
  refine wp_region_ord [0,0,0,1,0,1,0,1,1,0] [0,1,2,4,3,5,6,7,8,9] (by kernel_rfl) (by kernel_rfl) ?_
  repeat (first
    | (apply wpOrd_skip rfl (by decide) rfl; (focus (go_simp; rfl)))
    | (apply wpOrd_pure rfl rfl rfl; (focus (intro _ _; go_simp; (try go_ints); rfl)); (focus (go_simp; rfl)))
    | (apply wpOrd_read rfl rfl rfl; (focus (intro _; go_simp; (try go_ints); rfl)); (focus (go_simp; rfl))))
  refine wpOrd_nil (fun nq => ?_)
  go_wp2_with fail
  go_ret
  exact ⟨rfl, H1.drewN _⟩

/-- Remove, of a file that isn't there. -/
def rgS (s : DSt) (name : ByteArray) : Int × DSt := five s [name] 7 s.files
set_option maxHeartbeats 400000 in
theorem Remove_gone (w : World) (d : Nat) (s : DSt) (F : Nat → Prop) (hD : DiskAt w d s F) (name : ByteArray) (hno : gget s.files name = none) :
    Calls Try.prog 18 #[.pointer (some ⟨d, 0, none⟩), .string name] w (Said5 w d F (rgS s name)) := by
  obtain ⟨m, fused, left, L, hC, hf, hs, hF, hFs⟩ := hD
  have hnoL : gget L name = none := by
    rw [hs, gget_abs] at hno
    cases hc : gget L name with
    | none => rfl
    | some c => rw [hc] at hno; cases hno
  have h1 : Kp No w (w.alloc (.cells #[.string name] 9)) := (Kp.refl _ _).alloc _
  have hcf : ∀ args w, (callFunc 33 args).run Try.prog w = .ok (.enter 33 args) w := fun args w => by simp [go_sem]
  have hg := gate_five (w.alloc (.cells #[.string name] 9)) d m fused left L s F (hC.keep_no h1) hf hs hF (fun k hk => h1.lt (hFs k hk)) 33 hcf (some ⟨w.heap.size, 0, none⟩) 1 [name] 0 (.slice none 0 0)
    (name_rd w name) (by simp) 7 s.files (by
      intro _ w1 hw1
      have hC1 := (hC.keep_no h1).keep_no hw1
      have hn1 := ((name_rd w name).keep hw1 fun _ _ x => x).mono hw1.size (Nat.le_refl _)
      refine (remove_none w1 d m s.room fused left L hC1 name hnoL (some ⟨w.heap.size, 0, none⟩) 1 hn1 0 (.slice none 0 0)).mono fun e w2 ⟨he, hw⟩ => ?_
      exact ⟨he, L, hC1.keep_no hw, rfl, Foot.refl _ _, Kp.of_no hw⟩)
  clear hno hnoL
  have HG := Lib.hid hg
  clear hg hC hF hFs hf hs
  go_enter Try.func18, Try.ntmps18
  go_wp2_with fail
  refine (HG.out).mono ?_
  rintro e w' ⟨rfl, F', h2, h3, h4⟩
  have H2 := Lib.hid h2
  have H3 := Lib.hid h3
  have H4 := Lib.hid h4
  clear h2 h3 h4
  go_wp2_with fail
  go_ret
  exact ⟨rfl, F', H2.out, fun k hk => (H3.out k hk).imp id fun h => Nat.le_trans h1.size h, (Kp.of_no h1).trans_same H4.out⟩
end Go.Proofs.Ytenidddbjobblaa
