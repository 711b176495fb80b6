/-
  Texts laid together: DiskCut, DiskSame, DiskMove, WName.
-/
import Derived.Test.YtgnkmjeoaoongaaGreatDoorSa7
import Derived.Test.YtgnkmjeoaoongaaGreatDoorSa0
import Derived.Lib.ItoaNum
namespace Go.Proofs.YtgnkmjeoaoongaaGreatDoor
open Go.RowKit Go.Mer
end Go.Proofs.YtgnkmjeoaoongaaGreatDoor
namespace Go.Proofs.YtgnkmjeoaoongaaGreatDoor
open Go.RowKit Go.Mer
theorem u8_ne {x y : UInt8} (h : ¬ x = y) : ((x.toNat : Int) != (y.toNat : Int)) = true := by
 simp only [bne_iff_ne, ne_eq, Int.natCast_inj]
 exact fun e => h (UInt8.toNat_inj.1 e)
set_option maxHeartbeats 400000 in
theorem same_any (a b : Option Addr) (c d B B' : Nat) (xs ys : List UInt8) (w : World) (hx : Rd w B a (u8s xs)) (hy : Rd w B' b (u8s ys)) (hm : xs.length ≤ 140737488355328) :
  Calls Tryz.prog 29 #[.slice a xs.length c, .slice b ys.length d] w fun e w' => e = .returned (.bool (decide (xs = ys))) ∧ ∃ n, w' = w.drewN n := by
 by_cases hl : xs.length = ys.length
 ·have HL := Lib.hid hl
  rw [← hl]
  clear hl
  have HX := Lib.hid hx
  have HY := Lib.hid hy
  clear hx hy
  go_enter Tryz.func29, Tryz.ntmps29
  go_wp2_with fail
  go_loopg [5] xs.length (fun g i wr => ∃ k : Nat, k ≤ xs.length ∧ g = xs.length - k ∧ i = .int .i64 k ∧ Hid (∃ n, wr = w.drewN n) ∧ Hid (xs.take k = ys.take k))
  case atStart => exact ⟨0, Nat.zero_le _, rfl, rfl, ⟨0, rfl⟩, rfl⟩
  case round =>
   obtain ⟨k, hk, rfl, rfl, hw, ht⟩ := hrel
   by_cases hlt : k < xs.length
   ·have hlt2 : k < ys.length := by have := HL.out; omega
    have hxw : Rd wr B a (u8s xs) := by obtain ⟨n, rfl⟩ := hw.out; exact HX.out
    have hyw : Rd wr B' b (u8s ys) := by obtain ⟨n, rfl⟩ := hw.out; exact HY.out
    obtain ⟨g, off, rfl, hg, hB, hc⟩ := hxw.byte hlt
    obtain ⟨g', off', rfl, hg', hB', hc'⟩ := hyw.byte (i := k) hlt2
    have hgl : g < wr.heap.size := by omega
    have hgl' : g' < wr.heap.size := by omega
    have hcn : ∀ n, (wr.drewN n).cell? ⟨g, off + k, none⟩ = some (.int .u8 (xs[k].toNat : Int)) := fun _ => hc
    have hcn' : ∀ n, (wr.drewN n).cell? ⟨g', off' + k, none⟩ = some (.int .u8 (ys[k].toNat : Int)) := fun _ => hc'
    by_cases he : xs[k] = ys[k]
    ·rw [← he] at hcn'
     have htk : Hid (xs.take (k + 1) = ys.take (k + 1)) := by
      show _ = _
      rw [List.take_succ_eq_append_getElem hlt, List.take_succ_eq_append_getElem hlt2, ht.out, he]
     clear he hxw hyw hc hc'
     go_wp2_with fail
     refine wp_region_ord [0,0,0,1,0,0,0,1,0] [0,1,2,4,5,6,3,7,8] (by kernel_rfl) (by kernel_rfl) ?_
     repeat (first
      | (apply wpOrd_skip rfl (by decide) rfl; (focus (go_simp; rfl)))
      | (apply wpOrd_pure rfl rfl rfl; (focus (intro _ _; go_simp; (try go_ints); rfl)); (focus (go_simp; rfl)))
      | (apply wpOrd_read rfl rfl rfl; (focus (intro _; go_simp; (try go_ints); rfl)); (focus (go_simp; rfl))))
     refine wpOrd_nil (fun nq => ?_)
     go_wp2_with fail
     go_roundg (xs.length - (k + 1))
     case measure => omega
     case rel => exact ⟨k + 1, by omega, rfl, by go_num, by obtain ⟨n, e⟩ := hw.out; exact ⟨n + nq, by rw [e, World.drewN_drewN]⟩, htk⟩
    ·have hne := u8_ne he
     have hXY : decide (xs = ys) = false := by
      simp only [decide_eq_false_iff_not]
      rintro rfl
      exact he rfl
     have HXY := Lib.hid hXY
     clear he hxw hyw hc hc' hXY
     go_wp2_with fail
     refine wp_region_ord [0,0,0,1,0,0,0,1,0] [0,1,2,4,5,6,3,7,8] (by kernel_rfl) (by kernel_rfl) ?_
     repeat (first
      | (apply wpOrd_skip rfl (by decide) rfl; (focus (go_simp; rfl)))
      | (apply wpOrd_pure rfl rfl rfl; (focus (intro _ _; go_simp; (try go_ints); rfl)); (focus (go_simp; rfl)))
      | (apply wpOrd_read rfl rfl rfl; (focus (intro _; go_simp; (try go_ints); rfl)); (focus (go_simp; rfl))))
     refine wpOrd_nil (fun nq => ?_)
     go_wp2_with fail
     go_ret
     exact ⟨(by rw [HXY.out]; try rfl), by obtain ⟨n, e⟩ := hw.out; exact ⟨n + nq, by rw [e, World.drewN_drewN]⟩⟩
   ·have hXY : decide (xs = ys) = true := by
     have h1 := ht.out
     rw [List.take_of_length_le (by omega), List.take_of_length_le (by have := HL.out; omega)] at h1
     simp [h1]
    have HXY := Lib.hid hXY
    clear hXY
    go_wp2_with fail
    go_ret
    exact ⟨(by rw [HXY.out]; try rfl), hw.out⟩
 ·have hXY : decide (xs = ys) = false := by
   simp only [decide_eq_false_iff_not]
   rintro rfl
   exact hl rfl
  have HXY := Lib.hid hXY
  have hne : ¬ ((xs.length : Int) = (ys.length : Int)) := by omega
  clear hx hy hl hXY
  go_enter Tryz.func29, Tryz.ntmps29
  go_wp2_with fail
  go_ret
  exact ⟨(by rw [HXY.out]; try rfl), 0, rfl⟩
end Go.Proofs.YtgnkmjeoaoongaaGreatDoor
namespace Go.Proofs.YtgnkmjeoaoongaaGreatDoor
open Go.RowKit Go.Mer
section
variable {w w' : World} {d m room : Nat} {fused : Bool} {left : Int} {L L' : FilesR}
theorem DiskC.swap (h : DiskC w d m room fused left L) (hk : Kp (One m) w w') (hm' : GMap Value.string w' m (ptrL L')) (hsub : ∀ p ∈ L', ∃ q ∈ L, p.2 = q.2)
  (h1 : (L'.filterMap fun p => some p.2.blk).Nodup) (h2 : (L'.filterMap (·.2.v.ownBlock)).Nodup) (hfit : totF (absL L') ≤ room) (hfew : L'.length ≤ 4096) :
  DiskC w' d m room fused left L' ∧ Foot (FP d m L) (FP d m L') w ∧ Kp (FP d m L) w w' := by
 obtain ⟨es, ck, hm, _⟩ := h.map
 refine ⟨{ h with cell := ?_, map := hm', files := fun p hp => ?_, blks := (by simpa using h1), rows := h2, fits := hfit, few := hfew }, fun k hkk => ?_, hk.mono fun k _ hk => .inr (.inl hk)⟩
 ·exact hk.get h.cell fun hS => by
   have hS : d = m := hS
   have hc := h.cell
   rw [hS, hm] at hc
   cases hc
 ·obtain ⟨q, hq, e⟩ := hsub p hp
  rw [e]
  refine (h.files q hq).keep hk (fun hS => ?_) fun g hg hS => ?_
  ·have hf := (h.files q hq).1
   rw [show q.2.blk = m from hS, hm] at hf
   cases hf
  ·obtain ⟨cur, hcur⟩ := (h.files q hq).2.1.type g hg
   rw [show g = m from hS, hm] at hcur
   cases hcur
 ·rcases hkk with rfl | rfl | ⟨p, hp, hpk⟩
  ·exact .inl (.inl rfl)
  ·exact .inl (.inr (.inl rfl))
  ·obtain ⟨q, hq, e⟩ := hsub p hp
   exact .inl (.inr (.inr ⟨q, hq, e ▸ hpk⟩))
end
end Go.Proofs.YtgnkmjeoaoongaaGreatDoor
namespace Go.Mer
open Go
def dgB (c : UInt8) : Bool := decide (48 ≤ c.toNat) && decide (c.toNat ≤ 57)
def dcF : Nat → List UInt8 → Nat
 | a, [] => a
 | a, c :: r => dcF (10 * a + (c.toNat - 48)) r
theorem dgB_nat (n : Nat) : dgB (UInt8.ofNat (48 + n % 10)) = true ∧ (UInt8.ofNat (48 + n % 10)).toNat = 48 + n % 10 := by
 have e : (UInt8.ofNat (48 + n % 10)).toNat = 48 + n % 10 := by rw [u8_of]; omega
 refine ⟨?_, e⟩
 unfold dgB
 rw [e, Bool.and_eq_true, decide_eq_true_iff, decide_eq_true_iff]
 omega
theorem decDm_step {u : Nat} (h : ¬ u < 10) : Lib.decDigits u = Lib.decDigits (u / 10) ++ [UInt8.ofNat (48 + u % 10)] := by
 rw [Lib.decDigits, dif_neg h]
theorem decDm_small {u : Nat} (h : u < 10) : Lib.decDigits u = [UInt8.ofNat (48 + u % 10)] := by
 rw [Lib.decDigits, dif_pos h, Nat.mod_eq_of_lt h]
theorem decDm_len (k : Nat) : ∀ u, u < 10 ^ (k + 1) → (Lib.decDigits u).length ≤ k + 1 := by
 induction k with
 | zero => intro u h; rw [decDm_small (by simpa using h)]; simp
 | succ k ih =>
  intro u h
  by_cases h1 : u < 10
  ·rw [decDm_small h1]; simp
  ·rw [decDm_step h1, List.length_append]
   have := ih (u / 10) (by rw [Nat.pow_succ] at h; omega)
   simp only [List.length_singleton]
   omega
def pad8 (n : Nat) : List UInt8 := List.replicate (8 - (Lib.decDigits n).length) 48 ++ Lib.decDigits n
def nameL (p : List UInt8) (n : Nat) : List UInt8 := p ++ pad8 n
def segNo (p s : List UInt8) : Option Nat := if p.isPrefixOf s && decide ((s.drop p.length).length = 8) && (s.drop p.length).all dgB then some (dcF 0 (s.drop p.length)) else none
end Go.Mer

