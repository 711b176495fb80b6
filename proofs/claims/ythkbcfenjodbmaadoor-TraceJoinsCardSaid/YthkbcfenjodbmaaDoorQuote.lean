/-
  trace's Quote and the reference's.
-/
import Derived.Test.YthkbcfenjodbmaaDoorApp
import Derived.Test.YthkbcfenjodbmaaDoorQuo
import Derived.Test.YthkbcfenjodbmaaDoorRegion
import Derived.WalkSpells
import Derived.WalkLawsBesides
import Derived.BigQuiet
namespace Go.Proofs.YthkbcfenjodbmaaDoor
open Go.RowKit Go.Mer

def quoS (l : List UInt8) : ByteArray := ⟨(quoteL l).toArray⟩
theorem dg16 : ∀ q : Fin 16, (⟨#[48, 49, 50, 51, 52, 53, 54, 55, 56, 57, 97, 98, 99, 100, 101, 102]⟩ : ByteArray)[q.val]'q.isLt = hexd q.val := by decide +kernel
theorem dg16' {q : Nat} (h' : q < (⟨#[48, 49, 50, 51, 52, 53, 54, 55, 56, 57, 97, 98, 99, 100, 101, 102]⟩ : ByteArray).size) : (⟨#[48, 49, 50, 51, 52, 53, 54, 55, 56, 57, 97, 98, 99, 100, 101, 102]⟩ : ByteArray)[q]'h' = hexd q := dg16 ⟨q, h'⟩
theorem take_snoc_quo (l : List UInt8) {k : Nat} (h : k < l.length) : 34 :: (l.take (k + 1)).flatMap quo = (34 :: (l.take k).flatMap quo) ++ quo l[k] := by
  rw [List.take_succ_eq_append_getElem h]
  rw [List.flatMap_append]
  simp
theorem quo_plain {d : UInt8} {cv : Nat} (h : cv = d.toNat) (h1 : cv ≠ 34) (h2 : cv ≠ 92) (h3 : 32 ≤ cv) (h4 : cv ≤ 126) : quo d = [d] := by
  subst h
  unfold quo
  rw [if_neg]
  simp [qsign]
  omega
theorem quo_sign {d : UInt8} {cv : Nat} (h : cv = d.toNat) (h1 : cv = 34 ∨ cv = 92 ∨ cv < 32 ∨ 126 < cv) : quo d = [92, 120, hexd (cv / 16), hexd (cv % 16)] := by
  subst h
  unfold quo
  rw [if_pos]
  simp [qsign]
  omega
theorem low8 {c : Nat} (h : c < 2 ^ 8) : bits .and .u8 (c : Int) 15 = ((c % 16 : Nat) : Int) := by
  have := bits_and (k := .u8) rfl (a := c) (b := 15) h (by decide)
  rw [show (15 : Nat) = 2 ^ 4 - 1 from rfl, Nat.and_two_pow_sub_one_eq_mod] at this
  exact this
def QRel (w wr : World) (l : List UInt8) (k n : Nat) (v : Value) : Prop := Mine w wr v n (34 :: (l.take k).flatMap quo)
set_option maxRecDepth 100000 in
set_option maxHeartbeats 1000000 in
theorem Quote_any (w : World) (a : Option Addr) (cap : Nat) (l : List UInt8) (hr : Rd w w.heap.size a (u8s l)) (hl : l.length ≤ 4000) :
    Calls Tryd.prog 5 #[.slice a l.length cap] w fun e w' => e = .returned (.string (quoS l)) ∧ Kp No w w' := by
  have HR := Lib.hid hr
  clear hr
  go_enter Tryd.func5, Tryd.ntmps5
  go_wp2_with fail
  rename World => w0
  go_loopw [3, 9] (fun s i wr => ∃ (k n c : Nat) (b : Option Addr), k ≤ l.length ∧ n ≤ 4 * k + 1 ∧ 0 < n ∧ i = .int .i64 (k : Int) ∧ s = .slice b n c ∧ QRel w0 wr l k n (.slice b n c)) (fun _ i _ => l.length - (intOf i).toNat)
  case atStart => exact ⟨0, 1, 1, _, Nat.zero_le _, by omega, by omega, rfl, rfl, Mine.made w0 w0 (Kp.refl _ _) _ [34] 1 rfl (by simp [maxLen]) rfl⟩
  case round =>
    obtain ⟨k, n, c, b, hk, hn, hn0, rfl, rfl, HQ⟩ := hrel
    by_cases hlt : k < l.length
    · obtain ⟨g, off, rfl, hg, _, hcell⟩ := (HR.out.keep (show Kp No w0 wr from HQ.2.2.1) fun _ _ x => x).byte hlt
      have hb8 := l[k].toNat_lt
      have HS := Lib.hid (take_snoc_quo l hlt)
      obtain ⟨d, hd⟩ : ∃ d, d = l[k] := ⟨_, rfl⟩
      rw [← hd] at hcell hb8 HS
      obtain ⟨cv, hcv⟩ : ∃ cv, cv = d.toNat := ⟨_, rfl⟩
      rw [← hcv] at hcell hb8
      have HCV := Lib.hid hcv
      have HQQ := Lib.hid HQ
      clear hcv hd HQ
      have h5 : (cv = 34) ∨ (cv ≠ 34 ∧ cv = 92) ∨ (cv ≠ 34 ∧ cv ≠ 92 ∧ cv < 32) ∨ (cv ≠ 34 ∧ cv ≠ 92 ∧ 32 ≤ cv ∧ 126 < cv) ∨ (cv ≠ 34 ∧ cv ≠ 92 ∧ 32 ≤ cv ∧ cv ≤ 126) := by omega
      rcases h5 with h1 | ⟨h1, h2⟩ | ⟨h1, h2, h3⟩ | ⟨h1, h2, h3, h4⟩ | ⟨h1, h2, h3, h4⟩
      · have HC := Lib.hid (quo_sign HCV.out (Or.inl h1))
        have e1 : ((cv : Int) == 34) = true := by simp; omega
        clear h1
        obtain ⟨hi, hhi⟩ : ∃ hi, hi = cv / 16 := ⟨_, rfl⟩
        obtain ⟨lo, hlo⟩ : ∃ lo, lo = cv % 16 := ⟨_, rfl⟩
        have hsh : (cv : Int) / 16 = (hi : Int) := by omega
        have han : bits .and .u8 (cv : Int) 15 = (lo : Int) := by rw [low8 hb8, hlo]
        have hi16 : hi < 16 := by omega
        have lo16 : lo < 16 := by omega
        have HN := Lib.hid (And.intro hhi hlo)
        clear hhi hlo
        go_wp2_with fail
        refine wp_region_ord [0,0,0,0,0,0,0,2,2,0] [0,1,2,3,4,5,6,7,8,9] (by kernel_rfl) (by kernel_rfl) ?_
        repeat (first
          | (apply wpOrd_skip rfl (by decide) rfl; (focus (go_simp; rfl)))
          | (apply wpOrd_pure rfl rfl rfl; (focus (intro _ _; go_simp; (try go_ints); rfl)); (focus (go_simp; rfl)))
          | (apply wpOrd_read rfl rfl rfl; (focus (intro _; go_simp; (try go_ints); rfl)); (focus (go_simp; rfl))))
        refine wpOrd_pure rfl rfl rfl (v := .int .u8 ((hexd hi).toNat : Int)) ?_ rfl ?_
        · intro _ _
          go_simp
          rw [dif_pos (by omega), dg16' hi16]
          rfl
        repeat (first
          | (apply wpOrd_skip rfl (by decide) rfl; (focus (go_simp; rfl)))
          | (apply wpOrd_pure rfl rfl rfl; (focus (intro _ _; go_simp; (try go_ints); rfl)); (focus (go_simp; rfl)))
          | (apply wpOrd_read rfl rfl rfl; (focus (intro _; go_simp; (try go_ints); rfl)); (focus (go_simp; rfl))))
        refine wpOrd_pure rfl rfl rfl (v := .int .u8 ((hexd lo).toNat : Int)) ?_ rfl ?_
        · intro _ _
          go_simp
          rw [dif_pos (by omega), dg16' lo16]
          rfl
        repeat (first
          | (apply wpOrd_skip rfl (by decide) rfl; (focus (go_simp; rfl)))
          | (apply wpOrd_pure rfl rfl rfl; (focus (intro _ _; go_simp; (try go_ints); rfl)); (focus (go_simp; rfl)))
          | (apply wpOrd_read rfl rfl rfl; (focus (intro _; go_simp; (try go_ints); rfl)); (focus (go_simp; rfl))))
        refine wpOrd_eff rfl rfl (fun n7 => ?_)
        go_wp2_with fail
        refine wpOrd_eff rfl rfl (fun n8 => ?_)
        obtain ⟨b', c', W', hrun, hM⟩ := Mine.app4 HQQ.out n7 n8 #[.int .u8 92, .int .u8 120, .int .u8 ((hexd hi).toNat : Int), .int .u8 ((hexd lo).toNat : Int)] [92, 120, hexd hi, hexd lo] 4 rfl rfl (by omega)
        have HX := Lib.hid hrun
        have HM := Lib.hid hM
        clear hrun hM
        refine wpList_append_run rfl rfl rfl rfl HX.out (wpList_nil ⟨rfl, trivial, ?_⟩)
        repeat (first
          | (apply wpOrd_skip rfl (by decide) rfl; (focus (go_simp; rfl)))
          | (apply wpOrd_pure rfl rfl rfl; (focus (intro _ _; go_simp; (try go_ints); rfl)); (focus (go_simp; rfl)))
          | (apply wpOrd_read rfl rfl rfl; (focus (intro _; go_simp; (try go_ints); rfl)); (focus (go_simp; rfl))))
        refine wpOrd_nil (fun nq => ?_)
        go_wp2_with fail
        go_roundw
        case rel => exact ⟨k + 1, n + 4, _, _, by omega, by omega, by omega, by go_num, rfl, by rw [QRel, HS.out, show quo d = _ from HC.out, ← HN.out.1, ← HN.out.2]; exact HM.out.no ((Kp.refl _ _).drewN nq)⟩
        case measure => simp [intOf]; omega
      · have HC := Lib.hid (quo_sign HCV.out (Or.inr (.inl h2)))
        have e1 : ((cv : Int) == 34) = false := by simp; omega
        have e2 : ((cv : Int) == 92) = true := by simp; omega
        clear h1 h2
        obtain ⟨hi, hhi⟩ : ∃ hi, hi = cv / 16 := ⟨_, rfl⟩
        obtain ⟨lo, hlo⟩ : ∃ lo, lo = cv % 16 := ⟨_, rfl⟩
        have hsh : (cv : Int) / 16 = (hi : Int) := by omega
        have han : bits .and .u8 (cv : Int) 15 = (lo : Int) := by rw [low8 hb8, hlo]
        have hi16 : hi < 16 := by omega
        have lo16 : lo < 16 := by omega
        have HN := Lib.hid (And.intro hhi hlo)
        clear hhi hlo
        go_wp2_with fail
        refine wp_region_ord [0,0,0,0,0,0,0,2,2,0] [0,1,2,3,4,5,6,7,8,9] (by kernel_rfl) (by kernel_rfl) ?_
        repeat (first
          | (apply wpOrd_skip rfl (by decide) rfl; (focus (go_simp; rfl)))
          | (apply wpOrd_pure rfl rfl rfl; (focus (intro _ _; go_simp; (try go_ints); rfl)); (focus (go_simp; rfl)))
          | (apply wpOrd_read rfl rfl rfl; (focus (intro _; go_simp; (try go_ints); rfl)); (focus (go_simp; rfl))))
        refine wpOrd_pure rfl rfl rfl (v := .int .u8 ((hexd hi).toNat : Int)) ?_ rfl ?_
        · intro _ _
          go_simp
          rw [dif_pos (by omega), dg16' hi16]
          rfl
        repeat (first
          | (apply wpOrd_skip rfl (by decide) rfl; (focus (go_simp; rfl)))
          | (apply wpOrd_pure rfl rfl rfl; (focus (intro _ _; go_simp; (try go_ints); rfl)); (focus (go_simp; rfl)))
          | (apply wpOrd_read rfl rfl rfl; (focus (intro _; go_simp; (try go_ints); rfl)); (focus (go_simp; rfl))))
        refine wpOrd_pure rfl rfl rfl (v := .int .u8 ((hexd lo).toNat : Int)) ?_ rfl ?_
        · intro _ _
          go_simp
          rw [dif_pos (by omega), dg16' lo16]
          rfl
        repeat (first
          | (apply wpOrd_skip rfl (by decide) rfl; (focus (go_simp; rfl)))
          | (apply wpOrd_pure rfl rfl rfl; (focus (intro _ _; go_simp; (try go_ints); rfl)); (focus (go_simp; rfl)))
          | (apply wpOrd_read rfl rfl rfl; (focus (intro _; go_simp; (try go_ints); rfl)); (focus (go_simp; rfl))))
        refine wpOrd_eff rfl rfl (fun n7 => ?_)
        go_wp2_with fail
        refine wpOrd_eff rfl rfl (fun n8 => ?_)
        obtain ⟨b', c', W', hrun, hM⟩ := Mine.app4 HQQ.out n7 n8 #[.int .u8 92, .int .u8 120, .int .u8 ((hexd hi).toNat : Int), .int .u8 ((hexd lo).toNat : Int)] [92, 120, hexd hi, hexd lo] 4 rfl rfl (by omega)
        have HX := Lib.hid hrun
        have HM := Lib.hid hM
        clear hrun hM
        refine wpList_append_run rfl rfl rfl rfl HX.out (wpList_nil ⟨rfl, trivial, ?_⟩)
        repeat (first
          | (apply wpOrd_skip rfl (by decide) rfl; (focus (go_simp; rfl)))
          | (apply wpOrd_pure rfl rfl rfl; (focus (intro _ _; go_simp; (try go_ints); rfl)); (focus (go_simp; rfl)))
          | (apply wpOrd_read rfl rfl rfl; (focus (intro _; go_simp; (try go_ints); rfl)); (focus (go_simp; rfl))))
        refine wpOrd_nil (fun nq => ?_)
        go_wp2_with fail
        go_roundw
        case rel => exact ⟨k + 1, n + 4, _, _, by omega, by omega, by omega, by go_num, rfl, by rw [QRel, HS.out, show quo d = _ from HC.out, ← HN.out.1, ← HN.out.2]; exact HM.out.no ((Kp.refl _ _).drewN nq)⟩
        case measure => simp [intOf]; omega
      · have HC := Lib.hid (quo_sign HCV.out (Or.inr (.inr (.inl h3))))
        have e1 : ((cv : Int) == 34) = false := by simp; omega
        have e2 : ((cv : Int) == 92) = false := by simp; omega
        clear h1 h2
        obtain ⟨hi, hhi⟩ : ∃ hi, hi = cv / 16 := ⟨_, rfl⟩
        obtain ⟨lo, hlo⟩ : ∃ lo, lo = cv % 16 := ⟨_, rfl⟩
        have hsh : (cv : Int) / 16 = (hi : Int) := by omega
        have han : bits .and .u8 (cv : Int) 15 = (lo : Int) := by rw [low8 hb8, hlo]
        have hi16 : hi < 16 := by omega
        have lo16 : lo < 16 := by omega
        have HN := Lib.hid (And.intro hhi hlo)
        clear hhi hlo
        go_wp2_with fail
        refine wp_region_ord [0,0,0,0,0,0,0,2,2,0] [0,1,2,3,4,5,6,7,8,9] (by kernel_rfl) (by kernel_rfl) ?_
        repeat (first
          | (apply wpOrd_skip rfl (by decide) rfl; (focus (go_simp; rfl)))
          | (apply wpOrd_pure rfl rfl rfl; (focus (intro _ _; go_simp; (try go_ints); rfl)); (focus (go_simp; rfl)))
          | (apply wpOrd_read rfl rfl rfl; (focus (intro _; go_simp; (try go_ints); rfl)); (focus (go_simp; rfl))))
        refine wpOrd_pure rfl rfl rfl (v := .int .u8 ((hexd hi).toNat : Int)) ?_ rfl ?_
        · intro _ _
          go_simp
          rw [dif_pos (by omega), dg16' hi16]
          rfl
        repeat (first
          | (apply wpOrd_skip rfl (by decide) rfl; (focus (go_simp; rfl)))
          | (apply wpOrd_pure rfl rfl rfl; (focus (intro _ _; go_simp; (try go_ints); rfl)); (focus (go_simp; rfl)))
          | (apply wpOrd_read rfl rfl rfl; (focus (intro _; go_simp; (try go_ints); rfl)); (focus (go_simp; rfl))))
        refine wpOrd_pure rfl rfl rfl (v := .int .u8 ((hexd lo).toNat : Int)) ?_ rfl ?_
        · intro _ _
          go_simp
          rw [dif_pos (by omega), dg16' lo16]
          rfl
        repeat (first
          | (apply wpOrd_skip rfl (by decide) rfl; (focus (go_simp; rfl)))
          | (apply wpOrd_pure rfl rfl rfl; (focus (intro _ _; go_simp; (try go_ints); rfl)); (focus (go_simp; rfl)))
          | (apply wpOrd_read rfl rfl rfl; (focus (intro _; go_simp; (try go_ints); rfl)); (focus (go_simp; rfl))))
        refine wpOrd_eff rfl rfl (fun n7 => ?_)
        go_wp2_with fail
        refine wpOrd_eff rfl rfl (fun n8 => ?_)
        obtain ⟨b', c', W', hrun, hM⟩ := Mine.app4 HQQ.out n7 n8 #[.int .u8 92, .int .u8 120, .int .u8 ((hexd hi).toNat : Int), .int .u8 ((hexd lo).toNat : Int)] [92, 120, hexd hi, hexd lo] 4 rfl rfl (by omega)
        have HX := Lib.hid hrun
        have HM := Lib.hid hM
        clear hrun hM
        refine wpList_append_run rfl rfl rfl rfl HX.out (wpList_nil ⟨rfl, trivial, ?_⟩)
        repeat (first
          | (apply wpOrd_skip rfl (by decide) rfl; (focus (go_simp; rfl)))
          | (apply wpOrd_pure rfl rfl rfl; (focus (intro _ _; go_simp; (try go_ints); rfl)); (focus (go_simp; rfl)))
          | (apply wpOrd_read rfl rfl rfl; (focus (intro _; go_simp; (try go_ints); rfl)); (focus (go_simp; rfl))))
        refine wpOrd_nil (fun nq => ?_)
        go_wp2_with fail
        go_roundw
        case rel => exact ⟨k + 1, n + 4, _, _, by omega, by omega, by omega, by go_num, rfl, by rw [QRel, HS.out, show quo d = _ from HC.out, ← HN.out.1, ← HN.out.2]; exact HM.out.no ((Kp.refl _ _).drewN nq)⟩
        case measure => simp [intOf]; omega
      · have HC := Lib.hid (quo_sign HCV.out (Or.inr (.inr (.inr h4))))
        have e1 : ((cv : Int) == 34) = false := by simp; omega
        have e2 : ((cv : Int) == 92) = false := by simp; omega
        clear h1 h2
        obtain ⟨hi, hhi⟩ : ∃ hi, hi = cv / 16 := ⟨_, rfl⟩
        obtain ⟨lo, hlo⟩ : ∃ lo, lo = cv % 16 := ⟨_, rfl⟩
        have hsh : (cv : Int) / 16 = (hi : Int) := by omega
        have han : bits .and .u8 (cv : Int) 15 = (lo : Int) := by rw [low8 hb8, hlo]
        have hi16 : hi < 16 := by omega
        have lo16 : lo < 16 := by omega
        have HN := Lib.hid (And.intro hhi hlo)
        clear hhi hlo
        go_wp2_with fail
        refine wp_region_ord [0,0,0,0,0,0,0,2,2,0] [0,1,2,3,4,5,6,7,8,9] (by kernel_rfl) (by kernel_rfl) ?_
        repeat (first
          | (apply wpOrd_skip rfl (by decide) rfl; (focus (go_simp; rfl)))
          | (apply wpOrd_pure rfl rfl rfl; (focus (intro _ _; go_simp; (try go_ints); rfl)); (focus (go_simp; rfl)))
          | (apply wpOrd_read rfl rfl rfl; (focus (intro _; go_simp; (try go_ints); rfl)); (focus (go_simp; rfl))))
        refine wpOrd_pure rfl rfl rfl (v := .int .u8 ((hexd hi).toNat : Int)) ?_ rfl ?_
        · intro _ _
          go_simp
          rw [dif_pos (by omega), dg16' hi16]
          rfl
        repeat (first
          | (apply wpOrd_skip rfl (by decide) rfl; (focus (go_simp; rfl)))
          | (apply wpOrd_pure rfl rfl rfl; (focus (intro _ _; go_simp; (try go_ints); rfl)); (focus (go_simp; rfl)))
          | (apply wpOrd_read rfl rfl rfl; (focus (intro _; go_simp; (try go_ints); rfl)); (focus (go_simp; rfl))))
        refine wpOrd_pure rfl rfl rfl (v := .int .u8 ((hexd lo).toNat : Int)) ?_ rfl ?_
        · intro _ _
          go_simp
          rw [dif_pos (by omega), dg16' lo16]
          rfl
        repeat (first
          | (apply wpOrd_skip rfl (by decide) rfl; (focus (go_simp; rfl)))
          | (apply wpOrd_pure rfl rfl rfl; (focus (intro _ _; go_simp; (try go_ints); rfl)); (focus (go_simp; rfl)))
          | (apply wpOrd_read rfl rfl rfl; (focus (intro _; go_simp; (try go_ints); rfl)); (focus (go_simp; rfl))))
        refine wpOrd_eff rfl rfl (fun n7 => ?_)
        go_wp2_with fail
        refine wpOrd_eff rfl rfl (fun n8 => ?_)
        obtain ⟨b', c', W', hrun, hM⟩ := Mine.app4 HQQ.out n7 n8 #[.int .u8 92, .int .u8 120, .int .u8 ((hexd hi).toNat : Int), .int .u8 ((hexd lo).toNat : Int)] [92, 120, hexd hi, hexd lo] 4 rfl rfl (by omega)
        have HX := Lib.hid hrun
        have HM := Lib.hid hM
        clear hrun hM
        refine wpList_append_run rfl rfl rfl rfl HX.out (wpList_nil ⟨rfl, trivial, ?_⟩)
        repeat (first
          | (apply wpOrd_skip rfl (by decide) rfl; (focus (go_simp; rfl)))
          | (apply wpOrd_pure rfl rfl rfl; (focus (intro _ _; go_simp; (try go_ints); rfl)); (focus (go_simp; rfl)))
          | (apply wpOrd_read rfl rfl rfl; (focus (intro _; go_simp; (try go_ints); rfl)); (focus (go_simp; rfl))))
        refine wpOrd_nil (fun nq => ?_)
        go_wp2_with fail
        go_roundw
        case rel => exact ⟨k + 1, n + 4, _, _, by omega, by omega, by omega, by go_num, rfl, by rw [QRel, HS.out, show quo d = _ from HC.out, ← HN.out.1, ← HN.out.2]; exact HM.out.no ((Kp.refl _ _).drewN nq)⟩
        case measure => simp [intOf]; omega
      · obtain ⟨b', c', W', hrun, hM⟩ := HQQ.out.app #[.int .u8 (cv : Int)] [d] 1 rfl (by rw [HCV.out]; rfl) (by omega)
        have HX := Lib.hid hrun
        have HM := Lib.hid hM
        have HC := Lib.hid (quo_plain HCV.out h1 h2 h3 h4)
        have e1 : ((cv : Int) == 34) = false := by simp; omega
        have e2 : ((cv : Int) == 92) = false := by simp; omega
        clear hrun hM h1 h2
        go_wp2_with (at_builtin; refine wpList_append_run rfl rfl rfl rfl HX.out ?_)
        go_roundw
        case rel => exact ⟨k + 1, n + 1, _, _, by omega, by omega, by omega, by go_num, rfl, by rw [QRel, HS.out, show quo d = _ from HC.out]; exact HM.out⟩
        case measure => simp [intOf]; omega
    · obtain rfl : k = l.length := by omega
      obtain ⟨b', c', W', hrun, hM⟩ := (show Mine w0 wr _ _ _ from HQ).app #[.int .u8 34] [34] 1 rfl rfl (by omega)
      have hs := hM.str (by omega)
      rw [List.take_length] at hs
      have HX := Lib.hid hrun
      have HM := Lib.hid hM
      have HST := Lib.hid hs
      clear hrun hM hs
      go_wp2_with (at_builtin; refine wpList_append_run rfl rfl rfl rfl HX.out ?_)
      rw [HST.out]
      simp only [Result.andThen_ok]
      go_wp2_with fail
      go_ret
      exact ⟨rfl, HM.out.kp⟩
set_option maxRecDepth 100000 in
set_option maxHeartbeats 1000000 in
theorem rQuote_any (w : World) (a : Option Addr) (cap : Nat) (l : List UInt8) (hr : Rd w w.heap.size a (u8s l)) (hl : l.length ≤ 4000) :
    Calls Tryd.prog 6 #[.slice a l.length cap] w fun e w' => e = .returned (.string (quoS l)) ∧ Kp No w w' := by
  have HR := Lib.hid hr
  clear hr
  go_enter Tryd.func6, Tryd.ntmps6
  go_wp2_with fail
  rename World => w0
  go_loopw [3, 4] (fun s i wr => ∃ (k n c : Nat) (b : Option Addr), k ≤ l.length ∧ n ≤ 4 * k + 1 ∧ 0 < n ∧ i = .int .i64 (k : Int) ∧ s = .slice b n c ∧ QRel w0 wr l k n (.slice b n c)) (fun _ i _ => l.length - (intOf i).toNat)
  case atStart => exact ⟨0, 1, 1, _, Nat.zero_le _, by omega, by omega, rfl, rfl, Mine.made w0 w0 (Kp.refl _ _) _ [34] 1 rfl (by simp [maxLen]) rfl⟩
  case round =>
    obtain ⟨k, n, c, b, hk, hn, hn0, rfl, rfl, HQ⟩ := hrel
    by_cases hlt : k < l.length
    · obtain ⟨g, off, rfl, hg, _, hcell⟩ := (HR.out.keep (show Kp No w0 wr from HQ.2.2.1) fun _ _ x => x).byte hlt
      have hb8 := l[k].toNat_lt
      have HS := Lib.hid (take_snoc_quo l hlt)
      obtain ⟨d, hd⟩ : ∃ d, d = l[k] := ⟨_, rfl⟩
      rw [← hd] at hcell hb8 HS
      obtain ⟨cv, hcv⟩ : ∃ cv, cv = d.toNat := ⟨_, rfl⟩
      rw [← hcv] at hcell hb8
      have HCV := Lib.hid hcv
      have HQQ := Lib.hid HQ
      clear hcv hd HQ
      have h5 : (cv = 34) ∨ (cv ≠ 34 ∧ cv = 92) ∨ (cv ≠ 34 ∧ cv ≠ 92 ∧ cv < 32) ∨ (cv ≠ 34 ∧ cv ≠ 92 ∧ 32 ≤ cv ∧ 126 < cv) ∨ (cv ≠ 34 ∧ cv ≠ 92 ∧ 32 ≤ cv ∧ cv ≤ 126) := by omega
      rcases h5 with h1 | ⟨h1, h2⟩ | ⟨h1, h2, h3⟩ | ⟨h1, h2, h3, h4⟩ | ⟨h1, h2, h3, h4⟩
      · have HC := Lib.hid (quo_sign HCV.out (Or.inl h1))
        have e1 : ((cv : Int) == 34) = true := by simp; omega
        clear h1
        obtain ⟨hi, hhi⟩ : ∃ hi, hi = cv / 16 := ⟨_, rfl⟩
        obtain ⟨lo, hlo⟩ : ∃ lo, lo = cv % 16 := ⟨_, rfl⟩
        have hsh : (cv : Int) / 16 = (hi : Int) := by omega
        have han : bits .and .u8 (cv : Int) 15 = (lo : Int) := by rw [low8 hb8, hlo]
        have hi16 : hi < 16 := by omega
        have lo16 : lo < 16 := by omega
        have HN := Lib.hid (And.intro hhi hlo)
        clear hhi hlo
        go_wp2_with fail
        refine wp_region_ord [0,0,0,0,0,0,0,2,2,0] [0,1,2,3,4,5,6,7,8,9] (by kernel_rfl) (by kernel_rfl) ?_
        repeat (first
          | (apply wpOrd_skip rfl (by decide) rfl; (focus (go_simp; rfl)))
          | (apply wpOrd_pure rfl rfl rfl; (focus (intro _ _; go_simp; (try go_ints); rfl)); (focus (go_simp; rfl)))
          | (apply wpOrd_read rfl rfl rfl; (focus (intro _; go_simp; (try go_ints); rfl)); (focus (go_simp; rfl))))
        refine wpOrd_pure rfl rfl rfl (v := .int .u8 ((hexd hi).toNat : Int)) ?_ rfl ?_
        · intro _ _
          go_simp
          rw [dif_pos (by omega), dg16' hi16]
          rfl
        repeat (first
          | (apply wpOrd_skip rfl (by decide) rfl; (focus (go_simp; rfl)))
          | (apply wpOrd_pure rfl rfl rfl; (focus (intro _ _; go_simp; (try go_ints); rfl)); (focus (go_simp; rfl)))
          | (apply wpOrd_read rfl rfl rfl; (focus (intro _; go_simp; (try go_ints); rfl)); (focus (go_simp; rfl))))
        refine wpOrd_pure rfl rfl rfl (v := .int .u8 ((hexd lo).toNat : Int)) ?_ rfl ?_
        · intro _ _
          go_simp
          rw [dif_pos (by omega), dg16' lo16]
          rfl
        repeat (first
          | (apply wpOrd_skip rfl (by decide) rfl; (focus (go_simp; rfl)))
          | (apply wpOrd_pure rfl rfl rfl; (focus (intro _ _; go_simp; (try go_ints); rfl)); (focus (go_simp; rfl)))
          | (apply wpOrd_read rfl rfl rfl; (focus (intro _; go_simp; (try go_ints); rfl)); (focus (go_simp; rfl))))
        refine wpOrd_eff rfl rfl (fun n7 => ?_)
        go_wp2_with fail
        refine wpOrd_eff rfl rfl (fun n8 => ?_)
        obtain ⟨b', c', W', hrun, hM⟩ := Mine.app4 HQQ.out n7 n8 #[.int .u8 92, .int .u8 120, .int .u8 ((hexd hi).toNat : Int), .int .u8 ((hexd lo).toNat : Int)] [92, 120, hexd hi, hexd lo] 4 rfl rfl (by omega)
        have HX := Lib.hid hrun
        have HM := Lib.hid hM
        clear hrun hM
        refine wpList_append_run rfl rfl rfl rfl HX.out (wpList_nil ⟨rfl, trivial, ?_⟩)
        repeat (first
          | (apply wpOrd_skip rfl (by decide) rfl; (focus (go_simp; rfl)))
          | (apply wpOrd_pure rfl rfl rfl; (focus (intro _ _; go_simp; (try go_ints); rfl)); (focus (go_simp; rfl)))
          | (apply wpOrd_read rfl rfl rfl; (focus (intro _; go_simp; (try go_ints); rfl)); (focus (go_simp; rfl))))
        refine wpOrd_nil (fun nq => ?_)
        go_wp2_with fail
        go_roundw
        case rel => exact ⟨k + 1, n + 4, _, _, by omega, by omega, by omega, by go_num, rfl, by rw [QRel, HS.out, show quo d = _ from HC.out, ← HN.out.1, ← HN.out.2]; exact HM.out.no ((Kp.refl _ _).drewN nq)⟩
        case measure => simp [intOf]; omega
      · have HC := Lib.hid (quo_sign HCV.out (Or.inr (.inl h2)))
        have e1 : ((cv : Int) == 34) = false := by simp; omega
        have e2 : ((cv : Int) == 92) = true := by simp; omega
        clear h1 h2
        obtain ⟨hi, hhi⟩ : ∃ hi, hi = cv / 16 := ⟨_, rfl⟩
        obtain ⟨lo, hlo⟩ : ∃ lo, lo = cv % 16 := ⟨_, rfl⟩
        have hsh : (cv : Int) / 16 = (hi : Int) := by omega
        have han : bits .and .u8 (cv : Int) 15 = (lo : Int) := by rw [low8 hb8, hlo]
        have hi16 : hi < 16 := by omega
        have lo16 : lo < 16 := by omega
        have HN := Lib.hid (And.intro hhi hlo)
        clear hhi hlo
        go_wp2_with fail
        refine wp_region_ord [0,0,0,0,0,0,0,2,2,0] [0,1,2,3,4,5,6,7,8,9] (by kernel_rfl) (by kernel_rfl) ?_
        repeat (first
          | (apply wpOrd_skip rfl (by decide) rfl; (focus (go_simp; rfl)))
          | (apply wpOrd_pure rfl rfl rfl; (focus (intro _ _; go_simp; (try go_ints); rfl)); (focus (go_simp; rfl)))
          | (apply wpOrd_read rfl rfl rfl; (focus (intro _; go_simp; (try go_ints); rfl)); (focus (go_simp; rfl))))
        refine wpOrd_pure rfl rfl rfl (v := .int .u8 ((hexd hi).toNat : Int)) ?_ rfl ?_
        · intro _ _
          go_simp
          rw [dif_pos (by omega), dg16' hi16]
          rfl
        repeat (first
          | (apply wpOrd_skip rfl (by decide) rfl; (focus (go_simp; rfl)))
          | (apply wpOrd_pure rfl rfl rfl; (focus (intro _ _; go_simp; (try go_ints); rfl)); (focus (go_simp; rfl)))
          | (apply wpOrd_read rfl rfl rfl; (focus (intro _; go_simp; (try go_ints); rfl)); (focus (go_simp; rfl))))
        refine wpOrd_pure rfl rfl rfl (v := .int .u8 ((hexd lo).toNat : Int)) ?_ rfl ?_
        · intro _ _
          go_simp
          rw [dif_pos (by omega), dg16' lo16]
          rfl
        repeat (first
          | (apply wpOrd_skip rfl (by decide) rfl; (focus (go_simp; rfl)))
          | (apply wpOrd_pure rfl rfl rfl; (focus (intro _ _; go_simp; (try go_ints); rfl)); (focus (go_simp; rfl)))
          | (apply wpOrd_read rfl rfl rfl; (focus (intro _; go_simp; (try go_ints); rfl)); (focus (go_simp; rfl))))
        refine wpOrd_eff rfl rfl (fun n7 => ?_)
        go_wp2_with fail
        refine wpOrd_eff rfl rfl (fun n8 => ?_)
        obtain ⟨b', c', W', hrun, hM⟩ := Mine.app4 HQQ.out n7 n8 #[.int .u8 92, .int .u8 120, .int .u8 ((hexd hi).toNat : Int), .int .u8 ((hexd lo).toNat : Int)] [92, 120, hexd hi, hexd lo] 4 rfl rfl (by omega)
        have HX := Lib.hid hrun
        have HM := Lib.hid hM
        clear hrun hM
        refine wpList_append_run rfl rfl rfl rfl HX.out (wpList_nil ⟨rfl, trivial, ?_⟩)
        repeat (first
          | (apply wpOrd_skip rfl (by decide) rfl; (focus (go_simp; rfl)))
          | (apply wpOrd_pure rfl rfl rfl; (focus (intro _ _; go_simp; (try go_ints); rfl)); (focus (go_simp; rfl)))
          | (apply wpOrd_read rfl rfl rfl; (focus (intro _; go_simp; (try go_ints); rfl)); (focus (go_simp; rfl))))
        refine wpOrd_nil (fun nq => ?_)
        go_wp2_with fail
        go_roundw
        case rel => exact ⟨k + 1, n + 4, _, _, by omega, by omega, by omega, by go_num, rfl, by rw [QRel, HS.out, show quo d = _ from HC.out, ← HN.out.1, ← HN.out.2]; exact HM.out.no ((Kp.refl _ _).drewN nq)⟩
        case measure => simp [intOf]; omega
      · have HC := Lib.hid (quo_sign HCV.out (Or.inr (.inr (.inl h3))))
        have e1 : ((cv : Int) == 34) = false := by simp; omega
        have e2 : ((cv : Int) == 92) = false := by simp; omega
        clear h1 h2
        obtain ⟨hi, hhi⟩ : ∃ hi, hi = cv / 16 := ⟨_, rfl⟩
        obtain ⟨lo, hlo⟩ : ∃ lo, lo = cv % 16 := ⟨_, rfl⟩
        have hsh : (cv : Int) / 16 = (hi : Int) := by omega
        have han : bits .and .u8 (cv : Int) 15 = (lo : Int) := by rw [low8 hb8, hlo]
        have hi16 : hi < 16 := by omega
        have lo16 : lo < 16 := by omega
        have HN := Lib.hid (And.intro hhi hlo)
        clear hhi hlo
        go_wp2_with fail
        refine wp_region_ord [0,0,0,0,0,0,0,2,2,0] [0,1,2,3,4,5,6,7,8,9] (by kernel_rfl) (by kernel_rfl) ?_
        repeat (first
          | (apply wpOrd_skip rfl (by decide) rfl; (focus (go_simp; rfl)))
          | (apply wpOrd_pure rfl rfl rfl; (focus (intro _ _; go_simp; (try go_ints); rfl)); (focus (go_simp; rfl)))
          | (apply wpOrd_read rfl rfl rfl; (focus (intro _; go_simp; (try go_ints); rfl)); (focus (go_simp; rfl))))
        refine wpOrd_pure rfl rfl rfl (v := .int .u8 ((hexd hi).toNat : Int)) ?_ rfl ?_
        · intro _ _
          go_simp
          rw [dif_pos (by omega), dg16' hi16]
          rfl
        repeat (first
          | (apply wpOrd_skip rfl (by decide) rfl; (focus (go_simp; rfl)))
          | (apply wpOrd_pure rfl rfl rfl; (focus (intro _ _; go_simp; (try go_ints); rfl)); (focus (go_simp; rfl)))
          | (apply wpOrd_read rfl rfl rfl; (focus (intro _; go_simp; (try go_ints); rfl)); (focus (go_simp; rfl))))
        refine wpOrd_pure rfl rfl rfl (v := .int .u8 ((hexd lo).toNat : Int)) ?_ rfl ?_
        · intro _ _
          go_simp
          rw [dif_pos (by omega), dg16' lo16]
          rfl
        repeat (first
          | (apply wpOrd_skip rfl (by decide) rfl; (focus (go_simp; rfl)))
          | (apply wpOrd_pure rfl rfl rfl; (focus (intro _ _; go_simp; (try go_ints); rfl)); (focus (go_simp; rfl)))
          | (apply wpOrd_read rfl rfl rfl; (focus (intro _; go_simp; (try go_ints); rfl)); (focus (go_simp; rfl))))
        refine wpOrd_eff rfl rfl (fun n7 => ?_)
        go_wp2_with fail
        refine wpOrd_eff rfl rfl (fun n8 => ?_)
        obtain ⟨b', c', W', hrun, hM⟩ := Mine.app4 HQQ.out n7 n8 #[.int .u8 92, .int .u8 120, .int .u8 ((hexd hi).toNat : Int), .int .u8 ((hexd lo).toNat : Int)] [92, 120, hexd hi, hexd lo] 4 rfl rfl (by omega)
        have HX := Lib.hid hrun
        have HM := Lib.hid hM
        clear hrun hM
        refine wpList_append_run rfl rfl rfl rfl HX.out (wpList_nil ⟨rfl, trivial, ?_⟩)
        repeat (first
          | (apply wpOrd_skip rfl (by decide) rfl; (focus (go_simp; rfl)))
          | (apply wpOrd_pure rfl rfl rfl; (focus (intro _ _; go_simp; (try go_ints); rfl)); (focus (go_simp; rfl)))
          | (apply wpOrd_read rfl rfl rfl; (focus (intro _; go_simp; (try go_ints); rfl)); (focus (go_simp; rfl))))
        refine wpOrd_nil (fun nq => ?_)
        go_wp2_with fail
        go_roundw
        case rel => exact ⟨k + 1, n + 4, _, _, by omega, by omega, by omega, by go_num, rfl, by rw [QRel, HS.out, show quo d = _ from HC.out, ← HN.out.1, ← HN.out.2]; exact HM.out.no ((Kp.refl _ _).drewN nq)⟩
        case measure => simp [intOf]; omega
      · have HC := Lib.hid (quo_sign HCV.out (Or.inr (.inr (.inr h4))))
        have e1 : ((cv : Int) == 34) = false := by simp; omega
        have e2 : ((cv : Int) == 92) = false := by simp; omega
        clear h1 h2
        obtain ⟨hi, hhi⟩ : ∃ hi, hi = cv / 16 := ⟨_, rfl⟩
        obtain ⟨lo, hlo⟩ : ∃ lo, lo = cv % 16 := ⟨_, rfl⟩
        have hsh : (cv : Int) / 16 = (hi : Int) := by omega
        have han : bits .and .u8 (cv : Int) 15 = (lo : Int) := by rw [low8 hb8, hlo]
        have hi16 : hi < 16 := by omega
        have lo16 : lo < 16 := by omega
        have HN := Lib.hid (And.intro hhi hlo)
        clear hhi hlo
        go_wp2_with fail
        refine wp_region_ord [0,0,0,0,0,0,0,2,2,0] [0,1,2,3,4,5,6,7,8,9] (by kernel_rfl) (by kernel_rfl) ?_
        repeat (first
          | (apply wpOrd_skip rfl (by decide) rfl; (focus (go_simp; rfl)))
          | (apply wpOrd_pure rfl rfl rfl; (focus (intro _ _; go_simp; (try go_ints); rfl)); (focus (go_simp; rfl)))
          | (apply wpOrd_read rfl rfl rfl; (focus (intro _; go_simp; (try go_ints); rfl)); (focus (go_simp; rfl))))
        refine wpOrd_pure rfl rfl rfl (v := .int .u8 ((hexd hi).toNat : Int)) ?_ rfl ?_
        · intro _ _
          go_simp
          rw [dif_pos (by omega), dg16' hi16]
          rfl
        repeat (first
          | (apply wpOrd_skip rfl (by decide) rfl; (focus (go_simp; rfl)))
          | (apply wpOrd_pure rfl rfl rfl; (focus (intro _ _; go_simp; (try go_ints); rfl)); (focus (go_simp; rfl)))
          | (apply wpOrd_read rfl rfl rfl; (focus (intro _; go_simp; (try go_ints); rfl)); (focus (go_simp; rfl))))
        refine wpOrd_pure rfl rfl rfl (v := .int .u8 ((hexd lo).toNat : Int)) ?_ rfl ?_
        · intro _ _
          go_simp
          rw [dif_pos (by omega), dg16' lo16]
          rfl
        repeat (first
          | (apply wpOrd_skip rfl (by decide) rfl; (focus (go_simp; rfl)))
          | (apply wpOrd_pure rfl rfl rfl; (focus (intro _ _; go_simp; (try go_ints); rfl)); (focus (go_simp; rfl)))
          | (apply wpOrd_read rfl rfl rfl; (focus (intro _; go_simp; (try go_ints); rfl)); (focus (go_simp; rfl))))
        refine wpOrd_eff rfl rfl (fun n7 => ?_)
        go_wp2_with fail
        refine wpOrd_eff rfl rfl (fun n8 => ?_)
        obtain ⟨b', c', W', hrun, hM⟩ := Mine.app4 HQQ.out n7 n8 #[.int .u8 92, .int .u8 120, .int .u8 ((hexd hi).toNat : Int), .int .u8 ((hexd lo).toNat : Int)] [92, 120, hexd hi, hexd lo] 4 rfl rfl (by omega)
        have HX := Lib.hid hrun
        have HM := Lib.hid hM
        clear hrun hM
        refine wpList_append_run rfl rfl rfl rfl HX.out (wpList_nil ⟨rfl, trivial, ?_⟩)
        repeat (first
          | (apply wpOrd_skip rfl (by decide) rfl; (focus (go_simp; rfl)))
          | (apply wpOrd_pure rfl rfl rfl; (focus (intro _ _; go_simp; (try go_ints); rfl)); (focus (go_simp; rfl)))
          | (apply wpOrd_read rfl rfl rfl; (focus (intro _; go_simp; (try go_ints); rfl)); (focus (go_simp; rfl))))
        refine wpOrd_nil (fun nq => ?_)
        go_wp2_with fail
        go_roundw
        case rel => exact ⟨k + 1, n + 4, _, _, by omega, by omega, by omega, by go_num, rfl, by rw [QRel, HS.out, show quo d = _ from HC.out, ← HN.out.1, ← HN.out.2]; exact HM.out.no ((Kp.refl _ _).drewN nq)⟩
        case measure => simp [intOf]; omega
      · obtain ⟨b', c', W', hrun, hM⟩ := HQQ.out.app #[.int .u8 (cv : Int)] [d] 1 rfl (by rw [HCV.out]; rfl) (by omega)
        have HX := Lib.hid hrun
        have HM := Lib.hid hM
        have HC := Lib.hid (quo_plain HCV.out h1 h2 h3 h4)
        have e1 : ((cv : Int) == 34) = false := by simp; omega
        have e2 : ((cv : Int) == 92) = false := by simp; omega
        clear hrun hM h1 h2
        go_wp2_with (at_builtin; refine wpList_append_run rfl rfl rfl rfl HX.out ?_)
        go_roundw
        case rel => exact ⟨k + 1, n + 1, _, _, by omega, by omega, by omega, by go_num, rfl, by rw [QRel, HS.out, show quo d = _ from HC.out]; exact HM.out⟩
        case measure => simp [intOf]; omega
    · obtain rfl : k = l.length := by omega
      obtain ⟨b', c', W', hrun, hM⟩ := (show Mine w0 wr _ _ _ from HQ).app #[.int .u8 34] [34] 1 rfl rfl (by omega)
      have hs := hM.str (by omega)
      rw [List.take_length] at hs
      have HX := Lib.hid hrun
      have HM := Lib.hid hM
      have HST := Lib.hid hs
      clear hrun hM hs
      go_wp2_with (at_builtin; refine wpList_append_run rfl rfl rfl rfl HX.out ?_)
      rw [HST.out]
      simp only [Result.andThen_ok]
      go_wp2_with fail
      go_ret
      exact ⟨rfl, HM.out.kp⟩
end Go.Proofs.YthkbcfenjodbmaaDoor
