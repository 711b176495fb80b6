/-
  Texts laid together: DiskSame, DiskMove, Tok, WPlain, WName, WLog.
-/
import Derived.Test.YtdibkdgafidjgaaGreatDoorWa3
import Derived.WalkKit
import Derived.Lib.ItoaNum
namespace Go.Proofs.YtdibkdgafidjgaaGreatDoor
open Go.RowKit Go.Mer
theorem u8_ne {x y : UInt8} (h : ¬ x = y) : ((x.toNat : Int) != (y.toNat : Int)) = true := by
 simp only [bne_iff_ne, ne_eq, Int.natCast_inj]
 exact fun e => h (UInt8.toNat_inj.1 e)
set_option maxHeartbeats 400000 in
theorem same_any (a b : Option Addr) (c d B B' : Nat) (xs ys : List UInt8) (w : World) (hx : Rd w B a (u8s xs)) (hy : Rd w B' b (u8s ys)) (hm : xs.length ≤ 140737488355328) :
  Calls Tryz.prog 24 #[.slice a xs.length c, .slice b ys.length d] w fun e w' => e = .returned (.bool (decide (xs = ys))) ∧ ∃ n, w' = w.drewN n := by
 by_cases hl : xs.length = ys.length
 ·have HL := Lib.hid hl
  rw [← hl]
  clear hl
  have HX := Lib.hid hx
  have HY := Lib.hid hy
  clear hx hy
  go_enter Tryz.func24, Tryz.ntmps24
  go_wp2_with fail
  go_loopg [5] xs.length (fun g i wr => ∃ k : Nat, k ≤ xs.length ∧ g = xs.length - k ∧ i = .int .i64 k ∧ Hid (∃ n, wr = w.drewN n) ∧ Hid (xs.take k = ys.take k))
  case atStart => exact ⟨0, Nat.zero_le _, rfl, rfl, ⟨0, rfl⟩, rfl⟩
  case round =>
   obtain ⟨k, hk, rfl, rfl, hw, ht⟩ := hrel
   by_cases hlt : k < xs.length
   ·have hlt2 : k < ys.length := by have := HL.out; omega
    have hxw : Rd wr B a (u8s xs) := by obtain ⟨n, rfl⟩ := hw.out; exact HX.out
    have hyw : Rd wr B' b (u8s ys) := by obtain ⟨n, rfl⟩ := hw.out; exact HY.out
    obtain ⟨g, off, rfl, hg, hB, hc⟩ := hxw.byte hlt
    obtain ⟨g', off', rfl, hg', hB', hc'⟩ := hyw.byte (i := k) hlt2
    have hgl : g < wr.heap.size := by omega
    have hgl' : g' < wr.heap.size := by omega
    have hcn : ∀ n, (wr.drewN n).cell? ⟨g, off + k, none⟩ = some (.int .u8 (xs[k].toNat : Int)) := fun _ => hc
    have hcn' : ∀ n, (wr.drewN n).cell? ⟨g', off' + k, none⟩ = some (.int .u8 (ys[k].toNat : Int)) := fun _ => hc'
    by_cases he : xs[k] = ys[k]
    ·rw [← he] at hcn'
     have htk : Hid (xs.take (k + 1) = ys.take (k + 1)) := by
      show _ = _
      rw [List.take_succ_eq_append_getElem hlt, List.take_succ_eq_append_getElem hlt2, ht.out, he]
     clear he hxw hyw hc hc'
     go_wp2_with fail
     refine wp_region_ord [0,0,0,1,0,0,0,1,0] [0,1,2,4,5,6,3,7,8] (by kernel_rfl) (by kernel_rfl) ?_
     repeat (first
      | (apply wpOrd_skip rfl (by decide) rfl; (focus (go_simp; rfl)))
      | (apply wpOrd_pure rfl rfl rfl; (focus (intro _ _; go_simp; (try go_ints); rfl)); (focus (go_simp; rfl)))
      | (apply wpOrd_read rfl rfl rfl; (focus (intro _; go_simp; (try go_ints); rfl)); (focus (go_simp; rfl))))
     refine wpOrd_nil (fun nq => ?_)
     go_wp2_with fail
     go_roundg (xs.length - (k + 1))
     case measure => omega
     case rel => exact ⟨k + 1, by omega, rfl, by go_num, by obtain ⟨n, e⟩ := hw.out; exact ⟨n + nq, by rw [e, World.drewN_drewN]⟩, htk⟩
    ·have hne := u8_ne he
     have hXY : decide (xs = ys) = false := by
      simp only [decide_eq_false_iff_not]
      rintro rfl
      exact he rfl
     have HXY := Lib.hid hXY
     clear he hxw hyw hc hc' hXY
     go_wp2_with fail
     refine wp_region_ord [0,0,0,1,0,0,0,1,0] [0,1,2,4,5,6,3,7,8] (by kernel_rfl) (by kernel_rfl) ?_
     repeat (first
      | (apply wpOrd_skip rfl (by decide) rfl; (focus (go_simp; rfl)))
      | (apply wpOrd_pure rfl rfl rfl; (focus (intro _ _; go_simp; (try go_ints); rfl)); (focus (go_simp; rfl)))
      | (apply wpOrd_read rfl rfl rfl; (focus (intro _; go_simp; (try go_ints); rfl)); (focus (go_simp; rfl))))
     refine wpOrd_nil (fun nq => ?_)
     go_wp2_with fail
     go_ret
     exact ⟨(by rw [HXY.out]; try rfl), by obtain ⟨n, e⟩ := hw.out; exact ⟨n + nq, by rw [e, World.drewN_drewN]⟩⟩
   ·have hXY : decide (xs = ys) = true := by
     have h1 := ht.out
     rw [List.take_of_length_le (by omega), List.take_of_length_le (by have := HL.out; omega)] at h1
     simp [h1]
    have HXY := Lib.hid hXY
    clear hXY
    go_wp2_with fail
    go_ret
    exact ⟨(by rw [HXY.out]; try rfl), hw.out⟩
 ·have hXY : decide (xs = ys) = false := by
   simp only [decide_eq_false_iff_not]
   rintro rfl
   exact hl rfl
  have HXY := Lib.hid hXY
  have hne : ¬ ((xs.length : Int) = (ys.length : Int)) := by omega
  clear hx hy hl hXY
  go_enter Tryz.func24, Tryz.ntmps24
  go_wp2_with fail
  go_ret
  exact ⟨(by rw [HXY.out]; try rfl), 0, rfl⟩
set_option maxHeartbeats 400000 in
theorem remove_none (w : World) (d m room : Nat) (fused : Bool) (left : Int) (L : FilesR) (hD : DiskC w d m room fused left L) (name : ByteArray) (hc : gget L name = none)
  (na : Option Addr) (nc : Nat) (hns : Rd w w.heap.size na [Value.string name]) (N : Int) (pv : Value) :
  Calls Tryz.prog 125 #[.pointer (some ⟨d, 0, none⟩), .agg #[.slice na 1 nc, .int .i64 N, pv]] w fun e w' =>
   e = .returned (.int .i64 7) ∧ Kp No w w' := by
 obtain ⟨g, off, rfl, hg, _, hcn⟩ := hns.at_ (i := 0) rfl
 simp only [Nat.add_zero] at hcn
 have FA := facts hD (nc := nc) (N := N) (pv := pv) hcn
 have f1 := FA.d0
 have f2 := FA.d1
 have f3 := FA.b0
 have f4 := FA.b1
 have f5 := FA.b2
 have f6 := FA.nm
 have f7 := FA.look
 have f8 := FA.many
 have f9 := FA.dr
 have hdl := get_lt hD.cell
 have H1 : Kp No w (w.alloc (.cells #[.slice (some ⟨g, off, none⟩) 1 nc, .int .i64 N, pv] 125)) := (Kp.refl _ _).alloc _
 have HD := Lib.hid hD
 clear FA hns hcn
 rw [hc] at f7
 simp only [Option.map_none, Option.getD_none] at f7
 clear hc f8 f1 f4 f5 hD
 obtain ⟨W1, hW1⟩ : ∃ W, W = w.alloc (.cells #[.slice (some ⟨g, off, none⟩) 1 nc, .int .i64 N, pv] 125) := ⟨_, rfl⟩
 go_enter Tryz.func125, Tryz.ntmps125
 go_wp2_with fail
 rw [← hW1] at f2 f3 f6 f7 f9 H1 ⊢
 clear hW1
 refine wp_region_ord [0,0,0,1,0,1,0,1,1,0] [0,1,2,4,3,5,6,7,8,9] (by kernel_rfl) (by kernel_rfl) ?_
 repeat (first
  | (apply wpOrd_skip rfl (by decide) rfl; (focus (go_simp; rfl)))
  | (apply wpOrd_pure rfl rfl rfl; (focus (intro _ _; go_simp; (try go_ints); rfl)); (focus (go_simp; rfl)))
  | (apply wpOrd_read rfl rfl rfl; (focus (intro _; go_simp; (try go_ints); rfl)); (focus (go_simp; rfl))))
 refine wpOrd_nil (fun nq => ?_)
 go_wp2_with fail
 go_ret
 exact ⟨rfl, H1.drewN _⟩
end Go.Proofs.YtdibkdgafidjgaaGreatDoor
namespace Go.Proofs.YtdibkdgafidjgaaGreatDoor
open Go.RowKit Go.Mer
theorem nodup_gdel {α : Type} {f : FileR → Option α} {L : FilesR} {a : ByteArray} (h : (L.filterMap fun p => f p.2).Nodup) : ((gdel L a).filterMap fun p => f p.2).Nodup :=
 List.Nodup.sublist (List.Sublist.filterMap _ List.filter_sublist) h
theorem totF_gdel (l : Files) (a : ByteArray) : totF (gdel l a) ≤ totF l := totF_filter _ _
theorem gdel_keys {β : Type} {l : List (ByteArray × β)} (a : ByteArray) (h : (l.map (·.1)).Nodup) : ((gdel l a).map (·.1)).Nodup := List.Nodup.sublist (List.Sublist.map _ List.filter_sublist) h
theorem gdel_no {β : Type} (l : List (ByteArray × β)) (a : ByteArray) : gget (gdel l a) a = none := gget_none (by
 intro h
 obtain ⟨p, hp, he⟩ := List.mem_map.1 h
 have := (List.mem_filter.1 hp).2
 simp at this
 exact this he)
section
variable {w w' : World} {d m room : Nat} {fused : Bool} {left : Int} {L L' : FilesR}
theorem DiskC.swap (h : DiskC w d m room fused left L) (hk : Kp (One m) w w') (hm' : GMap Value.string w' m (ptrL L')) (hsub : ∀ p ∈ L', ∃ q ∈ L, p.2 = q.2)
  (h1 : (L'.filterMap fun p => some p.2.blk).Nodup) (h2 : (L'.filterMap (·.2.v.ownBlock)).Nodup) (hfit : totF (absL L') ≤ room) (hfew : L'.length ≤ 4096) :
  DiskC w' d m room fused left L' ∧ Foot (FP d m L) (FP d m L') w ∧ Kp (FP d m L) w w' := by
 obtain ⟨es, ck, hm, _⟩ := h.map
 refine ⟨{ h with cell := ?_, map := hm', files := fun p hp => ?_, blks := (by simpa using h1), rows := h2, fits := hfit, few := hfew }, fun k hkk => ?_, hk.mono fun k _ hk => .inr (.inl hk)⟩
 ·exact hk.get h.cell fun hS => by
   have hS : d = m := hS
   have hc := h.cell
   rw [hS, hm] at hc
   cases hc
 ·obtain ⟨q, hq, e⟩ := hsub p hp
  rw [e]
  refine (h.files q hq).keep hk (fun hS => ?_) fun g hg hS => ?_
  ·have hf := (h.files q hq).1
   rw [show q.2.blk = m from hS, hm] at hf
   cases hf
  ·obtain ⟨cur, hcur⟩ := (h.files q hq).2.1.type g hg
   rw [show g = m from hS, hm] at hcur
   cases hcur
 ·rcases hkk with rfl | rfl | ⟨p, hp, hpk⟩
  ·exact .inl (.inl rfl)
  ·exact .inl (.inr (.inl rfl))
  ·obtain ⟨q, hq, e⟩ := hsub p hp
   exact .inl (.inr (.inr ⟨q, hq, e ▸ hpk⟩))
theorem DiskC.del (h : DiskC w d m room fused left L) (a : ByteArray) (hk : Kp (One m) w w') (hm' : GMap Value.string w' m (gdel (ptrL L) a)) :
  DiskC w' d m room fused left (gdel L a) ∧ Foot (FP d m L) (FP d m (gdel L a)) w ∧ Kp (FP d m L) w w' := by
 have e : ptrL (gdel L a) = gdel (ptrL L) a := gdel_mapv _ L a
 rw [← e] at hm'
 refine h.swap hk hm' (fun p hp => ⟨p, (List.mem_filter.1 hp).1, rfl⟩) (nodup_gdel (f := fun c => some c.blk) (by simpa using h.blks)) (nodup_gdel (f := fun c => c.v.ownBlock) h.rows) ?_ ?_
 ·rw [gdel_abs]
  exact Nat.le_trans (totF_gdel _ _) h.fits
 ·exact Nat.le_trans (List.length_filter_le _ _) h.few
end
set_option maxHeartbeats 400000 in
theorem remove_some (w : World) (d m room : Nat) (fused : Bool) (left : Int) (L : FilesR) (hD : DiskC w d m room fused left L) (name : ByteArray) (c : FileR) (hc : gget L name = some c)
  (na : Option Addr) (nc : Nat) (hns : Rd w w.heap.size na [Value.string name]) (N : Int) (pv : Value) :
  Calls Tryz.prog 125 #[.pointer (some ⟨d, 0, none⟩), .agg #[.slice na 1 nc, .int .i64 N, pv]] w fun e w' =>
   e = .returned (.int .i64 0) ∧ DiskC w' d m room fused left (gdel L name) ∧ Foot (FP d m L) (FP d m (gdel L name)) w ∧ Kp (FP d m L) w w' := by
 obtain ⟨g, off, rfl, hg, _, hcn⟩ := hns.at_ (i := 0) rfl
 simp only [Nat.add_zero] at hcn
 have FA := facts hD (nc := nc) (N := N) (pv := pv) hcn
 have f1 := FA.d0
 have f2 := FA.d1
 have f3 := FA.b0
 have f4 := FA.b1
 have f5 := FA.b2
 have f6 := FA.nm
 have f7 := FA.look
 have f8 := FA.many
 have f9 := FA.dr
 have hdl := get_lt hD.cell
 have H1 : Kp No w (w.alloc (.cells #[.slice (some ⟨g, off, none⟩) 1 nc, .int .i64 N, pv] 125)) := (Kp.refl _ _).alloc _
 have HD := Lib.hid hD
 clear FA hns hcn
 rw [hc] at f7
 simp only [Option.map_some, Option.getD_some, FileR.ptr] at f7
 clear hc f8 f1 f4 f5 hD
 obtain ⟨W1, hW1⟩ : ∃ W, W = w.alloc (.cells #[.slice (some ⟨g, off, none⟩) 1 nc, .int .i64 N, pv] 125) := ⟨_, rfl⟩
 go_enter Tryz.func125, Tryz.ntmps125
 go_wp2_with fail
 rw [← hW1] at f2 f3 f6 f7 f9 H1 ⊢
 clear hW1
 refine wp_region_ord [0,0,0,1,0,1,0,1,1,0] [0,1,2,4,3,5,6,7,8,9] (by kernel_rfl) (by kernel_rfl) ?_
 repeat (first
  | (apply wpOrd_skip rfl (by decide) rfl; (focus (go_simp; rfl)))
  | (apply wpOrd_pure rfl rfl rfl; (focus (intro _ _; go_simp; (try go_ints); rfl)); (focus (go_simp; rfl)))
  | (apply wpOrd_read rfl rfl rfl; (focus (intro _; go_simp; (try go_ints); rfl)); (focus (go_simp; rfl))))
 refine wpOrd_nil (fun nq => ?_)
 go_wp2_with fail
 obtain ⟨W2, hW2⟩ : ∃ W, W = W1.drewN nq := ⟨_, rfl⟩
 have K2 : ∀ n, Kp No W1 (W2.drewN n) := fun n => by rw [hW2]; exact (f9 nq).drewN n
 have g2 := fun n => f2 _ (K2 n)
 have g3 := fun n => f3 _ (K2 n)
 have g6 := fun n => f6 _ (K2 n)
 have H2 : Kp No w W2 := by rw [hW2]; exact H1.drewN nq
 rw [← hW2]
 clear hW2 f2 f3 f6 f7 f9
 refine wp_region_ord [0,0,0,1,0,1,0,1,2] [0,1,2,4,3,5,6,7,8] (by kernel_rfl) (by kernel_rfl) ?_
 repeat (first
  | (apply wpOrd_skip rfl (by decide) rfl; (focus (go_simp; rfl)))
  | (apply wpOrd_pure rfl rfl rfl; (focus (intro _ _; go_simp; (try go_ints); rfl)); (focus (go_simp; rfl)))
  | (apply wpOrd_read rfl rfl rfl; (focus (intro _; go_simp; (try go_ints); rfl)); (focus (go_simp; rfl))))
 refine wpOrd_eff rfl rfl (fun ng => ?_)
 have hDA := HD.out.keep_no (H2.drewN ng)
 obtain ⟨o, hdel, hG⟩ := run_delete_g (P := Tryz.prog) (ty := 0) (w := W2.drewN ng) Tryz.underlying78 kindStr strKey strInj hDA.map name
 have hml := hDA.map.lt
 have HG := Lib.hid hG
 clear hG hDA
 go_wp2_with fail
 refine wpOrd_nil (fun nq => ?_)
 go_wp2_with fail
 go_ret
 have hDA := HD.out.keep_no (H2.drewN ng)
 have kC : Kp (One m) (W2.drewN ng) ((ChangeMaps.setBlock (W2.drewN ng) m o).drewN nq) := ((Kp.refl (One m) _).setBlock (.inl rfl) o).drewN nq
 have hmC : ((ChangeMaps.setBlock (W2.drewN ng) m o).drewN nq).heap[m]? = some o := setBlock_at (w := W2.drewN ng) hml o
 obtain ⟨h1, h2, h3⟩ := hDA.del name kC (HG.out _ hmC)
 exact ⟨rfl, h1, fun k hk => (h2 k hk).imp id fun h => Nat.le_trans (H2.drewN ng).size h, (Kp.of_no (H2.drewN ng)).trans_same h3⟩
def rmCode (s : DSt) (name : ByteArray) : Int := if gget s.files name = none then 7 else 0
def rmS (s : DSt) (name : ByteArray) : Int × DSt := five s [name] (rmCode s name) (gdel s.files name)
set_option maxHeartbeats 400000 in
theorem Remove_any (w : World) (d : Nat) (s : DSt) (F : Nat → Prop) (hD : DiskAt w d s F) (name : ByteArray) :
  Calls Tryz.prog 96 #[.pointer (some ⟨d, 0, none⟩), .string name] w (Said5 w d F (rmS s name)) := by
 obtain ⟨m, fused, left, L, hC, hf, hs, hF, hFs⟩ := hD
 have h1 : Kp No w (w.alloc (.cells #[.string name] 9)) := (Kp.refl _ _).alloc _
 have hcf : ∀ args w, (callFunc 125 args).run Tryz.prog w = .ok (.enter 125 args) w := fun args w => by simp [go_sem]
 have hg := gate_five (w.alloc (.cells #[.string name] 9)) d m fused left L s F (hC.keep_no h1) hf hs hF (fun k hk => h1.lt (hFs k hk)) 125 hcf (some ⟨w.heap.size, 0, none⟩) 1 [name] 0 (.slice none 0 0)
  (name_rd w name) (by simp) (rmCode s name) (gdel s.files name) (by
   intro _ w1 hw1
   have hC1 := (hC.keep_no h1).keep_no hw1
   have hn1 := ((name_rd w name).keep hw1 fun _ _ x => x).mono hw1.size (Nat.le_refl _)
   cases hc : gget L name with
   | none =>
    have hga : gget s.files name = none := by rw [hs, gget_abs, hc]; rfl
    refine (remove_none w1 d m s.room fused left L hC1 name hc (some ⟨w.heap.size, 0, none⟩) 1 hn1 0 (.slice none 0 0)).mono fun e w2 ⟨he, hw⟩ => ?_
    have e7 : rmCode s name = 7 := by unfold rmCode; rw [if_pos hga]
    rw [e7]
    exact ⟨he, L, hC1.keep_no hw, rfl, Foot.refl _ _, Kp.of_no hw⟩
   | some c =>
    have hga : gget s.files name = some c.abs := by rw [hs, gget_abs, hc]; rfl
    refine (remove_some w1 d m s.room fused left L hC1 name c hc (some ⟨w.heap.size, 0, none⟩) 1 hn1 0 (.slice none 0 0)).mono fun e w2 ⟨he, h2, h3, h4⟩ => ?_
    have e0 : rmCode s name = 0 := by unfold rmCode; rw [if_neg (by rw [hga]; simp)]
    rw [e0, hs]
    exact ⟨he, _, h2, gdel_abs L name, h3, h4⟩)
 have HG := Lib.hid hg
 clear hg hC hF hFs hf hs
 go_enter Tryz.func96, Tryz.ntmps96
 go_wp2_with fail
 refine (HG.out).mono ?_
 rintro e w' ⟨rfl, F', h2, h3, h4⟩
 have H2 := Lib.hid h2
 have H3 := Lib.hid h3
 have H4 := Lib.hid h4
 clear h2 h3 h4
 go_wp2_with fail
 go_ret
 exact ⟨rfl, F', H2.out, fun k hk => (H3.out k hk).imp id fun h => Nat.le_trans h1.size h, (Kp.of_no h1).trans_same H4.out⟩
end Go.Proofs.YtdibkdgafidjgaaGreatDoor
namespace Go.Mer
open Go
theorem wrap_small {k : IntKind} (hk : k.signed = false) {a : Nat} (ha : a < 2 ^ k.bits) : k.wrap (a : Int) = (a : Int) := by
 have e : (2 ^ k.bits : Int) = ((2 ^ k.bits : Nat) : Int) := by simp
 unfold IntKind.wrap
 rw [hk, e]
 simp only [Bool.false_and, Bool.false_eq_true, if_false]
 exact Int.emod_eq_of_lt (by omega) (by omega)
theorem bv_small {n a : Nat} (ha : a < 2 ^ n) : (BitVec.ofInt n (a : Int)).toNat = a := by
 rw [BitVec.ofInt_natCast, BitVec.toNat_ofNat, Nat.mod_eq_of_lt ha]
theorem bits_xor {k : IntKind} (hk : k.signed = false) {a b : Nat} (ha : a < 2 ^ k.bits) (hb : b < 2 ^ k.bits) : bits .xor k (a : Int) (b : Int) = ((a ^^^ b : Nat) : Int) := by
 have h : a ^^^ b < 2 ^ k.bits := Nat.xor_lt_two_pow ha hb
 simp only [bits, BitVec.toNat_xor, bv_small ha, bv_small hb]
 exact wrap_small hk h
theorem bits_or {k : IntKind} (hk : k.signed = false) {a b : Nat} (ha : a < 2 ^ k.bits) (hb : b < 2 ^ k.bits) : bits .or k (a : Int) (b : Int) = ((a ||| b : Nat) : Int) := by
 have h : a ||| b < 2 ^ k.bits := Nat.or_lt_two_pow ha hb
 simp only [bits, BitVec.toNat_or, bv_small ha, bv_small hb]
 exact wrap_small hk h
theorem bits_and {k : IntKind} (hk : k.signed = false) {a b : Nat} (ha : a < 2 ^ k.bits) (hb : b < 2 ^ k.bits) : bits .and k (a : Int) (b : Int) = ((a &&& b : Nat) : Int) := by
 have h : a &&& b < 2 ^ k.bits := Nat.and_lt_two_pow a hb
 simp only [bits, BitVec.toNat_and, bv_small ha, bv_small hb]
 exact wrap_small hk h
def crcBit (c : Nat) : Nat := if c % 2 = 1 then (c / 2) ^^^ 3988292384 else c / 2
def crcBits : Nat → Nat → Nat
 | 0, c => c
 | n + 1, c => crcBits n (crcBit c)
def crcByte (c : Nat) (b : UInt8) : Nat := crcBits 8 (c ^^^ b.toNat)
def crcRun (c : Nat) (l : List UInt8) : Nat := l.foldl crcByte c
def crc (l : List UInt8) : Nat := crcRun 4294967295 l ^^^ 4294967295
theorem crcBit_lt {c : Nat} (h : c < 4294967296) : crcBit c < 4294967296 := by
 unfold crcBit
 split
 ·exact Nat.xor_lt_two_pow (n := 32) (by omega) (by decide)
 ·omega
theorem crcBits_lt (n : Nat) : ∀ {c : Nat}, c < 4294967296 → crcBits n c < 4294967296 := by
 induction n with
 | zero => intro c h; exact h
 | succ n ih => intro c h; exact ih (crcBit_lt h)
theorem crcBits_succ (n c : Nat) : crcBits (n + 1) c = crcBit (crcBits n c) := by
 induction n generalizing c with
 | zero => rfl
 | succ n ih => exact ih (crcBit c)
theorem xb_lt {c : Nat} (h : c < 4294967296) (b : UInt8) : c ^^^ b.toNat < 4294967296 :=
 Nat.xor_lt_two_pow (n := 32) h (by have := b.toNat_lt; omega)
theorem crcByte_lt {c : Nat} (h : c < 4294967296) (b : UInt8) : crcByte c b < 4294967296 := crcBits_lt 8 (xb_lt h b)
theorem crcRun_lt (l : List UInt8) : ∀ {c : Nat}, c < 4294967296 → crcRun c l < 4294967296 := by
 induction l with
 | nil => intro c h; exact h
 | cons b l ih => intro c h; exact ih (crcByte_lt h b)
theorem crc_lt (l : List UInt8) : crc l < 4294967296 := Nat.xor_lt_two_pow (n := 32) (crcRun_lt l (by decide)) (by decide)
theorem crcRun_snoc (c : Nat) (l : List UInt8) (b : UInt8) : crcRun c (l ++ [b]) = crcByte (crcRun c l) b := by simp [crcRun]
theorem crcRun_append (c : Nat) (l k : List UInt8) : crcRun c (l ++ k) = crcRun (crcRun c l) k := by simp [crcRun]
end Go.Mer
namespace Go.Mer
open Go
def fourL (v : Nat) : List UInt8 := [UInt8.ofNat v, UInt8.ofNat (v / 256), UInt8.ofNat (v / 65536), UInt8.ofNat (v / 16777216)]
def byteAt (b : List UInt8) (i : Nat) : Nat := (b.getD i 0).toNat
def from4 (b : List UInt8) : Nat := byteAt b 0 + byteAt b 1 * 256 + byteAt b 2 * 65536 + byteAt b 3 * 16777216
theorem byteAt_lt (b : List UInt8) (i : Nat) : byteAt b i < 256 := (b.getD i 0).toNat_lt
theorem from4_lt (b : List UInt8) : from4 b < 4294967296 := by
 unfold from4
 have := byteAt_lt b 0
 have := byteAt_lt b 1
 have := byteAt_lt b 2
 have := byteAt_lt b 3
 omega
theorem u8_of (n : Nat) : (UInt8.ofNat n).toNat = n % 256 := UInt8.toNat_ofNat'
theorem fourL_length (v : Nat) : (fourL v).length = 4 := rfl
theorem from4_four (v : Nat) (h : v < 4294967296) (r : List UInt8) : from4 (fourL v ++ r) = v := by
 show byteAt (fourL v ++ r) 0 + byteAt (fourL v ++ r) 1 * 256 + byteAt (fourL v ++ r) 2 * 65536 + byteAt (fourL v ++ r) 3 * 16777216 = v
 have e0 : byteAt (fourL v ++ r) 0 = v % 256 := u8_of v
 have e1 : byteAt (fourL v ++ r) 1 = v / 256 % 256 := u8_of _
 have e2 : byteAt (fourL v ++ r) 2 = v / 65536 % 256 := u8_of _
 have e3 : byteAt (fourL v ++ r) 3 = v / 16777216 % 256 := u8_of _
 rw [e0, e1, e2, e3]
 omega
theorem four_from (b : List UInt8) (h : 4 ≤ b.length) : fourL (from4 b) = b.take 4 := by
 match b, h with
 | b0 :: b1 :: b2 :: b3 :: r, _ =>
  have h0 := b0.toNat_lt
  have h1 := b1.toNat_lt
  have h2 := b2.toNat_lt
  have h3 := b3.toNat_lt
  have e : from4 (b0 :: b1 :: b2 :: b3 :: r) = b0.toNat + b1.toNat * 256 + b2.toNat * 65536 + b3.toNat * 16777216 := rfl
  rw [e]
  unfold fourL
  rw [show (b0 :: b1 :: b2 :: b3 :: r).take 4 = [b0, b1, b2, b3] from rfl]
  have key : ∀ (x : UInt8) (n : Nat), n % 256 = x.toNat → UInt8.ofNat n = x := fun x n hx => UInt8.toNat_inj.1 (by rw [u8_of]; exact hx)
  rw [key b0 _ (by omega), key b1 _ (by omega), key b2 _ (by omega), key b3 _ (by omega)]
theorem from4_take (b : List UInt8) (n : Nat) (h : 4 ≤ n) : from4 (b.take n) = from4 b := by
 have key : ∀ i, i < 4 → byteAt (b.take n) i = byteAt b i := fun i hi => by
  unfold byteAt
  rw [List.getD_eq_getElem?_getD, List.getD_eq_getElem?_getD, List.getElem?_take_of_lt (by omega)]
 unfold from4
 rw [key 0 (by omega), key 1 (by omega), key 2 (by omega), key 3 (by omega)]
theorem from4_inj {a b : List UInt8} (ha : 4 ≤ a.length) (hb : 4 ≤ b.length) (h : from4 a = from4 b) : a.take 4 = b.take 4 := by
 rw [← four_from a ha, ← four_from b hb, h]
def headL (n : Nat) : List UInt8 := fourL n ++ fourL (crc (fourL n))
theorem headL_length (n : Nat) : (headL n).length = 8 := rfl
def bodyL (p : List UInt8) : List UInt8 := headL p.length ++ p
def frameL (p : List UInt8) : List UInt8 := bodyL p ++ fourL (crc (bodyL p))
theorem frameL_length (p : List UInt8) : (frameL p).length = p.length + 12 := by
 unfold frameL bodyL
 rw [List.length_append, List.length_append, headL_length, fourL_length]
 omega
def deF (b : List UInt8) : Option (List UInt8 × Nat) :=
 if b.length < 8 then none
 else if b.take 8 ≠ headL (from4 b) then none
 else if 262144 < from4 b then none
 else if b.length < 12 + from4 b then none
 else if from4 (b.drop (8 + from4 b)) ≠ crc (b.take (8 + from4 b)) then none
 else some ((b.drop 8).take (from4 b), from4 b + 12)
theorem deF_some {b p : List UInt8} {n : Nat} (h : deF b = some (p, n)) : n = p.length + 12 ∧ n ≤ b.length ∧ p.length ≤ 262144 ∧ (∃ r, b = frameL p ++ r) := by
 unfold deF at h
 split at h
 ·cases h
 ·next h8 =>
  split at h
  ·cases h
  ·next hh =>
   split at h
   ·cases h
   ·next hm =>
    split at h
    ·cases h
    ·next hl =>
     split at h
     ·cases h
     ·next hc =>
      injection h with h
      injection h with h1 h2
      have hpl : p.length = from4 b := by rw [← h1, List.length_take, List.length_drop]; omega
      refine ⟨by omega, by omega, by omega, b.drop (12 + from4 b), ?_⟩
      have hh' : b.take 8 = headL (from4 b) := Decidable.byContradiction hh
      have hc' : from4 (b.drop (8 + from4 b)) = crc (b.take (8 + from4 b)) := Decidable.byContradiction hc
      have e1 : b.take (8 + from4 b) = bodyL p := by
       unfold bodyL
       rw [hpl, ← hh', ← h1, List.take_add]
      have e2 : (b.drop (8 + from4 b)).take 4 = fourL (crc (bodyL p)) := by
       rw [← four_from _ (by rw [List.length_drop]; omega), hc', e1]
      have e3 : b = b.take (8 + from4 b) ++ ((b.drop (8 + from4 b)).take 4 ++ b.drop (12 + from4 b)) := by
       have : b.drop (12 + from4 b) = (b.drop (8 + from4 b)).drop 4 := by rw [List.drop_drop]; congr 1; omega
       rw [this, List.take_append_drop, List.take_append_drop]
      rw [e1, e2] at e3
      unfold frameL
      rw [List.append_assoc]
      exact e3
theorem deF_frame (p r : List UInt8) (h : p.length ≤ 262144) : deF (frameL p ++ r) = some (p, p.length + 12) := by
 have hl := frameL_length p
 have e0 : from4 (frameL p ++ r) = p.length := by
  unfold frameL bodyL headL
  rw [List.append_assoc, List.append_assoc, List.append_assoc]
  exact from4_four p.length (by omega) _
 have e1 : (frameL p ++ r).take 8 = headL p.length := by
  unfold frameL bodyL
  rw [List.append_assoc, List.append_assoc]
  exact List.take_left' (headL_length _)
 have hbl : (bodyL p).length = 8 + p.length := by unfold bodyL; rw [List.length_append, headL_length]
 have e2 : (frameL p ++ r).take (8 + p.length) = bodyL p := by
  unfold frameL
  rw [List.append_assoc]
  exact List.take_left' hbl
 have e3 : (frameL p ++ r).drop (8 + p.length) = fourL (crc (bodyL p)) ++ r := by
  unfold frameL
  rw [List.append_assoc]
  exact List.drop_left' hbl
 have e4 : ((frameL p ++ r).drop 8).take p.length = p := by
  have : (frameL p ++ r).drop 8 = p ++ (fourL (crc (bodyL p)) ++ r) := by
   unfold frameL
   conv => lhs; unfold bodyL
   rw [List.append_assoc, List.append_assoc]
   exact List.drop_left' (headL_length _)
  rw [this]
  exact List.take_left' rfl
 unfold deF
 rw [e0, e1, e2, e3, e4, from4_four _ (crc_lt _) r]
 rw [if_neg (by rw [List.length_append, hl]; omega), if_neg (fun hh => hh rfl), if_neg (by omega), if_neg (by rw [List.length_append, hl]; omega), if_neg (fun hh => hh rfl)]
theorem head_iff (b : List UInt8) (h : 8 ≤ b.length) : b.take 8 = headL (from4 b) ↔ from4 (b.drop 4) = crc (b.take 4) := by
 have e : b.take 8 = b.take 4 ++ (b.drop 4).take 4 := by
  show b.take (4 + 4) = _
  exact List.take_add
 unfold headL
 rw [four_from b (by omega), e]
 constructor
 ·intro hh
  have h2 := List.append_cancel_left hh
  have h3 := from4_four (crc (b.take 4)) (crc_lt _) []
  rw [List.append_nil, ← h2, from4_take _ 4 (Nat.le_refl _)] at h3
  exact h3
 ·intro hh
  rw [← hh, four_from _ (by rw [List.length_drop]; omega)]
def numL (n : Nat) : List UInt8 := if h : n < 128 then [UInt8.ofNat n] else UInt8.ofNat (n % 128 + 128) :: numL (n / 128)
termination_by n
decreasing_by omega
def numD : Nat → Nat → List UInt8 → Option (Nat × List UInt8)
 | _, _, [] => none
 | i, u, c :: r =>
  if 9 ≤ i ∨ (0 < i ∧ c = 0) then none
  else if c.toNat < 128 then (if 4611686018427387904 < u + c.toNat * 128 ^ i then none else some (u + c.toNat * 128 ^ i, r))
  else numD (i + 1) (u + (c.toNat - 128) * 128 ^ i) r
theorem numL_small {n : Nat} (h : n < 128) : numL n = [UInt8.ofNat n] := by rw [numL, dif_pos h]
theorem numL_step {n : Nat} (h : ¬ n < 128) : numL n = UInt8.ofNat (n % 128 + 128) :: numL (n / 128) := by rw [numL, dif_neg h]
theorem numL_length (k : Nat) : ∀ n, n < 128 ^ (k + 1) → (numL n).length ≤ k + 1 := by
 induction k with
 | zero => intro n h; rw [numL_small (by simpa using h)]; simp
 | succ k ih =>
  intro n h
  by_cases hn : n < 128
  ·rw [numL_small hn]; simp
  ·rw [numL_step hn, List.length_cons]
   have := ih (n / 128) (by rw [Nat.pow_succ] at h; omega)
   omega
theorem numD_numL (r : List UInt8) (k : Nat) : ∀ (n i u : Nat), n < 128 ^ (k + 1) → i + k ≤ 8 → (i = 0 ∨ 0 < n) → u + n * 128 ^ i ≤ 4611686018427387904 → numD i u (numL n ++ r) = some (u + n * 128 ^ i, r) := by
 induction k with
 | zero =>
  intro n i u h hi h0 hm
  have hn : n < 128 := by simpa using h
  have e : (UInt8.ofNat n).toNat = n := by rw [u8_of]; omega
  rw [numL_small hn, List.singleton_append, numD, if_neg, e, if_pos hn, if_neg (by omega)]
  rintro (h9 | ⟨h1, h2⟩)
  ·omega
  ·have := congrArg UInt8.toNat h2
   rw [e] at this
   have h3 : (0 : UInt8).toNat = 0 := rfl
   omega
 | succ k ih =>
  intro n i u h hi h0 hm
  by_cases hn : n < 128
  ·have e : (UInt8.ofNat n).toNat = n := by rw [u8_of]; omega
   rw [numL_small hn, List.singleton_append, numD, if_neg, e, if_pos hn, if_neg (by omega)]
   rintro (h9 | ⟨h1, h2⟩)
   ·omega
   ·have := congrArg UInt8.toNat h2
    rw [e] at this
    have h3 : (0 : UInt8).toNat = 0 := rfl
    omega
  ·have e : (UInt8.ofNat (n % 128 + 128)).toNat = n % 128 + 128 := by rw [u8_of]; omega
   rw [numL_step hn, List.cons_append, numD, if_neg, e, if_neg (by omega), Nat.add_sub_cancel]
   ·have hsum : u + n % 128 * 128 ^ i + n / 128 * 128 ^ (i + 1) = u + n * 128 ^ i := by
     have hd : n = 128 * (n / 128) + n % 128 := (Nat.div_add_mod n 128).symm
     rw [Nat.pow_succ]
     have : n * 128 ^ i = (128 * (n / 128) + n % 128) * 128 ^ i := by rw [← hd]
     rw [this, Nat.add_mul]
     have : n / 128 * (128 ^ i * 128) = 128 * (n / 128) * 128 ^ i := by
      rw [Nat.mul_comm (128 ^ i) 128, ← Nat.mul_assoc, Nat.mul_comm (n / 128) 128]
     omega
    rw [ih (n / 128) (i + 1) (u + n % 128 * 128 ^ i) (by rw [Nat.pow_succ] at h; omega) (by omega) (.inr (by omega)) (by rw [hsum]; exact hm), hsum]
   ·rintro (h9 | ⟨h1, h2⟩)
    ·omega
    ·have := congrArg UInt8.toNat h2
     rw [e] at this
     have h3 : (0 : UInt8).toNat = 0 := rfl
     omega
theorem numD_num (n : Nat) (h : n ≤ 4611686018427387904) (r : List UInt8) : numD 0 0 (numL n ++ r) = some (n, r) := by
 have := numD_numL r 8 n 0 0 (Nat.lt_of_le_of_lt h (by decide)) (by omega) (.inl rfl) (by omega)
 simpa using this
def entsG : Nat → Nat → List UInt8 → List (List UInt8) × Nat
 | 0, _, _ => ([], 0)
 | f + 1, k, b =>
  match deF b with
  | none => ([], 0)
  | some (p, n) =>
   match numD 0 0 p with
   | none => ([], 0)
   | some (m, q) => if m = k then (q :: (entsG f (k + 1) (b.drop n)).1, n + (entsG f (k + 1) (b.drop n)).2) else ([], 0)
def entsF (k : Nat) (b : List UInt8) : List (List UInt8) × Nat := entsG b.length k b
theorem deF_nil : deF [] = none := rfl
theorem entsG_fuel : ∀ (f : Nat) (b : List UInt8) (k : Nat), b.length ≤ f → entsG f k b = entsG b.length k b := by
 have key : ∀ (m f g : Nat) (b : List UInt8) (k : Nat), b.length ≤ m → b.length ≤ f → b.length ≤ g → entsG f k b = entsG g k b := by
  intro m
  induction m with
  | zero =>
   intro f g b k hm hf hg
   obtain rfl : b = [] := List.eq_nil_of_length_eq_zero (by omega)
   cases f <;> cases g <;> simp [entsG, deF_nil]
  | succ m ih =>
   intro f g b k hm hf hg
   cases f with
   | zero =>
    obtain rfl : b = [] := List.eq_nil_of_length_eq_zero (by omega)
    cases g <;> simp [entsG, deF_nil]
   | succ f =>
    cases g with
    | zero =>
     obtain rfl : b = [] := List.eq_nil_of_length_eq_zero (by omega)
     simp [entsG, deF_nil]
    | succ g =>
     rw [entsG, entsG]
     cases hd : deF b with
     | none => rfl
     | some x =>
      obtain ⟨p, n⟩ := x
      obtain ⟨h1, h2, _⟩ := deF_some hd
      have e : ∀ k, entsG f k (b.drop n) = entsG g k (b.drop n) := fun k => ih f g _ k (by rw [List.length_drop]; omega) (by rw [List.length_drop]; omega) (by rw [List.length_drop]; omega)
      simp only [e]
 exact fun f b k h => key b.length f b.length b k (Nat.le_refl _) h (Nat.le_refl _)
theorem entsF_more {b p q : List UInt8} {n k : Nat} (h : deF b = some (p, n)) (hq : numD 0 0 p = some (k, q)) : entsF k b = (q :: (entsF (k + 1) (b.drop n)).1, n + (entsF (k + 1) (b.drop n)).2) := by
 obtain ⟨h1, h2, _⟩ := deF_some h
 unfold entsF
 cases hl : b.length with
 | zero => omega
 | succ f =>
  rw [entsG, h]
  simp only [hq, if_true]
  rw [entsG_fuel f _ _ (by rw [List.length_drop]; omega)]
theorem entsF_none {b : List UInt8} (k : Nat) (h : deF b = none) : entsF k b = ([], 0) := by
 unfold entsF
 cases hl : b.length with
 | zero => rfl
 | succ f => rw [entsG, h]
theorem entsF_bad {b p : List UInt8} {n k : Nat} (h : deF b = some (p, n)) (hq : ∀ q, numD 0 0 p ≠ some (k, q)) : entsF k b = ([], 0) := by
 unfold entsF
 cases hl : b.length with
 | zero => rfl
 | succ f =>
  rw [entsG, h]
  cases hn : numD 0 0 p with
  | none => simp only [hn]
  | some x =>
   obtain ⟨m, q⟩ := x
   simp only [hn]
   rw [if_neg]
   rintro rfl
   exact hq q hn
theorem entsF_le (b : List UInt8) : ∀ k, (entsF k b).2 ≤ b.length := by
 have key : ∀ (m : Nat) (b : List UInt8) (k : Nat), b.length ≤ m → (entsF k b).2 ≤ b.length := by
  intro m
  induction m with
  | zero =>
   intro b k h
   obtain rfl : b = [] := List.eq_nil_of_length_eq_zero (by omega)
   rw [entsF_none k deF_nil]
   exact Nat.le_refl _
  | succ m ih =>
   intro b k h
   cases hd : deF b with
   | none => rw [entsF_none k hd]; exact Nat.zero_le _
   | some x =>
    obtain ⟨p, n⟩ := x
    obtain ⟨h1, h2, _⟩ := deF_some hd
    by_cases hq : ∃ q, numD 0 0 p = some (k, q)
    ·obtain ⟨q, hq⟩ := hq
     rw [entsF_more hd hq]
     have := ih (b.drop n) (k + 1) (by rw [List.length_drop]; omega)
     rw [List.length_drop] at this
     show n + _ ≤ _
     omega
    ·rw [entsF_bad hd fun q h => hq ⟨q, h⟩]
     exact Nat.zero_le _
 exact fun k => key b.length b k (Nat.le_refl _)
end Go.Mer
namespace Go.Mer
open Go
def dgB (c : UInt8) : Bool := decide (48 ≤ c.toNat) && decide (c.toNat ≤ 57)
def dcF : Nat → List UInt8 → Nat
 | a, [] => a
 | a, c :: r => dcF (10 * a + (c.toNat - 48)) r
theorem dcF_cons (a : Nat) (c : UInt8) (r : List UInt8) : dcF a (c :: r) = dcF (10 * a + (c.toNat - 48)) r := by
 conv => lhs; whnf
theorem dcF_nil (a : Nat) : dcF a [] = a := rfl
theorem dcF_append (l r : List UInt8) : ∀ a, dcF a (l ++ r) = dcF (dcF a l) r := by
 induction l with
 | nil => intro a; rfl
 | cons c q ih => intro a; rw [List.cons_append, dcF_cons, dcF_cons]; exact ih _
theorem dcF_one (a : Nat) (c : UInt8) : dcF a [c] = 10 * a + (c.toNat - 48) := by rw [dcF_cons]; rfl
theorem dgB_le {c : UInt8} (h : dgB c = true) : 48 ≤ c.toNat ∧ c.toNat ≤ 57 := by
 unfold dgB at h
 rw [Bool.and_eq_true, decide_eq_true_iff, decide_eq_true_iff] at h
 exact h
theorem dgB_nat (n : Nat) : dgB (UInt8.ofNat (48 + n % 10)) = true ∧ (UInt8.ofNat (48 + n % 10)).toNat = 48 + n % 10 := by
 have e : (UInt8.ofNat (48 + n % 10)).toNat = 48 + n % 10 := by rw [u8_of]; omega
 refine ⟨?_, e⟩
 unfold dgB
 rw [e, Bool.and_eq_true, decide_eq_true_iff, decide_eq_true_iff]
 omega
theorem decDm_step {u : Nat} (h : ¬ u < 10) : Lib.decDigits u = Lib.decDigits (u / 10) ++ [UInt8.ofNat (48 + u % 10)] := by
 rw [Lib.decDigits, dif_neg h]
theorem decDm_small {u : Nat} (h : u < 10) : Lib.decDigits u = [UInt8.ofNat (48 + u % 10)] := by
 rw [Lib.decDigits, dif_pos h, Nat.mod_eq_of_lt h]
theorem decDm_dig (u : Nat) : (Lib.decDigits u).all dgB = true := by
 induction u using Nat.strongRecOn with
 | _ u ih =>
  by_cases h : u < 10
  ·rw [decDm_small h, List.all_cons, (dgB_nat u).1]; rfl
  ·rw [decDm_step h, List.all_append, ih (u / 10) (by omega), List.all_cons, (dgB_nat u).1]; rfl
theorem decDm_num (u : Nat) : dcF 0 (Lib.decDigits u) = u := by
 induction u using Nat.strongRecOn with
 | _ u ih =>
  by_cases h : u < 10
  ·rw [decDm_small h, dcF_one, (dgB_nat u).2]; omega
  ·rw [decDm_step h, dcF_append, ih (u / 10) (by omega), dcF_one, (dgB_nat u).2]; omega
theorem decDm_len (k : Nat) : ∀ u, u < 10 ^ (k + 1) → (Lib.decDigits u).length ≤ k + 1 := by
 induction k with
 | zero => intro u h; rw [decDm_small (by simpa using h)]; simp
 | succ k ih =>
  intro u h
  by_cases h1 : u < 10
  ·rw [decDm_small h1]; simp
  ·rw [decDm_step h1, List.length_append]
   have := ih (u / 10) (by rw [Nat.pow_succ] at h; omega)
   simp only [List.length_singleton]
   omega
def pad8 (n : Nat) : List UInt8 := List.replicate (8 - (Lib.decDigits n).length) 48 ++ Lib.decDigits n
theorem dcF_zeros (k : Nat) (l : List UInt8) : dcF 0 (List.replicate k 48 ++ l) = dcF 0 l := by
 induction k with
 | zero => rfl
 | succ k ih =>
  rw [List.replicate_succ, List.cons_append, dcF_cons]
  exact ih
theorem pad8_num (n : Nat) : dcF 0 (pad8 n) = n := by
 unfold pad8
 rw [dcF_zeros, decDm_num]
theorem pad8_dig (n : Nat) : (pad8 n).all dgB = true := by
 unfold pad8
 rw [List.all_append, decDm_dig, Bool.and_true, List.all_eq_true]
 intro x hx
 rw [List.eq_of_mem_replicate hx]
 rfl
theorem pad8_len {n : Nat} (h : n < 100000000) : (pad8 n).length = 8 := by
 have := decDm_len 7 n h
 unfold pad8
 rw [List.length_append, List.length_replicate]
 omega
theorem dcF_lt (l : List UInt8) (h : l.all dgB = true) : ∀ a, dcF a l < (a + 1) * 10 ^ l.length := by
 induction l with
 | nil => intro a; rw [dcF_nil, List.length_nil, Nat.pow_zero, Nat.mul_one]; exact Nat.lt_succ_self a
 | cons c q ih =>
  intro a
  rw [List.all_cons, Bool.and_eq_true] at h
  have hc := dgB_le h.1
  rw [List.length_cons, Nat.pow_succ, dcF_cons]
  have h1 := ih h.2 (10 * a + (c.toNat - 48))
  have h2 : (10 * a + (c.toNat - 48) + 1) * 10 ^ q.length ≤ (10 * (a + 1)) * 10 ^ q.length := Nat.mul_le_mul_right _ (by omega)
  have h3 : (10 * (a + 1)) * 10 ^ q.length = (a + 1) * (10 ^ q.length * 10) := by
   rw [Nat.mul_comm 10, Nat.mul_assoc, Nat.mul_comm 10]
  omega
theorem dcF_add (l : List UInt8) : ∀ a, dcF a l = a * 10 ^ l.length + dcF 0 l := by
 induction l with
 | nil => intro a; rw [dcF_nil, dcF_nil, List.length_nil, Nat.pow_zero, Nat.mul_one, Nat.add_zero]
 | cons c q ih =>
  intro a
  rw [dcF_cons, dcF_cons, ih (10 * a + (c.toNat - 48)), ih (10 * 0 + (c.toNat - 48)), List.length_cons, Nat.pow_succ, Nat.mul_zero, Nat.zero_add, Nat.add_mul]
  have : 10 * a * 10 ^ q.length = a * (10 ^ q.length * 10) := by rw [Nat.mul_comm 10 a, Nat.mul_assoc, Nat.mul_comm 10]
  omega
theorem dcF_inj : ∀ (a b : List UInt8), a.length = b.length → a.all dgB = true → b.all dgB = true → dcF 0 a = dcF 0 b → a = b := by
 intro a
 induction a with
 | nil =>
  intro b hl _ _ _
  exact (List.eq_nil_of_length_eq_zero hl.symm).symm
 | cons x a ih =>
  intro b hl ha hb h
  cases b with
  | nil => cases hl
  | cons y b =>
   simp only [List.all_cons, Bool.and_eq_true, List.length_cons] at ha hb hl
   have hl' : a.length = b.length := by omega
   have hx := dgB_le ha.1
   have hy := dgB_le hb.1
   rw [dcF_cons, dcF_cons, dcF_add a, dcF_add b, ← hl', Nat.mul_zero, Nat.zero_add, Nat.zero_add] at h
   have h1 := dcF_lt a ha.2 0
   have h2 := dcF_lt b hb.2 0
   rw [Nat.zero_add, Nat.one_mul] at h1 h2
   rw [← hl'] at h2
   have hxy : x.toNat - 48 = y.toNat - 48 := by
    have hP : 0 < 10 ^ a.length := Nat.pow_pos (by decide)
    have e1 : (dcF 0 a + (x.toNat - 48) * 10 ^ a.length) / 10 ^ a.length = x.toNat - 48 := by
     rw [Nat.add_mul_div_right _ _ hP, Nat.div_eq_of_lt h1, Nat.zero_add]
    have e2 : (dcF 0 b + (y.toNat - 48) * 10 ^ a.length) / 10 ^ a.length = y.toNat - 48 := by
     rw [Nat.add_mul_div_right _ _ hP, Nat.div_eq_of_lt h2, Nat.zero_add]
    rw [← e1, ← e2, Nat.add_comm (dcF 0 a), Nat.add_comm (dcF 0 b), h]
   have hxe : x = y := UInt8.toNat_inj.1 (by omega)
   subst hxe
   rw [ih b hl' ha.2 hb.2 (by omega)]
def nameL (p : List UInt8) (n : Nat) : List UInt8 := p ++ pad8 n
def segNo (p s : List UInt8) : Option Nat := if p.isPrefixOf s && decide ((s.drop p.length).length = 8) && (s.drop p.length).all dgB then some (dcF 0 (s.drop p.length)) else none
theorem segNo_some {p s : List UInt8} {m : Nat} (h : segNo p s = some m) : ∃ d, s = p ++ d ∧ d.length = 8 ∧ d.all dgB = true ∧ m = dcF 0 d := by
 unfold segNo at h
 split at h
 ·next hh =>
  simp only [Bool.and_eq_true, decide_eq_true_iff] at hh
  obtain ⟨⟨h1, h2⟩, h3⟩ := hh
  injection h with h
  have e : s = p ++ s.drop p.length := by
   have := List.isPrefixOf_iff_prefix.1 h1
   exact (List.prefix_iff_eq_append.1 this).symm
  exact ⟨_, e, h2, h3, h.symm⟩
 ·cases h
theorem segNo_iff {p s : List UInt8} {m : Nat} (h : segNo p s = some m) (n : Nat) : s = nameL p n ↔ m = n := by
 obtain ⟨d, rfl, hl, hd, rfl⟩ := segNo_some h
 have hb := dcF_lt d hd 0
 rw [Nat.zero_add, Nat.one_mul, hl] at hb
 constructor
 ·intro e
  have := List.append_cancel_left e
  rw [this, pad8_num]
 ·intro e
  subst e
  unfold nameL
  rw [dcF_inj d (pad8 (dcF 0 d)) (by rw [hl, pad8_len (Nat.lt_of_lt_of_le hb (by decide))]) hd (pad8_dig _) (pad8_num _).symm, pad8_num]
theorem segNo_lt {p s : List UInt8} {m : Nat} (h : segNo p s = some m) : m < 100000000 := by
 obtain ⟨d, rfl, hl, hd, rfl⟩ := segNo_some h
 have hb := dcF_lt d hd 0
 rw [Nat.zero_add, Nat.one_mul, hl] at hb
 exact Nat.lt_of_lt_of_le hb (by decide)
theorem segNo_name (p : List UInt8) {n : Nat} (h : n < 100000000) : segNo p (nameL p n) = some n := by
 unfold segNo nameL
 have h1 : p.isPrefixOf (p ++ pad8 n) = true := by
  rw [List.isPrefixOf_iff_prefix]
  exact List.prefix_append _ _
 rw [List.drop_left, h1, pad8_len h, pad8_dig, pad8_num]
 rfl
theorem nameL_inj {p : List UInt8} {m n : Nat} (h : nameL p m = nameL p n) : m = n := by
 have := congrArg (dcF 0) (List.append_cancel_left h)
 rwa [pad8_num, pad8_num] at this
theorem nameL_len (p : List UInt8) {n : Nat} (h : n < 100000000) : (nameL p n).length = p.length + 8 := by
 unfold nameL
 rw [List.length_append, pad8_len h]
end Go.Mer
namespace Go.Proofs.YtdibkdgafidjgaaGreatDoor
open Go.RowKit Go.Mer
structure LSt where
 ents : List (List UInt8)
 segs : List (Nat × Nat)
 synced : Nat
 dead : Bool
def bnm (P : ByteArray) (n : Nat) : ByteArray := ⟨(nameL P.data.toList n).toArray⟩
def isSegN (P : ByteArray) (x : ByteArray) : Bool := (segNo P.data.toList x.data.toList).isSome
def takeS (l : Files) (P : ByteArray) (st : LSt) (x : ByteArray) : LSt × Bool :=
 if x = bnm P (st.ents.length + 1) then
  ({ st with
    ents := st.ents ++ (entsF (st.ents.length + 1) (rdS l x).1).1
    segs := if 0 < (entsF (st.ents.length + 1) (rdS l x).1).2 ∨ (rdS l x).1.length = 0 then st.segs ++ [(st.ents.length + 1, (entsF (st.ents.length + 1) (rdS l x).1).2)] else st.segs },
   decide ((entsF (st.ents.length + 1) (rdS l x).1).2 = (rdS l x).1.length))
 else (st, false)
def scanS (l : Files) (P : ByteArray) : LSt → List ByteArray → LSt × List ByteArray
 | st, [] => (st, [])
 | st, x :: r => if (takeS l P st x).2 = true then scanS l P (takeS l P st x).1 r else ((takeS l P st x).1, x :: r)
def rmAll : DSt → List ByteArray → Int × DSt
 | s, [] => (0, s)
 | s, x :: r => if (rmS s x).1 = 0 then rmAll (rmS s x).2 r else rmS s x
def syAll : DSt → List ByteArray → Int × DSt
 | s, [] => (0, s)
 | s, x :: r => if (syS s x).1 = 0 then syAll (syS s x).2 r else syS s x
def endOne (P : ByteArray) (s : DSt) (segs : List (Nat × Nat)) (x : ByteArray) : Int × DSt :=
 match segs.getLast? with
 | none => rmS s x
 | some z => if bnm P z.1 = x then cuS s x (z.2 : Int) else rmS s x
def endS (P : ByteArray) (s : DSt) (segs : List (Nat × Nat)) (x : ByteArray) (r : List ByteArray) : Int × DSt :=
 if (rmAll s r.reverse).1 = 0 then endOne P (rmAll s r.reverse).2 segs x else rmAll s r.reverse
def end0 (P : ByteArray) (s : DSt) (segs : List (Nat × Nat)) : List ByteArray → Int × DSt
 | [] => (0, s)
 | x :: r => endS P s segs x r
def st0 : LSt := ⟨[], [], 0, false⟩
def openS (P : ByteArray) (s : DSt) (N : List ByteArray) : Int × DSt × LSt :=
 let z := scanS s.files P st0 (N.filter (isSegN P))
 let q := end0 P s z.1.segs z.2
 if q.1 = 0 then
  let y := syAll q.2 (z.1.segs.map fun x => bnm P x.1)
  (y.1, y.2, { z.1 with synced := z.1.ents.length })
 else (q.1, q.2, z.1)
def syncsS (P : ByteArray) (s : DSt) (st : LSt) : Int × DSt × LSt :=
 if st.synced < st.ents.length then
  match st.segs.getLast? with
  | none => (0, s, st)
  | some z => ((syS s (bnm P z.1)).1, (syS s (bnm P z.1)).2, if (syS s (bnm P z.1)).1 = 0 then { st with synced := st.ents.length } else st)
 else (0, s, st)
def entL (n : Nat) (p : List UInt8) : List UInt8 := frameL (numL n ++ p)
def freshS (st : LSt) : Bool := match st.segs.getLast? with | none => true | some z => decide (1024 ≤ z.2)
def lastNo (st : LSt) : Nat := match st.segs.getLast? with | none => 0 | some z => z.1
def bump (segs : List (Nat × Nat)) (k : Nat) : List (Nat × Nat) := match segs.getLast? with | none => [] | some z => segs.dropLast ++ [(z.1, z.2 + k)]
def preS (P : ByteArray) (s : DSt) (st : LSt) : Int × DSt × LSt := if freshS st = true ∧ st.segs ≠ [] then syncsS P s st else (0, s, st)
def toN (P : ByteArray) (st : LSt) : ByteArray := bnm P (if freshS st = true then st.ents.length + 1 else lastNo st)
def addS (st : LSt) (p : List UInt8) : LSt :=
 { st with
  ents := st.ents ++ [p]
  segs := if freshS st = true then st.segs ++ [(st.ents.length + 1, (entL (st.ents.length + 1) p).length)] else bump st.segs (entL (st.ents.length + 1) p).length }
def appS (P : ByteArray) (s : DSt) (st : LSt) (p : List UInt8) : (Nat × Int) × DSt × LSt :=
 if st.dead = true then ((0, 9), s, st)
 else if 262134 < p.length then ((0, 5), s, st)
 else if (preS P s st).1 = 0 then
  let q := wrS (preS P s st).2.1 (toN P st) (entL (st.ents.length + 1) p)
  if q.1 = 0 then ((st.ents.length + 1, 0), q.2, addS (preS P s st).2.2 p) else ((0, q.1), q.2, { (preS P s st).2.2 with dead := decide (q.1 ≠ 6) })
 else ((0, (preS P s st).1), (preS P s st).2.1, { (preS P s st).2.2 with dead := decide ((preS P s st).1 ≠ 6) })
def sncS (P : ByteArray) (s : DSt) (st : LSt) : Int × DSt × LSt :=
 if st.dead = true then (9, s, st) else ((syncsS P s st).1, (syncsS P s st).2.1, { (syncsS P s st).2.2 with dead := decide ((syncsS P s st).1 ≠ 0) })
end Go.Proofs.YtdibkdgafidjgaaGreatDoor

