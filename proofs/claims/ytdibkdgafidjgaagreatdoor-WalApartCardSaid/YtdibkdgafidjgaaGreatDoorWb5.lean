/-
  Texts laid together: WAppP, WDec, WRd.
-/
import Derived.Test.YtdibkdgafidjgaaGreatDoorWb3
import Derived.Test.YtdibkdgafidjgaaGreatDoorWb4
import Derived.Deep.CutRange
namespace Go.Proofs.YtdibkdgafidjgaaGreatDoor
open Go.RowKit Go.Mer
structure ApW (w W2 : World) (d l b0 : Nat) (F G : Nat → Prop) : Prop where
 k2 : Kp No w W2
 b0w : b0 = w.heap.size
 size : W2.heap.size = b0 + 3
 p0 : W2.cell? ⟨b0, 0, none⟩ = some (.pointer (some ⟨l, 0, none⟩))
 p1 : W2.cell? ⟨b0 + 1, 0, none⟩ = some (.int .i64 0)
 f1 : W2.frozen? ⟨b0 + 1, 0, none⟩ = false
 p2 : W2.cell? ⟨b0 + 2, 0, none⟩ = some (.int .i64 0)
 f2 : W2.frozen? ⟨b0 + 2, 0, none⟩ = false
 ll : l < b0
 hF : ∀ k, F k → k < w.heap.size
 hG : ∀ k, G k → k < w.heap.size
theorem ApW.cells {w W2 wx : World} {d l b0 : Nat} {F G : Nat → Prop} (h : ApW w W2 d l b0 F G) (hk : Kp (Both F G) W2 wx) :
  wx.cell? ⟨b0, 0, none⟩ = some (.pointer (some ⟨l, 0, none⟩)) ∧ wx.cell? ⟨b0 + 1, 0, none⟩ = some (.int .i64 0) ∧ wx.frozen? ⟨b0 + 1, 0, none⟩ = false ∧ wx.cell? ⟨b0 + 2, 0, none⟩ = some (.int .i64 0) ∧ wx.frozen? ⟨b0 + 2, 0, none⟩ = false ∧ b0 + 2 < wx.heap.size := by
 have h0 := h.b0w
 have hs := h.size
 have hn : ∀ k, b0 ≤ k → ¬ Both F G k := fun k hk hb => by
  rcases hb with hb | hb
  ·have := h.hF k hb; omega
  ·have := h.hG k hb; omega
 refine ⟨(hk.cell (p := ⟨b0, 0, none⟩) (by show b0 < _; omega) (hn _ (Nat.le_refl _))).trans h.p0, (hk.cell (p := ⟨b0 + 1, 0, none⟩) (by show b0 + 1 < _; omega) (hn _ (by show b0 ≤ b0 + 1; omega))).trans h.p1,
  (hk.frozen (p := ⟨b0 + 1, 0, none⟩) (by show b0 + 1 < _; omega) (hn _ (by show b0 ≤ b0 + 1; omega))).trans h.f1, (hk.cell (p := ⟨b0 + 2, 0, none⟩) (by show b0 + 2 < _; omega) (hn _ (by show b0 ≤ b0 + 2; omega))).trans h.p2,
  (hk.frozen (p := ⟨b0 + 2, 0, none⟩) (by show b0 + 2 < _; omega) (hn _ (by show b0 ≤ b0 + 2; omega))).trans h.f2, by have := hk.size; omega⟩
theorem SaidW.kp {w a : World} {d l : Nat} {P : ByteArray} {F G : Nat → Prop} {s' : DSt} {st' : LSt} (h : SaidW w d l P F G s' st' a) : Kp (Both F G) w a := by
 obtain ⟨_, _, _, _, _, h⟩ := h
 exact h
theorem SaidW.from {w W2 a : World} {d l : Nat} {P : ByteArray} {F G : Nat → Prop} {s' : DSt} {st' : LSt} (h : SaidW W2 d l P F G s' st' a) (hk : Kp No w W2) : SaidW w d l P F G s' st' a := by
 obtain ⟨F', G', h1, h2, h3, h4⟩ := h
 exact ⟨F', G', h1, fun k hk' => (h2 k hk').imp id fun h => Nat.le_trans hk.size h, fun k hk' => (h3 k hk').imp id fun h => Nat.le_trans hk.size h, (Kp.of_no hk).trans_same h4⟩
theorem app_leaves {w W2 wx : World} {d l b0 : Nat} {P : ByteArray} {F G : Nat → Prop} {s1 : DSt} {st1 : LSt} (h : ApW w W2 d l b0 F G) (hS : SaidW W2 d l P F G s1 st1 wx) (kn : Nat) (tmps : Array Value) (h4 : tmps.getD 4 undef = .pointer (some ⟨b0 + 1, 0, none⟩)) (h5 : tmps.getD 5 undef = .pointer (some ⟨b0 + 2, 0, none⟩)) (R : Ending → World → Prop)
  (hR : ∀ w'', SaidW w d l P F G s1 { st1 with dead := (kn : Int) != 6 } w'' → R (.returned (.tuple #[.int .i64 0, .int .i64 (kn : Int)])) w'') :
  Leaves Tryz.prog Tryz.f14 tmps R [{ target := .fn (.func 38) #[.pointer (some ⟨b0 + 2, 0, none⟩), .pointer (some ⟨b0 + 1, 0, none⟩), .pointer (some ⟨b0, 0, none⟩)], args := #[] }] (.panicking (failP (kn : Int))) wx := by
 obtain ⟨c0, c1, g1, c2, g2, hs⟩ := h.cells hS.kp
 have h0 := h.b0w
 have hll := h.ll
 have hsz := h.size
 have hT : ∀ i, (i = b0 + 1 ∨ i = b0 + 2) → w.heap.size ≤ i ∧ (i < W2.heap.size ∨ wx.heap.size ≤ i) := fun i hi => by omega
 obtain ⟨⟨z, hz5⟩, hf5, hl5, _⟩ := hS.dead h.hF h.hG h.k2 (Kp.refl (fun i => i = b0 + 1 ∨ i = b0 + 2) wx) hT true
 refine leaves_cons (f := 38) (args := #[.pointer (some ⟨b0 + 2, 0, none⟩), .pointer (some ⟨b0 + 1, 0, none⟩), .pointer (some ⟨b0, 0, none⟩)]) (by simp) (by simp [go_sem]) ?_
 refine (show CallsD Tryz.prog 38 #[.pointer (some ⟨b0 + 2, 0, none⟩), .pointer (some ⟨b0 + 1, 0, none⟩), .pointer (some ⟨b0, 0, none⟩)] (.panicking (failP (kn : Int))) wx _ from
  app_panic (b0 + 2) 0 kn l ⟨b0 + 1, 0, none⟩ ⟨b0, 0, none⟩ (.int .i64 0) (.int .i64 0) z [] wx c2 g2 hs c1 g1 (by show b0 + 1 < _; omega) (by show ¬ b0 + 1 = b0 + 2; omega) c0 (by show b0 < _; omega) (by show ¬ b0 = b0 + 2; omega) hz5 hf5 hl5 (by omega) (by show ¬ l = b0 + 1; omega)).mono ?_
 rintro e u' w'' ⟨rfl, rfl, o, rfl⟩
 have k1 : Kp (fun i => i = b0 + 1 ∨ i = b0 + 2) wx ((wx.setCell ⟨b0 + 2, 0, none⟩ (.int .i64 (kn : Int))).alloc o) := ((Kp.refl (fun i => i = b0 + 1 ∨ i = b0 + 2) wx).setCell (p := ⟨b0 + 2, 0, none⟩) (.inl (.inr rfl)) _).alloc _
 have hno : Kp No (wx.setCell ⟨b0 + 2, 0, none⟩ (.int .i64 (kn : Int))) ((wx.setCell ⟨b0 + 2, 0, none⟩ (.int .i64 (kn : Int))).alloc o) := (Kp.refl _ _).alloc _
 have q2 : ((wx.setCell ⟨b0 + 2, 0, none⟩ (.int .i64 (kn : Int))).alloc o).cell? ⟨b0 + 2, 0, none⟩ = some (.int .i64 (kn : Int)) := by
  rw [hno.cell (p := ⟨b0 + 2, 0, none⟩) (by simpa using hs) (fun x => x)]
  simp [go_sem, c2]
 have k1' : Kp (One (b0 + 2)) wx ((wx.setCell ⟨b0 + 2, 0, none⟩ (.int .i64 (kn : Int))).alloc o) := ((Kp.refl (One (b0 + 2)) wx).setCell (p := ⟨b0 + 2, 0, none⟩) (.inl rfl) _).alloc _
 have q1 : ((wx.setCell ⟨b0 + 2, 0, none⟩ (.int .i64 (kn : Int))).alloc o).cell? ⟨b0 + 1, 0, none⟩ = some (.int .i64 0) := (k1'.cell (p := ⟨b0 + 1, 0, none⟩) (by show b0 + 1 < _; omega) (by show ¬ b0 + 1 = b0 + 2; omega)).trans c1
 obtain ⟨w4, hw4⟩ : ∃ W, W = (wx.setCell ⟨b0 + 2, 0, none⟩ (.int .i64 (kn : Int))).alloc o := ⟨_, rfl⟩
 rw [← hw4] at q1 q2 k1 ⊢
 have k5 := k1.setCell (p := ⟨b0 + 1, 0, none⟩) (.inl (.inl rfl)) (.int .i64 0)
 obtain ⟨_, _, _, hfin⟩ := hS.dead h.hF h.hG h.k2 k5 hT ((kn : Int) != 6)
 have r1 : (w4.setCell ⟨b0 + 1, 0, none⟩ (.int .i64 0)).cell? ⟨b0 + 1, 0, none⟩ = some (.int .i64 0) := by simp [go_sem, q1]
 have r2 : (w4.setCell ⟨b0 + 1, 0, none⟩ (.int .i64 0)).cell? ⟨b0 + 2, 0, none⟩ = some (.int .i64 (kn : Int)) := by
  have hk := (Kp.refl (One (b0 + 1)) w4).setCell (p := ⟨b0 + 1, 0, none⟩) (.inl rfl) (.int .i64 0)
  rw [hk.cell (p := ⟨b0 + 2, 0, none⟩) (World.block_lt_of_cell? w4 _ q2) (by show ¬ b0 + 2 = b0 + 1; omega)]
  exact q2
 obtain ⟨w5, hw5⟩ : ∃ W, W = w4.setCell ⟨b0 + 1, 0, none⟩ (.int .i64 0) := ⟨_, rfl⟩
 rw [← hw5] at r1 r2 hfin ⊢
 have hkl := (Kp.refl (One l) w5).setCell (p := ⟨l, 5, none⟩) (.inl rfl) (.bool ((kn : Int) != 6))
 have t1 := (hkl.cell (p := ⟨b0 + 1, 0, none⟩) (World.block_lt_of_cell? w5 _ r1) (by show ¬ b0 + 1 = l; omega)).trans r1
 have t2 := (hkl.cell (p := ⟨b0 + 2, 0, none⟩) (World.block_lt_of_cell? w5 _ r2) (by show ¬ b0 + 2 = l; omega)).trans r2
 refine ⟨.tuple #[.int .i64 0, .int .i64 (kn : Int)], ?_, hR _ hfin⟩
 have h4' : tmps[4]?.getD undef = .pointer (some ⟨b0 + 1, 0, none⟩) := by rw [← h4, Array.getD_eq_getD_getElem?]
 have h5' : tmps[5]?.getD undef = .pointer (some ⟨b0 + 2, 0, none⟩) := by rw [← h5, Array.getD_eq_getD_getElem?]
 obtain ⟨w6, hw6⟩ : ∃ W, W = w5.setCell ⟨l, 5, none⟩ (.bool ((kn : Int) != 6)) := ⟨_, rfl⟩
 rw [← hw6] at t1 t2 ⊢
 simp [results, Tryz.results14, go_sem, h4', h5', t1, t2]
theorem app_done {wx : World} {b0 : Nat} {n : Int} (hp : wx.cell? ⟨b0 + 1, 0, none⟩ = some (.int .i64 n)) (he : wx.cell? ⟨b0 + 2, 0, none⟩ = some (.int .i64 0)) (tmps : Array Value) (h4 : tmps.getD 4 undef = .pointer (some ⟨b0 + 1, 0, none⟩)) (h5 : tmps.getD 5 undef = .pointer (some ⟨b0 + 2, 0, none⟩)) (R : Ending → World → Prop)
  (hR : R (.returned (.tuple #[.int .i64 n, .int .i64 0])) wx) :
  Leaves Tryz.prog Tryz.f14 tmps R [{ target := .fn (.func 38) #[.pointer (some ⟨b0 + 2, 0, none⟩), .pointer (some ⟨b0 + 1, 0, none⟩), .pointer (some ⟨b0, 0, none⟩)], args := #[] }] .returning wx := by
 refine leaves_cons (f := 38) (args := #[.pointer (some ⟨b0 + 2, 0, none⟩), .pointer (some ⟨b0 + 1, 0, none⟩), .pointer (some ⟨b0, 0, none⟩)]) (by simp) (by simp [go_sem]) ?_
 refine (app_idle ⟨b0 + 2, 0, none⟩ ⟨b0 + 1, 0, none⟩ ⟨b0, 0, none⟩ wx).mono ?_
 rintro e u' w'' ⟨rfl, rfl, rfl⟩
 refine ⟨.tuple #[.int .i64 n, .int .i64 0], ?_, hR⟩
 have h4' : tmps[4]?.getD undef = .pointer (some ⟨b0 + 1, 0, none⟩) := by rw [← h4, Array.getD_eq_getD_getElem?]
 have h5' : tmps[5]?.getD undef = .pointer (some ⟨b0 + 2, 0, none⟩) := by rw [← h5, Array.getD_eq_getD_getElem?]
 simp [results, Tryz.results14, go_sem, h4', h5', hp, he]
theorem LRun.rowS {w W W' : World} {l d : Nat} {P : ByteArray} {sv ev : Value} {S S' : List (Nat × Nat)} {E : List Row} {synced : Nat} {dead : Bool} {G : Nat → Prop} (h : LRun w W l d P sv ev S E synced dead G) (hk : Kp (fun k => sv.ownBlock = some k) W W') (ho : Own W' 90 2 sv S'.length (S'.flatMap (segC P))) :
  LRun w W' l d P sv ev S' E synced dead G := by
 have hc := h.c
 refine h.step hk (fun k hT => .inl (.inr (.inl hT))) ⟨hk.get hc.cell fun e => (hc.seg_ne e).1 rfl, ho, hc.ents.keep hk fun g hg hT => (hc.ent_ne hg).2.1 hT, fun q hq => (hc.each q hq).keep hk fun g hg hT => (hc.seg_ne hT).2.2 q hq hg⟩ fun _ x => .inl x
end Go.Proofs.YtdibkdgafidjgaaGreatDoor
namespace Go.Proofs.YtdibkdgafidjgaaGreatDoor
open Go.RowKit Go.Mer
def numsB (l : List UInt8) : List Int := l.map fun b => (b.toNat : Int)
theorem bytesOf_nums (l : List UInt8) : Lib.bytesOf (numsB l) = l := by
 unfold Lib.bytesOf numsB
 rw [List.map_map]
 conv => rhs; rw [← List.map_id l]
 apply List.map_congr_left
 intro b _
 show UInt8.ofNat ((b.toNat : Int).toNat) = b
 rw [Int.toNat_natCast]
 exact UInt8.ofNat_toNat
theorem rd_in {W : World} {a : Option Addr} {B : Nat} {l : List UInt8} (h : Rd W B a (u8s l)) : Lib.BytesIn W a l.length (numsB l) := by
 intro h0
 obtain ⟨g, off, rfl, _, _, _⟩ := h.byte h0
 refine ⟨g, off, rfl, fun i hi => ?_⟩
 obtain ⟨g', off', he, _, _, hc⟩ := h.byte hi
 injection he with he
 injection he with e1 e2
 subst e1; subst e2
 rw [hc]
 simp [numsB, List.getD, hi]
theorem Equal_any (w : World) (a b : Option Addr) (c d B C : Nat) (xs ys : List UInt8) (hx : Rd w B a (u8s xs)) (hy : Rd w C b (u8s ys)) :
  Calls Tryz.prog 123 #[.slice a xs.length c, .slice b ys.length d] w fun e w' => e = .returned (.bool (xs == ys)) ∧ w' = w := by
 have h := Tryz.bytes_Equal_all a b xs.length c ys.length d (numsB xs) (numsB ys) w (by simp [numsB]) (by simp [numsB]) (rd_in hx) (rd_in hy)
 rw [bytesOf_nums, bytesOf_nums] at h
 exact h
def DeP (w : World) (r : Option (List UInt8 × Nat)) (e : Ending) (w' : World) : Prop :=
 (r = none ∧ ∃ k : Int, k ≠ 0 ∧ e = .returned (.tuple #[.slice none 0 0, .int .i64 0, .int .i64 k]) ∧ Kp No w w') ∨
 ∃ p n a c, r = some (p, n) ∧ e = .returned (.tuple #[.slice a p.length c, .int .i64 (n : Int), .int .i64 0]) ∧ Mer.Own w' 5 1 (.slice a p.length c) p.length (u8s p) ∧ (∀ g, (Value.slice a p.length c).ownBlock = some g → w.heap.size ≤ g) ∧ Kp No w w'
theorem from4_rd (w : World) (a : Option Addr) (n cap : Nat) (l : List UInt8) (B : Nat) (hR : Rd w B a (u8s l)) (hn : n = l.length) (hl : 4 ≤ l.length) (hm : l.length ≤ 140737488355328) :
  Calls Tryz.prog 122 #[.slice a n cap] w fun e w' => e = .returned (.int .u32 (Mer.from4 l : Int)) ∧ Kp No w w' := by
 subst hn
 exact from4_any w a cap l B hR hl hm
theorem decW {n : Nat} (h : 8 ≤ n) (hm : n ≤ 1000000000000000) : ∃ (n8 : Nat) (z : Int), wrap64 ((n : Int) - 8) = (n8 : Int) ∧ wrap64 ((n8 : Int) - 4) = z ∧ z = (n : Int) - 12 :=
 ⟨n - 8, (n : Int) - 12, by rw [IntWalk.wrap64_in _ (by omega)]; omega, by rw [IntWalk.wrap64_in _ (by omega)]; omega, rfl⟩
set_option maxRecDepth 100000 in
set_option maxHeartbeats 2000000 in
theorem Decode_any (w : World) (a : Option Addr) (cap : Nat) (l : List UInt8) (hR : Rd w w.heap.size a (u8s l)) (hcap : l.length ≤ cap) (hm : l.length ≤ 140737488355328) :
  Calls Tryz.prog 90 #[.slice a l.length cap] w (DeP w (deF l)) := by
 obtain ⟨r, hr⟩ : ∃ r, r = deF l := ⟨_, rfl⟩
 rw [← hr]
 unfold deF at hr
 obtain ⟨n, hn⟩ : ∃ n, n = l.length := ⟨_, rfl⟩
 rw [← hn] at hr hcap hm ⊢
 have HR := Lib.hid hR
 rcases Nat.lt_or_ge n 8 with h8 | h8
 ·have d1 : decide (n < 8) = true := decide_eq_true h8
  have d2 : decide ((n : Int) < 8) = true := by rw [decide_eq_true_iff]; omega
  rw [if_pos h8] at hr
  have HRR := Lib.hid hr
  clear hr hR hn hm hcap h8
  go_enter Tryz.func90, Tryz.ntmps90
  go_wp2_with fail
  exact bodyPost_ret (v := .tuple #[.slice none 0 0, .int .i64 0, .int .i64 2]) (by simp [results, Tryz.results90, go_sem]) rfl (.inl ⟨HRR.out, 2, by decide, rfl, Kp.refl _ _⟩)
 ·have d1 : decide (n < 8) = false := by rw [decide_eq_false_iff_not]; omega
  have d2 : decide ((n : Int) < 8) = false := by rw [decide_eq_false_iff_not]; omega
  rw [if_neg (by omega)] at hr
  obtain ⟨m, hmm⟩ : ∃ m, m = Mer.from4 l := ⟨_, rfl⟩
  have hm32 : m < 4294967296 := by rw [hmm]; exact from4_lt l
  rw [← hmm] at hr
  have hf := from4_any w a cap l _ hR (by omega) (by omega)
  rw [← hn, ← hmm] at hf
  have HF := Lib.hid hf
  have HH := Lib.hid (fun W => headOf_any m hm32 W)
  have h8n : 8 ≤ n := h8
  have h8c : 8 ≤ cap := by omega
  have h8i : (8 : Int) ≤ (cap : Int) := by omega
  have h8j : decide ((8 : Int) ≤ (cap : Int)) = true := decide_eq_true h8i
  have heq := fun (W : World) (hW : Kp No w W) (b : Option Addr) (d : Nat) (hb : Rd W W.heap.size b (u8s (headL m))) => Equal_any W a b cap d _ _ (l.take 8) (headL m) (by
   have := (hR.keep hW fun _ _ x => x).take 8
   simp only [u8s, ← List.map_take] at this
   exact this) hb
  have hl8 : (l.take 8).length = 8 := by rw [List.length_take]; omega
  rw [hl8, headL_length] at heq
  obtain ⟨q, hq⟩ : ∃ q, q = (l.take 8 == headL m) := ⟨_, rfl⟩
  rw [← hq] at heq
  have HEQ := Lib.hid heq
  have HQ := Lib.hid hq
  have HRR := Lib.hid hr
  have HN := Lib.hid (And.intro hn (And.intro hmm (And.intro hm32 hm)))
  clear hr hf heq hq hn hmm hm32 hR hl8 hm h8
  go_enter Tryz.func90, Tryz.ntmps90
  go_wp2_with fail
  have hc := HF.out
  with_reducible refine hc.mono ?_
  rintro e w1 ⟨rfl, k1⟩
  obtain ⟨W1, hW1⟩ : ∃ W, W = w1 := ⟨_, rfl⟩
  rw [← hW1] at k1 ⊢
  have HK1 := Lib.hid k1
  clear hW1 k1 hc
  go_wp2_with fail
  go_cut [12] from 13 to 19 (fun s wx => s = .bool (!q) ∧ Hid (Kp No W1 wx))
  case first =>
   refine wp_region_held' (Kp No _) [0,0,0,2,2,0,0] [0,1,2,3,4,5,6] (by kernel_rfl) (by kernel_rfl) (fun _ n h => h.drewN n) (Kp.refl _ _) ?_
   repeat (first
    | (apply wpOrd_skip rfl (by decide) rfl; (focus (go_simp; rfl)))
    | (apply wpOrd_pure rfl rfl rfl; (focus (intro _ _; go_simp; (try go_ints); rfl)); (focus (go_simp; rfl)))
    | (apply wpOrd_read rfl rfl rfl; (focus (intro _; go_simp; (try go_ints); rfl)); (focus (go_simp; rfl))))
   refine wpOrd_eff rfl rfl (fun q1 => ?_)
   go_wp2_with fail
   have hc := HH.out (W1.drewN q1)
   with_reducible refine hc.mono ?_
   rintro e w3 ⟨a3, c3, rfl, r3, _, k3⟩
   have h3 : Kp No W1 w3 := ((Kp.refl _ _).drewN q1).trans_same k3
   simp only [headL_length]
   clear k3 hc
   go_wp2_with fail
   refine wpOrd_eff rfl rfl (fun q2 => ?_)
   have hc := HEQ.out (w3.drewN q2) ((HK1.out.trans_same h3).drewN q2) a3 c3 r3
   have HE2 := Lib.hid hc
   clear hc r3
   go_wp2_with fail
   have hc := HE2.out
   with_reducible refine hc.mono ?_
   rintro e w4 ⟨rfl, rfl⟩
   have h4 : Kp No W1 (w3.drewN q2) := h3.drewN q2
   clear hc
   go_wp2_with fail
   repeat (first
    | (apply wpOrd_skip rfl (by decide) rfl; (focus (go_simp; rfl)))
    | (apply wpOrd_pure rfl rfl rfl; (focus (intro _ _; go_simp; (try go_ints); rfl)); (focus (go_simp; rfl)))
    | (apply wpOrd_read rfl rfl rfl; (focus (intro _; go_simp; (try go_ints); rfl)); (focus (go_simp; rfl))))
   refine wpOrd_nil (fun nq => ?_)
   go_wp2_with fail
   go_meet
   case rel => exact ⟨rfl, Lib.hid (h4.drewN nq)⟩
  obtain ⟨rfl, HKC⟩ := hcut
  obtain ⟨W2, hW2⟩ : ∃ W, W = wc := ⟨_, rfl⟩
  rw [← hW2] at HKC ⊢
  have HK2 := Lib.hid (HK1.out.trans_same HKC.out)
  clear hW2
  cases q with
  | false =>
   have HR4 := Lib.hid (show r = none by rw [HRR.out, if_pos (beq_eq_false_iff_ne.1 HQ.out.symm)])
   go_wp2_with fail
   exact bodyPost_ret (v := .tuple #[.slice none 0 0, .int .i64 0, .int .i64 4]) (by simp [results, Tryz.results90, go_sem]) rfl (.inl ⟨HR4.out, 4, by decide, rfl, HK2.out⟩)
  | true =>
   have hr := HRR.out
   rw [if_neg (fun h => h (beq_iff_eq.1 HQ.out.symm))] at hr
   rcases Nat.lt_or_ge 262144 m with h2 | h2
   ·have e1 : decide (262144 < m) = true := decide_eq_true h2
    have e2 : decide ((262144 : Int) < (m : Int)) = true := by rw [decide_eq_true_iff]; omega
    rw [if_pos h2] at hr
    have HR4 := Lib.hid hr
    clear hr h2
    go_wp2_with fail
    exact bodyPost_ret (v := .tuple #[.slice none 0 0, .int .i64 0, .int .i64 5]) (by simp [results, Tryz.results90, go_sem]) rfl (.inl ⟨HR4.out, 5, by decide, rfl, HK2.out⟩)
   ·have e1 : decide (262144 < m) = false := by rw [decide_eq_false_iff_not]; omega
    have e2 : decide ((262144 : Int) < (m : Int)) = false := by rw [decide_eq_false_iff_not]; omega
    rw [if_neg (by omega)] at hr
    have wm : wrap64 (m : Int) = (m : Int) := IntWalk.wrap64_in _ (by omega)
    obtain ⟨n8, z, w1, w2, hz⟩ := decW (n := n) h8n (by have := HN.out.2.2.2; omega)
    rcases Nat.lt_or_ge n (12 + m) with h3 | h3
    ·have e3 : decide (z < (m : Int)) = true := by rw [decide_eq_true_iff, hz]; omega
     rw [if_pos h3] at hr
     have HR4 := Lib.hid hr
     clear hr h2 h3 hz
     go_wp2_with fail
     exact bodyPost_ret (v := .tuple #[.slice none 0 0, .int .i64 0, .int .i64 2]) (by simp [results, Tryz.results90, go_sem]) rfl (.inl ⟨HR4.out, 2, by decide, rfl, HK2.out⟩)
    ·have e3 : decide (z < (m : Int)) = false := by rw [decide_eq_false_iff_not, hz]; omega
     rw [if_neg (by omega)] at hr
     obtain ⟨e8, he8⟩ : ∃ e8, e8 = 8 + m := ⟨_, rfl⟩
     have w3 : wrap64 (8 + (m : Int)) = (e8 : Int) := by rw [IntWalk.wrap64_in _ (by omega), he8]; push_cast; rfl
     have he8n : e8 ≤ n := by omega
     have he8c : e8 ≤ cap := by omega
     rw [← he8] at hr
     have HR4 := Lib.hid hr
     have HE8 := Lib.hid (And.intro he8 (And.intro h2 h3))
     have hlp : 0 < l.length := by rw [← HN.out.1]; omega
     clear hz
     obtain ⟨g, off, rfl, _, _, _⟩ := HR.out.byte (i := 0) hlp
     clear hr he8 h2 h3
     go_upto_region 11 with fail
     clear w1 w2 w3 wm e1 e2 e3
     have hlt := HE8.out
     have g1 : e8 < cap := by omega
     have g2 : ¬ cap ≤ e8 := by omega
     have g3 : ¬ e8 = cap := by omega
     have g4 : ¬ cap = e8 := by omega
     have g5 : ¬ cap - e8 = 0 := by omega
     have g6 : (cap == e8) = false := by rw [beq_eq_false_iff_ne]; exact g4
     have g7 : (e8 == cap) = false := by rw [beq_eq_false_iff_ne]; exact g3
     have g8 : ¬ (cap : Int) = (e8 : Int) := by omega
     have g9 : ¬ (e8 : Int) = (cap : Int) := by omega
     have g10 : (cap - e8 == 0) = false := by rw [beq_eq_false_iff_ne]; exact g5
     have hln : (l.drop e8).length = n - e8 := by rw [List.length_drop, ← HN.out.1]
     have hf2 := from4_rd W2 (some ⟨g, off + e8, none⟩) (n - e8) (cap - e8) (l.drop e8) w.heap.size (by
      have := (HR.out.keep HK2.out fun _ _ x => x).drop e8
      rw [Option.map_some, add_lit'] at this
      simp only [u8s, ← List.map_drop] at this
      exact this) hln.symm (by omega) (by have := HN.out.2.2.2; omega)
     obtain ⟨X, hX⟩ : ∃ X, X = Mer.from4 (l.drop e8) := ⟨_, rfl⟩
     rw [← hX] at hf2
     have HF2 := Lib.hid hf2
     have HX := Lib.hid hX
     clear hlt hln hf2 hX
     go_wp2_with fail
     have hc := HF2.out
     with_reducible refine hc.mono ?_
     rintro e w3 ⟨rfl, k3⟩
     have HK3 := Lib.hid (HK2.out.trans_same k3)
     clear k3 hc
     have hlt8 : (l.take e8).length = e8 := by rw [List.length_take, ← HN.out.1]; omega
     obtain ⟨hrow, hk4⟩ := one_made w3 23 (some ⟨g, off, none⟩) cap (l.take e8) (by
      have := ((HR.out.keep HK3.out fun _ _ x => x).mono HK3.out.size (Nat.le_refl _)).take e8
      simp only [u8s, ← List.map_take] at this
      exact this) (by rw [hlt8]; have := HN.out.2.2.2; omega)
     rw [hlt8] at hrow hk4
     obtain ⟨W4, hW4⟩ : ∃ W, W = w3.alloc (.cells #[.slice (some ⟨g, off, none⟩) e8 cap] 23) := ⟨_, rfl⟩
     have HW4 := Lib.hid hW4
     rw [← hW4] at hrow hk4
     obtain ⟨C, hC⟩ : ∃ C, C = crc (l.take e8) := ⟨_, rfl⟩
     have hsum := Sum_1 W4 w3.heap.size 1 _ hrow
     simp only [← hC] at hsum
     have HS := Lib.hid hsum
     have HK4 := Lib.hid (HK3.out.trans_same hk4)
     have HCC := Lib.hid hC
     clear hsum hrow hk4 hW4 hC hlt8
     by_cases hx : X = C
     ·have y1 : ((X : Int) != (C : Int)) = false := by rw [hx]; simp
      have HR5 := Lib.hid (show r = some ((l.drop 8).take m, m + 12) by rw [HR4.out, if_neg (fun h => h (by rw [← show X = _ from HX.out, ← show C = _ from HCC.out]; exact hx))])
      have HXC := Lib.hid hx
      clear hx
      go_wp2_with fail
      rw [← HW4.out]
      have hc := HS.out
      with_reducible refine hc.mono ?_
      rintro e w5 ⟨rfl, rfl⟩
      clear hc g1 g2 g3 g4 g5 g6 g7 g8 g9 g10
      have hE := HE8.out
      have hpl : ((l.drop 8).take m).length = m := by rw [List.length_take, List.length_drop, ← HN.out.1]; omega
      have hem : e8 - 8 = m := by omega
      have hcl := clone_any (some ⟨g, off + 8, none⟩) (cap - 8) ((l.drop 8).take m) w.heap.size W4 (by
       have := ((HR.out.keep HK4.out fun _ _ x => x).drop 8).take m
       rw [Option.map_some, add_lit'] at this
       simp only [u8s, ← List.map_drop, ← List.map_take] at this
       exact this) (by rw [hpl]; omega)
      rw [hpl, ← hem] at hcl
      have HCL := Lib.hid hcl
      have w5 : wrap64 ((e8 : Int) + 4) = ((m + 12 : Nat) : Int) := by rw [IntWalk.wrap64_in _ (by omega)]; omega
      have i1 : 8 ≤ e8 := by omega
      have i2 : (8 : Int) ≤ (e8 : Int) := by omega
      have g2 : ¬ cap ≤ 8 := by omega
      have g4 : ¬ cap = 8 := by omega
      have g5 : ¬ cap - 8 = 0 := by omega
      have g6 : (cap == 8) = false := by rw [beq_eq_false_iff_ne]; exact g4
      have g8 : ¬ (cap : Int) = 8 := by omega
      have g10 : (cap - 8 == 0) = false := by rw [beq_eq_false_iff_ne]; exact g5
      have HPL := Lib.hid (And.intro hpl hem)
      clear hcl hE hpl hem
      go_wp2_with fail
      have hc := HCL.out
      with_reducible refine hc.mono ?_
      rintro e w6 ⟨v, rfl, hO, hK, hf⟩
      rw [HPL.out.2] at hO
      obtain ⟨_, a6, c6, rfl, _⟩ := id hO
      have HFIN := Lib.hid (show DeP w r (.returned (.tuple #[.slice a6 m c6, .int .i64 ((m + 12 : Nat) : Int), .int .i64 0])) w6 from
       .inr ⟨(l.drop 8).take m, m + 12, a6, c6, HR5.out, by rw [HPL.out.1], by rw [HPL.out.1]; exact hO, fun q hq => Nat.le_trans HK4.out.size (hf q (by rw [HPL.out.1] at hq; exact hq)), HK4.out.trans_same hK⟩)
      clear hO hK hf hc
      go_wp2_with fail
      exact bodyPost_ret (v := .tuple #[.slice a6 m c6, .int .i64 ((m + 12 : Nat) : Int), .int .i64 0]) (by simp [results, Tryz.results90, go_sem, w5]) rfl HFIN.out
     ·have y1 : ((X : Int) != (C : Int)) = true := by rw [bne, beq_eq_false_iff_ne.2 (fun h => hx (Int.natCast_inj.1 h))]; rfl
      have HR5 := Lib.hid (show r = none by rw [HR4.out, if_pos (fun h => hx (by rw [show X = _ from HX.out, show C = _ from HCC.out]; exact h))])
      clear hx
      go_wp2_with fail
      rw [← HW4.out]
      have hc := HS.out
      with_reducible refine hc.mono ?_
      rintro e w5 ⟨rfl, rfl⟩
      clear hc
      go_wp2_with fail
      exact bodyPost_ret (v := .tuple #[.slice none 0 0, .int .i64 0, .int .i64 4]) (by simp [results, Tryz.results90, go_sem]) rfl (.inl ⟨HR5.out, 4, by decide, rfl, HK4.out⟩)
theorem rFrom4_rd (w : World) (a : Option Addr) (n cap : Nat) (l : List UInt8) (B : Nat) (hR : Rd w B a (u8s l)) (hn : n = l.length) (hl : 4 ≤ l.length) (hm : l.length ≤ 140737488355328) :
  Calls Tryz.prog 143 #[.slice a n cap] w fun e w' => e = .returned (.int .u32 (Mer.from4 l : Int)) ∧ Kp No w w' := by
 subst hn
 exact rFrom4_any w a cap l B hR hl hm
theorem rSum_rd (w : World) (a : Option Addr) (n cap : Nat) (l : List UInt8) (B : Nat) (hR : Rd w B a (u8s l)) (hn : n = l.length) (hm : l.length ≤ 140737488355328) :
  Calls Tryz.prog 85 #[.slice a n cap] w fun e w' => e = .returned (.int .u32 (crc l : Int)) ∧ w = w' := by
 subst hn
 refine rSum_any w a cap l (fun hx => ?_) hm
 obtain ⟨g, off, ha, hg, hB, hc⟩ := hR hx
 exact ⟨g, off, ha, Nat.lt_of_lt_of_le hg hB, Nat.le_refl _, hc⟩
set_option maxRecDepth 100000 in
set_option maxHeartbeats 2000000 in
theorem rDecode_any (w : World) (a : Option Addr) (cap : Nat) (l : List UInt8) (hR : Rd w w.heap.size a (u8s l)) (hcap : l.length ≤ cap) (hm : l.length ≤ 140737488355328) :
  Calls Tryz.prog 126 #[.slice a l.length cap] w (DeP w (deF l)) := by
 obtain ⟨r, hr⟩ : ∃ r, r = deF l := ⟨_, rfl⟩
 rw [← hr]
 unfold deF at hr
 obtain ⟨n, hn⟩ : ∃ n, n = l.length := ⟨_, rfl⟩
 rw [← hn] at hr hcap hm ⊢
 have HR := Lib.hid hR
 rcases Nat.lt_or_ge n 8 with h8 | h8
 ·have d1 : decide (n < 8) = true := decide_eq_true h8
  have d2 : decide ((n : Int) < 8) = true := by rw [decide_eq_true_iff]; omega
  rw [if_pos h8] at hr
  have HRR := Lib.hid hr
  clear hr hR hn hm hcap h8
  go_enter Tryz.func126, Tryz.ntmps126
  go_wp2_with fail
  exact bodyPost_ret (v := .tuple #[.slice none 0 0, .int .i64 0, .int .i64 2]) (by simp [results, Tryz.results126, go_sem]) rfl (.inl ⟨HRR.out, 2, by decide, rfl, Kp.refl _ _⟩)
 ·have d1 : decide (n < 8) = false := by rw [decide_eq_false_iff_not]; omega
  have d2 : decide ((n : Int) < 8) = false := by rw [decide_eq_false_iff_not]; omega
  rw [if_neg (by omega)] at hr
  have hit := head_iff l (by omega)
  obtain ⟨m, hmm⟩ : ∃ m, m = Mer.from4 l := ⟨_, rfl⟩
  have hm32 : m < 4294967296 := by rw [hmm]; exact from4_lt l
  rw [← hmm] at hr hit
  obtain ⟨g, off, rfl⟩ : ∃ g off, a = some ⟨g, off, none⟩ := by
   obtain ⟨g, off, h, _⟩ := hR.byte (i := 0) (by omega)
   exact ⟨g, off, h⟩
  obtain ⟨X, hX⟩ : ∃ X, X = Mer.from4 (l.drop 4) := ⟨_, rfl⟩
  obtain ⟨C, hC⟩ : ∃ C, C = crc (l.take 4) := ⟨_, rfl⟩
  rw [← hX, ← hC] at hit
  have hf0 := fun W (hW : Kp No w W) => rFrom4_rd W (some ⟨g, off, none⟩) n cap l w.heap.size (hR.keep hW fun _ _ x => x) hn (by omega) (by omega)
  have hf4 := fun W (hW : Kp No w W) => rFrom4_rd W (some ⟨g, off + 4, none⟩) (n - 4) (cap - 4) (l.drop 4) w.heap.size (by
   have := (hR.keep hW fun _ _ x => x).drop 4
   rw [Option.map_some, add_lit'] at this
   simp only [u8s, ← List.map_drop] at this
   exact this) (by rw [List.length_drop, ← hn]) (by rw [List.length_drop]; omega) (by rw [List.length_drop]; omega)
  have hs4 := fun W (hW : Kp No w W) => rSum_rd W (some ⟨g, off, none⟩) 4 cap (l.take 4) w.heap.size (by
   have := (hR.keep hW fun _ _ x => x).take 4
   simp only [u8s, ← List.map_take] at this
   exact this) (by rw [List.length_take]; omega) (by rw [List.length_take]; omega)
  rw [← hmm] at hf0
  simp only [← hX] at hf4
  simp only [← hC] at hs4
  have HF0 := Lib.hid hf0
  have HF4 := Lib.hid hf4
  have HS4 := Lib.hid hs4
  have HIT := Lib.hid hit
  have HRR := Lib.hid hr
  have HN := Lib.hid (And.intro hn (And.intro hmm (And.intro hm32 hm)))
  have i1 : 4 ≤ n := by omega
  have i2 : (4 : Int) ≤ (n : Int) := by omega
  have i3 : 4 ≤ cap := by omega
  have i4 : (4 : Int) ≤ (cap : Int) := by omega
  have g2 : ¬ cap ≤ 4 := by omega
  have g4 : ¬ cap = 4 := by omega
  have g5 : ¬ cap - 4 = 0 := by omega
  have g6 : (cap == 4) = false := by rw [beq_eq_false_iff_ne]; exact g4
  have g8 : ¬ (cap : Int) = 4 := by omega
  have g10 : (cap - 4 == 0) = false := by rw [beq_eq_false_iff_ne]; exact g5
  clear hr hf0 hf4 hs4 hit hn hmm hm32 hR hm hX hC
  go_enter Tryz.func126, Tryz.ntmps126
  go_upto_region 3 with fail
  refine wp_region_held' (Kp No _) [0,0,2,0,0,2,0] [0,1,3,4,2,5,6] (by kernel_rfl) (by kernel_rfl) (fun _ n h => h.drewN n) (Kp.refl _ _) ?_
  repeat (first
   | (apply wpOrd_skip rfl (by decide) rfl; (focus (go_simp; rfl)))
   | (apply wpOrd_pure rfl rfl rfl; (focus (intro _ _; go_simp; (try go_ints); rfl)); (focus (go_simp; rfl)))
   | (apply wpOrd_read rfl rfl rfl; (focus (intro _; go_simp; (try go_ints); rfl)); (focus (go_simp; rfl))))
  refine wpOrd_eff rfl rfl (fun q1 => ?_)
  go_wp2_with fail
  have hc := HF4.out (w.drewN q1) ((Kp.refl _ _).drewN q1)
  with_reducible refine hc.mono ?_
  rintro e w3 ⟨rfl, k3⟩
  have h3 : Kp No w w3 := ((Kp.refl _ _).drewN q1).trans_same k3
  clear k3 hc
  go_wp2_with fail
  refine wpOrd_eff rfl rfl (fun q2 => ?_)
  go_wp2_with fail
  have hc := HS4.out (w3.drewN q2) (h3.drewN q2)
  with_reducible refine hc.mono ?_
  rintro e w4 ⟨rfl, rfl⟩
  have h4 : Kp No w (w3.drewN q2) := h3.drewN q2
  clear hc
  go_wp2_with fail
  repeat (first
   | (apply wpOrd_skip rfl (by decide) rfl; (focus (go_simp; rfl)))
   | (apply wpOrd_pure rfl rfl rfl; (focus (intro _ _; go_simp; (try go_ints); rfl)); (focus (go_simp; rfl)))
   | (apply wpOrd_read rfl rfl rfl; (focus (intro _; go_simp; (try go_ints); rfl)); (focus (go_simp; rfl))))
  refine wpOrd_nil (fun nq => ?_)
  obtain ⟨W5, hW5⟩ : ∃ W, W = (w3.drewN q2).drewN nq := ⟨_, rfl⟩
  have HK5 := Lib.hid (show Kp No w W5 by rw [hW5]; exact h4.drewN nq)
  rw [← hW5]
  clear hW5 h3 h4 i1 i2 i3 i4 g2 g4 g5 g6 g8 g10
  by_cases hx : X = C
  ·have y1 : ((X : Int) != (C : Int)) = false := by rw [hx]; simp
   have hr := HRR.out
   rw [if_neg (fun h => h (HIT.out.2 hx))] at hr
   have hc0 := HF0.out W5 HK5.out
   have HC0 := Lib.hid hc0
   have wm : wrap64 (m : Int) = (m : Int) := IntWalk.wrap64_in _ (by have := HN.out.2.2.1; omega)
   clear hx hc0
   rcases Nat.lt_or_ge 262144 m with h2 | h2
   ·have e1 : decide (262144 < m) = true := decide_eq_true h2
    have e2 : decide ((262144 : Int) < (m : Int)) = true := by rw [decide_eq_true_iff]; omega
    rw [if_pos h2] at hr
    have HR4 := Lib.hid hr
    clear hr h2
    go_wp2_with fail
    with_reducible refine (HC0.out).mono ?_
    rintro e w6 ⟨rfl, k6⟩
    have HK6 := Lib.hid (HK5.out.trans_same k6)
    clear k6
    go_wp2_with fail
    exact bodyPost_ret (v := .tuple #[.slice none 0 0, .int .i64 0, .int .i64 5]) (by simp [results, Tryz.results126, go_sem]) rfl (.inl ⟨HR4.out, 5, by decide, rfl, HK6.out⟩)
   ·have e1 : decide (262144 < m) = false := by rw [decide_eq_false_iff_not]; omega
    have e2 : decide ((262144 : Int) < (m : Int)) = false := by rw [decide_eq_false_iff_not]; omega
    rw [if_neg (by omega)] at hr
    obtain ⟨e12, he12⟩ : ∃ e12, e12 = 12 + m := ⟨_, rfl⟩
    have w12 : wrap64 (12 + (m : Int)) = (e12 : Int) := by rw [IntWalk.wrap64_in _ (by omega), he12]; push_cast; rfl
    rcases Nat.lt_or_ge n (12 + m) with h3 | h3
    ·have e3 : decide ((n : Int) < (e12 : Int)) = true := by rw [decide_eq_true_iff]; omega
     have e4 : decide (n < e12) = true := by rw [decide_eq_true_iff]; omega
     rw [if_pos h3] at hr
     have HR4 := Lib.hid hr
     clear hr h2 h3 he12
     go_wp2_with fail
     with_reducible refine (HC0.out).mono ?_
     rintro e w6 ⟨rfl, k6⟩
     have HK6 := Lib.hid (HK5.out.trans_same k6)
     clear k6
     go_wp2_with fail
     exact bodyPost_ret (v := .tuple #[.slice none 0 0, .int .i64 0, .int .i64 2]) (by simp [results, Tryz.results126, go_sem]) rfl (.inl ⟨HR4.out, 2, by decide, rfl, HK6.out⟩)
    ·have e3 : decide ((n : Int) < (e12 : Int)) = false := by rw [decide_eq_false_iff_not]; omega
     have e4 : decide (n < e12) = false := by rw [decide_eq_false_iff_not]; omega
     rw [if_neg (by omega)] at hr
     obtain ⟨e8, he8⟩ : ∃ e8, e8 = 8 + m := ⟨_, rfl⟩
     have w8 : wrap64 (8 + (m : Int)) = (e8 : Int) := by rw [IntWalk.wrap64_in _ (by omega), he8]; push_cast; rfl
     rw [← he8] at hr
     obtain ⟨Y, hY⟩ : ∃ Y, Y = Mer.from4 (l.drop e8) := ⟨_, rfl⟩
     obtain ⟨D, hD⟩ : ∃ D, D = crc (l.take e8) := ⟨_, rfl⟩
     rw [← hY, ← hD] at hr
     have hnl := HN.out.1
     have hn47 := HN.out.2.2.2
     have hf8 := fun W (hW : Kp No w W) => rFrom4_rd W (some ⟨g, off + e8, none⟩) (n - e8) (cap - e8) (l.drop e8) w.heap.size (by
      have := (HR.out.keep hW fun _ _ x => x).drop e8
      rw [Option.map_some, add_lit'] at this
      simp only [u8s, ← List.map_drop] at this
      exact this) (by rw [List.length_drop, ← hnl]) (by rw [List.length_drop]; omega) (by rw [List.length_drop]; omega)
     have hs8 := fun W (hW : Kp No w W) => rSum_rd W (some ⟨g, off, none⟩) e8 cap (l.take e8) w.heap.size (by
      have := (HR.out.keep hW fun _ _ x => x).take e8
      simp only [u8s, ← List.map_take] at this
      exact this) (by rw [List.length_take]; omega) (by rw [List.length_take]; omega)
     simp only [← hY] at hf8
     simp only [← hD] at hs8
     have HF8 := Lib.hid hf8
     have HS8 := Lib.hid hs8
     have HR4 := Lib.hid hr
     have HE8 := Lib.hid (And.intro he8 (And.intro h2 (And.intro h3 he12)))
     have j1 : e8 ≤ n := by omega
     have j3 : e8 ≤ cap := by omega
     have g1 : e8 < cap := by omega
     have g2 : ¬ cap ≤ e8 := by omega
     have g3 : ¬ e8 = cap := by omega
     have g4 : ¬ cap = e8 := by omega
     have g5 : ¬ cap - e8 = 0 := by omega
     have g6 : (cap == e8) = false := by rw [beq_eq_false_iff_ne]; exact g4
     have g8 : ¬ (cap : Int) = (e8 : Int) := by omega
     have g10 : (cap - e8 == 0) = false := by rw [beq_eq_false_iff_ne]; exact g5
     clear hr hf8 hs8 he8 h2 h3 he12 hY hD hnl hn47
     go_upto_region 10 with (with_reducible refine (HC0.out).mono ?_; rintro e w6 ⟨rfl, k6⟩)
     have HK6 := Lib.hid (HK5.out.trans_same k6)
     clear k6
     rw [wm]
     refine wp_region_held' (Kp No _) [0,0,0,0,2,0,0,0,0,2,0] [0,1,2,3,5,6,7,8,4,9,10] (by kernel_rfl) (by kernel_rfl) (fun _ n h => h.drewN n) (Kp.refl _ _) ?_
     repeat (first
      | (apply wpOrd_skip rfl (by decide) rfl; (focus (go_simp; rfl)))
      | (apply wpOrd_pure rfl rfl rfl; (focus (intro _ _; go_simp; (try go_ints); rfl)); (focus (go_simp; rfl)))
      | (apply wpOrd_read rfl rfl rfl; (focus (intro _; go_simp; (try go_ints); rfl)); (focus (go_simp; rfl))))
     refine wpOrd_eff rfl rfl (fun q3 => ?_)
     go_wp2_with fail
     have hc := HF8.out (w6.drewN q3) (HK6.out.drewN q3)
     with_reducible refine hc.mono ?_
     rintro e w7 ⟨rfl, k7⟩
     have h7 : Kp No w6 w7 := ((Kp.refl _ _).drewN q3).trans_same k7
     clear k7 hc
     go_wp2_with fail
     refine wpOrd_eff rfl rfl (fun q4 => ?_)
     go_wp2_with fail
     have hc := HS8.out (w7.drewN q4) ((HK6.out.trans_same h7).drewN q4)
     with_reducible refine hc.mono ?_
     rintro e w8 ⟨rfl, rfl⟩
     have h8 : Kp No w6 (w7.drewN q4) := h7.drewN q4
     clear hc
     go_wp2_with fail
     repeat (first
      | (apply wpOrd_skip rfl (by decide) rfl; (focus (go_simp; rfl)))
      | (apply wpOrd_pure rfl rfl rfl; (focus (intro _ _; go_simp; (try go_ints); rfl)); (focus (go_simp; rfl)))
      | (apply wpOrd_read rfl rfl rfl; (focus (intro _; go_simp; (try go_ints); rfl)); (focus (go_simp; rfl))))
     refine wpOrd_nil (fun nq => ?_)
     obtain ⟨W9, hW9⟩ : ∃ W, W = (w7.drewN q4).drewN nq := ⟨_, rfl⟩
     have HK9 := Lib.hid (HK6.out.trans_same (show Kp No w6 W9 by rw [hW9]; exact h8.drewN nq))
     rw [← hW9]
     clear hW9 h7 h8 g1 g2 g3 g4 g5 g6 g8 g10
     by_cases hx : Y = D
     ·have y2 : ((Y : Int) != (D : Int)) = false := by rw [hx]; simp
      have HR5 := Lib.hid (show r = some ((l.drop 8).take m, m + 12) by rw [HR4.out, if_neg (fun h => h hx)])
      have hE := HE8.out
      have hpl : ((l.drop 8).take m).length = m := by rw [List.length_take, List.length_drop, ← HN.out.1]; omega
      have hem : e8 - 8 = m := by omega
      have hcp := cpy_bytes W9 ((l.drop 8).take m) (some ⟨g, off + 8, none⟩) (cap - 8) (by
       have := (((HR.out.keep HK9.out fun _ _ x => x).mono HK9.out.size (Nat.le_refl _)).drop 8).take m
       rw [Option.map_some, add_lit'] at this
       simp only [u8s, ← List.map_drop, ← List.map_take] at this
       exact this) (by rw [hpl]; omega)
      obtain ⟨a', c', w', hrun, ho, hk, hfr⟩ := hcp
      rw [hpl] at hrun
      rw [← hem] at hrun
      have hfin : DeP w r (.returned (.tuple #[.slice a' m c', .int .i64 ((m + 12 : Nat) : Int), .int .i64 0])) w' :=
       .inr ⟨(l.drop 8).take m, m + 12, a', c', HR5.out, by rw [hpl], ho, fun q hq => Nat.le_trans HK9.out.size (hfr q hq), HK9.out.trans_same hk⟩
      have HFIN := Lib.hid hfin
      have HX := Lib.hid hrun
      have i1 : 8 ≤ e8 := by omega
      have i2 : (8 : Int) ≤ (e8 : Int) := by omega
      have g2 : ¬ cap ≤ 8 := by omega
      have g4 : ¬ cap = 8 := by omega
      have g5 : ¬ cap - 8 = 0 := by omega
      have g6 : (cap == 8) = false := by rw [beq_eq_false_iff_ne]; exact g4
      have g8 : ¬ (cap : Int) = 8 := by omega
      have g10 : (cap - 8 == 0) = false := by rw [beq_eq_false_iff_ne]; exact g5
      have HM := Lib.hid hem
      have w13 : ((e12 : Nat) : Int) = (m : Int) + 12 := by omega
      have HW13 := Lib.hid w13
      clear hx hrun ho hk hfr hfin hE hpl hem w13
      go_wp2_with (at_builtin; refine wpList_append_run rfl rfl rfl rfl HX.out ?_)
      exact bodyPost_ret (v := .tuple #[.slice a' m c', .int .i64 ((m + 12 : Nat) : Int), .int .i64 0]) (by simp [results, Tryz.results126, go_sem, HM.out, w12, HW13.out]) rfl HFIN.out
     ·have y2 : ((Y : Int) != (D : Int)) = true := by rw [bne, beq_eq_false_iff_ne.2 (fun h => hx (Int.natCast_inj.1 h))]; rfl
      have HR5 := Lib.hid (show r = none by rw [HR4.out, if_pos hx])
      clear hx
      go_wp2_with fail
      exact bodyPost_ret (v := .tuple #[.slice none 0 0, .int .i64 0, .int .i64 4]) (by simp [results, Tryz.results126, go_sem]) rfl (.inl ⟨HR5.out, 4, by decide, rfl, HK9.out⟩)
  ·have y1 : ((X : Int) != (C : Int)) = true := by rw [bne, beq_eq_false_iff_ne.2 (fun h => hx (Int.natCast_inj.1 h))]; rfl
   have HR4 := Lib.hid (show r = none by rw [HRR.out, if_pos (fun h => hx (HIT.out.1 h))])
   clear hx
   go_wp2_with fail
   exact bodyPost_ret (v := .tuple #[.slice none 0 0, .int .i64 0, .int .i64 4]) (by simp [results, Tryz.results126, go_sem]) rfl (.inl ⟨HR4.out, 4, by decide, rfl, HK5.out⟩)
end Go.Proofs.YtdibkdgafidjgaaGreatDoor
namespace Go.Proofs.YtdibkdgafidjgaaGreatDoor
open Go.RowKit Go.Mer
theorem Out_any (w : World) (b : Nat) (a : Option Addr) (c : Nat) (l : List UInt8) (hb : w.heap[b]? = some (.cells #[.slice a l.length c] 92 (0, 0))) (hR : Rd w w.heap.size a (u8s l)) (hl : l.length ≤ 140737488355328) :
  Calls Tryz.prog 44 #[.pointer (some ⟨b, 0, none⟩)] w (OwP w l) := by
 have hcl := clone_any a c l w.heap.size w hR hl
 have c0 := cell_at hb 0
 have hbl := get_lt hb
 simp at c0
 obtain ⟨n, hn⟩ : ∃ n, n = l.length := ⟨_, rfl⟩
 rw [← hn] at hcl c0
 have HCL := Lib.hid hcl
 have HN := Lib.hid hn
 clear hcl hb hR hl hn
 go_enter Tryz.func44, Tryz.ntmps44
 go_wp2_with fail
 have hc := HCL.out
 with_reducible refine hc.mono ?_
 rintro e w1 ⟨v, rfl, ho, hk, hf⟩
 obtain ⟨_, a1, c1, rfl, _⟩ := id ho
 have HFIN := Lib.hid (show OwP w l (.returned (.slice a1 n c1)) w1 from ⟨a1, c1, by rw [← show n = _ from HN], by rw [← show n = _ from HN]; exact ho, by rw [← show n = _ from HN]; exact hf, hk⟩)
 clear ho hk hf hc
 go_wp2_with fail
 go_ret
 exact HFIN.out
def ReP (w : World) (b : Nat) (l : List UInt8) (bad : Bool) (w' : World) : Prop :=
 ∃ a c, w'.heap[b]? = some (.cells #[.slice a l.length c, .bool bad] 175 (0, 0)) ∧ Rd w' w'.heap.size a (u8s l) ∧ l.length ≤ c ∧ w.heap.size ≤ b ∧ (∀ g o, 0 < l.length → a = some ⟨g, o, none⟩ → g ≠ b) ∧ Kp No w w'
theorem NewReader_any (w : World) (a : Option Addr) (c : Nat) (l : List UInt8) (hR : Rd w w.heap.size a (u8s l)) (hl : l.length ≤ 140737488355328) :
  Calls Tryz.prog 91 #[.slice a l.length c] w fun e w' => ∃ b, e = .returned (.pointer (some ⟨b, 0, none⟩)) ∧ ReP w b l false w' := by
 have hcl := clone_any a c l w.heap.size w hR hl
 obtain ⟨n, hn⟩ : ∃ n, n = l.length := ⟨_, rfl⟩
 rw [← hn] at hcl ⊢
 have HCL := Lib.hid hcl
 have HN := Lib.hid hn
 clear hcl hR hl hn
 go_enter Tryz.func91, Tryz.ntmps91
 go_wp2_with fail
 have hc := HCL.out
 with_reducible refine hc.mono ?_
 rintro e w1 ⟨v, rfl, ho, hk, hf⟩
 obtain ⟨_, a1, c1, rfl, hac, _⟩ := id ho
 have hk2 : Kp No w1 (w1.alloc (.cells #[.slice a1 n c1, .bool false] 175 (0, 0))) := (Kp.refl _ _).alloc _
 have HFIN := Lib.hid (show ReP w w1.heap.size l false (w1.alloc (.cells #[.slice a1 n c1, .bool false] 175 (0, 0))) from by
  refine ⟨a1, c1, ?_, ?_, ?_, hk.size, fun g o _ ha => ?_, hk.trans_same hk2⟩
  ·rw [← show n = _ from HN]; exact heap_alloc_new w1 _
  ·exact (ho.rd'.keep hk2 fun _ _ x => x).mono hk2.size (Nat.le_refl _)
  ·rw [← show n = _ from HN]; exact hac
  ·have := ho.lt g (by rw [ha]; rfl)
   omega)
 clear ho hk hf hc hk2 hac
 go_wp2_with fail
 go_ret
 exact ⟨_, rfl, HFIN.out⟩
theorem Good_any (w w' : World) (b : Nat) (l : List UInt8) (bad : Bool) (h : ReP w b l bad w') : Calls Tryz.prog 93 #[.pointer (some ⟨b, 0, none⟩)] w' fun e w2 => e = .returned (.bool (!bad)) ∧ w' = w2 := by
 obtain ⟨a, c, hb, _⟩ := h
 have c1 := cell_at hb 1
 have hbl := get_lt hb
 simp at c1
 clear hb
 go_enter Tryz.func93, Tryz.ntmps93
 go_wp2_with fail
 go_ret
 exact ⟨rfl, rfl⟩
theorem Left_any (w w' : World) (b : Nat) (l : List UInt8) (bad : Bool) (h : ReP w b l bad w') : Calls Tryz.prog 95 #[.pointer (some ⟨b, 0, none⟩)] w' fun e w2 => e = .returned (.int .i64 (l.length : Int)) ∧ w' = w2 := by
 obtain ⟨a, c, hb, _⟩ := h
 have c0 := cell_at hb 0
 have hbl := get_lt hb
 simp at c0
 clear hb
 go_enter Tryz.func95, Tryz.ntmps95
 go_wp2_with fail
 go_ret
 exact ⟨rfl, rfl⟩
end Go.Proofs.YtdibkdgafidjgaaGreatDoor

