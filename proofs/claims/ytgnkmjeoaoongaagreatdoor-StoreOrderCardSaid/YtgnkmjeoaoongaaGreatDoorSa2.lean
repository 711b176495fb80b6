/-
  Texts laid together: SMem, Hlc, Stamps, SOrd.
-/
import Derived.Test.YtgnkmjeoaoongaaGreatDoorProg
import Derived.Test.YtgnkmjeoaoongaaGreatDoorSa0
import Derived.Test.YtgnkmjeoaoongaaGreatDoorSa1
import Derived.Deep.CutRange
import Derived.Deep.CutBlock
import Derived.Deep.LoopGhost
import Derived.WalkKit
import Derived.WalkSpells
import Derived.WalkLawsBesides
import Derived.Lib.Hide
import Derived.BigQuiet
namespace Go.Proofs.YtgnkmjeoaoongaaGreatDoor
open Go.RowKit Go.Mer
structure VerR where
 v : VerS
 a : Option Addr
 cap : Nat
structure RecR where
 r : RecS
 a : Option Addr
 cap : Nat
def VerR.sl (x : VerR) : Value := .slice x.a x.v.val.length x.cap
def RecR.sl (x : RecR) : Value := .slice x.a x.r.v.val.length x.cap
def RecR.ver (x : RecR) : VerR := ⟨x.r.v, x.a, x.cap⟩
def verC (x : VerR) : List Value := [.int .i64 x.v.m, .int .i64 x.v.c, .int .i64 x.v.o, x.sl, .bool x.v.gone, .int .i64 x.v.ttl]
def recC (x : RecR) : List Value := [.int .i64 x.r.o, .int .i64 x.r.seq, .string x.r.key, .int .i64 x.r.v.m, .int .i64 x.r.v.c, .int .i64 x.r.v.o, x.sl, .bool x.r.v.gone, .int .i64 x.r.v.ttl]
theorem verC_len (x : VerR) : (verC x).length = 6 := rfl
theorem recC_len (x : RecR) : (recC x).length = 9 := rfl
theorem verC_one (x : VerR) : ∀ u ∈ verC x, u.oneCell' = true := by
 intro u hu
 simp only [verC, VerR.sl, List.mem_cons, List.not_mem_nil, or_false] at hu
 rcases hu with rfl | rfl | rfl | rfl | rfl | rfl <;> rfl
theorem recC_one (x : RecR) : ∀ u ∈ recC x, u.oneCell' = true := by
 intro u hu
 simp only [recC, RecR.sl, List.mem_cons, List.not_mem_nil, or_false] at hu
 rcases hu with rfl | rfl | rfl | rfl | rfl | rfl | rfl | rfl | rfl <;> rfl
theorem infoVer : (Tryz.prog.info? 44).map (fun i => ((i.zero.map fun z => z.cells.size), i.size, i.bytes)) = some (some 6, 6, 64) := by kernel_rfl
theorem infoRec : (Tryz.prog.info? 46).map (fun i => ((i.zero.map fun z => z.cells.size), i.size, i.bytes)) = some (some 9, 9, 96) := by kernel_rfl
def VerR.rd (x : VerR) (w : World) : Prop := Rd w w.heap.size x.a (u8s x.v.val) ∧ x.v.val.length ≤ x.cap ∧ x.cap ≤ maxLen
def RecR.rd (x : RecR) (w : World) : Prop := x.ver.rd w
def VerR.ok (x : VerR) (w : World) : Prop := Own w 5 1 x.sl x.v.val.length (u8s x.v.val)
def RecR.ok (x : RecR) (w : World) : Prop := x.ver.ok w
theorem VerR.ok.rd {x : VerR} {w : World} (h : x.ok w) : x.rd w := by
 obtain ⟨_, a, c, e, h1, h2, _⟩ := id h
 unfold VerR.sl at e
 injection e with e1 _ e3
 exact ⟨Own.rd' h, by rw [e3]; exact h1, by rw [e3]; exact h2⟩
theorem RecR.ok.rd {x : RecR} {w : World} (h : x.ok w) : x.rd w := VerR.ok.rd h
theorem VerR.ok.keep {x : VerR} {w w' : World} {S : Nat → Prop} (h : x.ok w) (hk : Kp S w w') (hS : ∀ g, x.sl.ownBlock = some g → ¬ S g) : x.ok w' := Own.keep h hk hS
theorem VerR.ok.apart {x : VerR} {w w' : World} {S : Nat → Prop} (h : x.ok w) (hk : Kp S w w') (hS : ∀ g, S g → ∀ cur, w.heap[g]? ≠ some (.cells cur 5 (0, 0))) : x.ok w' :=
 h.keep hk fun g hg hs => by
  obtain ⟨cur, hc⟩ := Own.type h g hg
  exact hS g hs cur hc
structure ChR where
 b : Nat
 ra : Option Addr
 rc : Nat
 R : List VerR
def ChR.row (c : ChR) : Value := .slice c.ra c.R.length c.rc
def ChR.vs (c : ChR) : List VerS := c.R.map VerR.v
structure ChOk (t : TypeId) (w : World) (c : ChR) : Prop where
 cell : w.heap[c.b]? = some (.cells #[c.row] t (0, 0))
 own : Own w 44 6 c.row c.R.length (c.R.flatMap verC)
 vals : ∀ x ∈ c.R, x.ok w
def ChF (c : ChR) : Nat → Prop := fun k => k = c.b ∨ c.row.ownBlock = some k ∨ ∃ x ∈ c.R, x.sl.ownBlock = some k
section
variable {t : TypeId} {w w' : World} {c c' : ChR}
theorem ChOk.keep {S : Nat → Prop} (h : ChOk t w c) (hk : Kp S w w') (hS : ∀ k, ChF c k → ¬ S k) : ChOk t w' c :=
 ⟨hk.get h.cell (hS _ (.inl rfl)), h.own.keep hk fun g hg => hS g (.inr (.inl hg)), fun x hx => (h.vals x hx).keep hk fun g hg => hS g (.inr (.inr ⟨x, hx, hg⟩))⟩
theorem ChOk.keep_no (h : ChOk t w c) (hk : Kp No w w') : ChOk t w' c := h.keep hk fun _ _ x => x
theorem ChOk.lt (h : ChOk t w c) : ∀ k, ChF c k → k < w.heap.size := by
 rintro k (rfl | hk | ⟨x, hx, hk⟩)
 ·exact get_lt h.cell
 ·exact h.own.lt k hk
 ·exact Own.lt (h.vals x hx) k hk
theorem ChOk.row_ne (h : ChOk t w c) (ht : t ≠ 44) {g : Nat} (hg : c.row.ownBlock = some g) : g ≠ c.b := by
 obtain ⟨cur, hc⟩ := h.own.type g hg
 exact ne_of_type hc h.cell (fun e => ht e.symm)
theorem ChOk.cells (h : ChOk t w c) : (∀ W, Kp No w W → W.cell? ⟨c.b, 0, none⟩ = some c.row) ∧ (∀ W, Kp No w W → W.frozen? ⟨c.b, 0, none⟩ = false) :=
 ⟨fun W hW => by rw [cell_at (h.keep_no hW).cell]; rfl, fun W hW => free_at (h.keep_no hW).cell 0⟩
end
end Go.Proofs.YtgnkmjeoaoongaaGreatDoor
namespace Go.Proofs.YtgnkmjeoaoongaaGreatDoor
open Go.RowKit Go.Mer
abbrev stv (m c : Int) : Value := .agg #[.int .i64 m, .int .i64 c]
def okM (n : Int) : Bool := decide (0 ≤ n) && decide (n ≤ 281474976710655)
theorem isMilli_any (n : Int) (w : World) : Calls Tryz.prog 252 #[.int .i64 n] w fun e w' => e = .returned (.bool (okM n)) ∧ w = w' := by
 unfold okM
 by_cases h0 : 0 ≤ n
 ·by_cases h1 : n ≤ 281474976710655
  ·have b0 : decide (0 ≤ n) = true := by simpa using h0
   have b1 : decide (n ≤ 281474976710655) = true := by simpa using h1
   go_enter Tryz.func252, Tryz.ntmps252
   go_wp2_with fail
   go_ret
   exact ⟨by simp [*], rfl⟩
  ·have b0 : decide (0 ≤ n) = true := by simpa using h0
   have b1 : decide (n ≤ 281474976710655) = false := by simpa using h1
   go_enter Tryz.func252, Tryz.ntmps252
   go_wp2_with fail
   go_ret
   exact ⟨by simp [*], rfl⟩
 ·have b0 : decide (0 ≤ n) = false := by simpa using h0
  go_enter Tryz.func252, Tryz.ntmps252
  go_wp2_with fail
  go_ret
  exact ⟨by simp [*], rfl⟩
theorem three (a b c : Int) (_hab : a ≤ b) : c < a ∨ (a ≤ c ∧ c ≤ b) ∨ b < c := by omega
theorem is_any (m c : Int) (w : World) : Calls Tryz.prog 200 #[stv m c] w fun e w' => e = .returned (.bool (isSt m c)) ∧ Kp No w w' := by
 have e0 : isSt m c = (okM m && decide (0 ≤ c) && decide (c ≤ 65535)) := rfl
 rw [e0]
 clear e0
 cases hM : okM m
 all_goals
  have HM := Lib.hid hM
  clear hM
  rcases three 0 65535 c (by decide) with h0 | ⟨h0, h1⟩ | h0
  all_goals
   go_enter Tryz.func200, Tryz.ntmps200
   go_wp2_with fail
   refine (isMilli_any _ _).mono ?_
   rintro e w' ⟨rfl, rfl⟩
   rw [HM.out]
   go_wp2_with fail
   go_ret
   refine ⟨?_, (Kp.refl _ _).alloc _⟩
   try simp [h0]
   try omega
theorem pk_or {m c : Int} (h : isSt m c = true) : bits .or .u64 (m * 65536) c = ((pk m c : Nat) : Int) := by
 obtain ⟨h1, h2, h3, h4⟩ := isSt_iff.1 h
 obtain ⟨a, rfl⟩ := Int.eq_ofNat_of_zero_le h1
 obtain ⟨b, rfl⟩ := Int.eq_ofNat_of_zero_le h3
 have e : ((a : Int) * 65536) = ((2 ^ 16 * a : Nat) : Int) := by omega
 rw [e, bits_or rfl (by show 2 ^ 16 * a < 2 ^ 64; omega) (by show b < 2 ^ 64; omega), ← Nat.two_pow_add_eq_or_of_lt (by omega : b < 2 ^ 16)]
 unfold pk
 omega
theorem Pack_any (m c : Int) (w : World) (h : isSt m c = true) : Calls Tryz.prog 126 #[stv m c] w fun e w' => e = .returned (.tuple #[.int .u64 (pk m c : Int), .int .i64 0]) ∧ Kp No w w' := by
 have HP := Lib.hid (pk_or h)
 obtain ⟨h1, h2, h3, h4⟩ := isSt_iff.1 h
 have HH := Lib.hid h
 clear h
 go_enter Tryz.func126, Tryz.ntmps126
 go_wp2_with fail
 refine (is_any _ _ _).mono ?_
 rintro e w' ⟨rfl, hk⟩
 rw [HH.out]
 have hk' : Kp No w w' := ((Kp.refl _ _).alloc _).trans_same hk
 have hc := hk.get (heap_alloc_new w _) fun x => x
 have c0 := cell_at hc 0
 have c1 := cell_at hc 1
 simp at c0 c1
 clear hc hk
 go_wp2_with fail
 go_ret2
 exact ⟨by rw [HP.out]; rfl, hk'⟩
theorem Pack_no (m c : Int) (w : World) (h : isSt m c = false) : Calls Tryz.prog 126 #[stv m c] w fun e w' => e = .returned (.tuple #[.int .u64 0, .int .i64 1]) ∧ Kp No w w' := by
 have HH := Lib.hid h
 clear h
 go_enter Tryz.func126, Tryz.ntmps126
 go_wp2_with fail
 refine (is_any _ _ _).mono ?_
 rintro e w' ⟨rfl, hk⟩
 rw [HH.out]
 have hk' : Kp No w w' := ((Kp.refl _ _).alloc _).trans_same hk
 clear hk
 go_wp2_with fail
 go_ret2
 exact ⟨rfl, hk'⟩
end Go.Proofs.YtgnkmjeoaoongaaGreatDoor
namespace Go.Proofs.YtgnkmjeoaoongaaGreatDoor
open Go.RowKit Go.Mer
def cmpI (x y : Int) : Int := if x < y then -1 else if y < x then 1 else 0
def cmpH (m c n d : Int) : Int := if m < n ∨ (m = n ∧ c < d) then -1 else if m = n ∧ c = d then 0 else 1
theorem cmpH_or (m c n d : Int) : cmpH m c n d = if cmpI m n ≠ 0 then cmpI m n else cmpI c d := by
 unfold cmpH cmpI
 repeat' split
 all_goals omega
theorem isNaN_any (x : Int) (w : World) : Calls Tryz.prog 201 #[.int .i64 x] w fun e w' => e = .returned (.bool false) ∧ w = w' := by
 go_enter Tryz.func201, Tryz.ntmps201
 go_wp2_with fail
 go_ret
 exact ⟨by simp, rfl⟩
theorem CmpI_any (x y : Int) (w : World) : Calls Tryz.prog 128 #[.int .i64 x, .int .i64 y] w fun e w' => e = .returned (.int .i64 (cmpI x y)) ∧ w = w' := by
 have hv : cmpI x y = if x < y then -1 else if y < x then 1 else 0 := rfl
 obtain ⟨r, hr⟩ : ∃ r, r = cmpI x y := ⟨_, rfl⟩
 rw [← hr] at hv ⊢
 have HV := Lib.hid hv
 clear hv hr
 rcases Int.lt_trichotomy x y with h | h | h
 ·go_enter Tryz.func128, Tryz.ntmps128
  go_wp2_with fail
  refine (isNaN_any _ _).mono ?_
  rintro e w' ⟨rfl, rfl⟩
  go_wp2_with fail
  refine (isNaN_any _ _).mono ?_
  rintro e w' ⟨rfl, rfl⟩
  go_wp2_with fail
  go_ret
  exact ⟨by rw [HV.out, if_pos h]; rfl, rfl⟩
 ·subst h
  go_enter Tryz.func128, Tryz.ntmps128
  go_wp2_with fail
  refine (isNaN_any _ _).mono ?_
  rintro e w' ⟨rfl, rfl⟩
  go_wp2_with fail
  refine (isNaN_any _ _).mono ?_
  rintro e w' ⟨rfl, rfl⟩
  go_wp2_with fail
  go_ret
  exact ⟨by rw [HV.out, if_neg (by omega), if_neg (by omega)]; rfl, rfl⟩
 ·go_enter Tryz.func128, Tryz.ntmps128
  go_wp2_with fail
  refine (isNaN_any _ _).mono ?_
  rintro e w' ⟨rfl, rfl⟩
  go_wp2_with fail
  refine (isNaN_any _ _).mono ?_
  rintro e w' ⟨rfl, rfl⟩
  go_wp2_with fail
  go_ret
  exact ⟨by rw [HV.out, if_neg (by omega), if_pos h]; rfl, rfl⟩
theorem Or2_any (a b : Int) (w : World) (g cap : Nat) (hg : w.heap[g]? = some (.cells #[.int .i64 a, .int .i64 b] 3 (0, 0))) :
  Calls Tryz.prog 127 #[.slice (some ⟨g, 0, none⟩) 2 cap] w fun e w' => e = .returned (.int .i64 (if a ≠ 0 then a else b)) ∧ w = w' := by
 obtain ⟨r, hr⟩ : ∃ r, r = if a ≠ 0 then a else b := ⟨_, rfl⟩
 rw [← hr]
 have c0 := cell_at hg 0
 have c1 := cell_at hg 1
 simp at c0 c1
 have HR := Lib.hid hr
 clear hr hg
 go_enter Tryz.func127, Tryz.ntmps127
 go_wp2_with fail
 go_loop [8] (fun i => ∃ k : Nat, k ≤ 2 ∧ i = .int .i64 (k : Int) ∧ (k = 0 ∨ a = 0) ∧ (k ≤ 1 ∨ b = 0)) (fun i => 2 - (intOf i).toNat)
 case atStart => exact ⟨0, by omega, rfl, .inl rfl, .inl (by omega)⟩
 case round =>
  obtain ⟨k, hk, rfl, h0, h1⟩ := hrel
  have hk3 : k = 0 ∨ k = 1 ∨ k = 2 := by omega
  have HH := Lib.hid (And.intro h0 h1)
  clear h0 h1
  rcases hk3 with rfl | rfl | rfl
  ·by_cases ha : a = 0
   ·subst ha
    go_wp2_with fail
    go_round
    case rel => exact ⟨1, by omega, rfl, .inr trivial, .inl (by omega)⟩
    case measure => simp [intOf]
   ·have hb : (a != 0) = true := by rw [bne_iff_ne]; exact ha
    have HA := Lib.hid ha
    clear ha
    go_wp2_with fail
    go_ret
    exact ⟨by rw [HR.out, if_pos HA.out]; rfl, rfl⟩
  ·obtain rfl : a = 0 := HH.out.1.resolve_left (by omega)
   by_cases ha : b = 0
   ·subst ha
    go_wp2_with fail
    go_round
    case rel => exact ⟨2, by omega, rfl, .inr trivial, .inr trivial⟩
    case measure => simp [intOf]
   ·have hb : (b != 0) = true := by rw [bne_iff_ne]; exact ha
    clear ha
    go_wp2_with fail
    go_ret
    exact ⟨by rw [HR.out, if_neg (by omega)]; rfl, rfl⟩
  ·obtain rfl : a = 0 := HH.out.1.resolve_left (by omega)
   obtain rfl : b = 0 := HH.out.2.resolve_left (by omega)
   go_wp2_with fail
   go_ret
   exact ⟨by rw [HR.out, if_neg (by omega)]; rfl, rfl⟩
theorem quietC {P : Program} {f : FuncId} {args : Array Value} {w : World} {v : Value} (c : ∀ W : World, Calls P f args W fun e w' => e = .returned v ∧ W = w') (n : Nat) :
  Calls P f args (w.drewN n) fun e w' => e = .returned v ∧ ∃ m, w' = (w.drewN n).drewN m :=
 (c _).mono fun _ _ ⟨h1, h2⟩ => ⟨h1, 0, by rw [← h2]; rfl⟩
theorem Compare_any (m c n d : Int) (w : World) : Calls Tryz.prog 72 #[stv m c, stv n d] w fun e w' => e = .returned (.int .i64 (cmpH m c n d)) ∧ Kp No w w' := by
 have hv := cmpH_or m c n d
 obtain ⟨r, hr⟩ : ∃ r, r = cmpH m c n d := ⟨_, rfl⟩
 rw [← hr] at hv ⊢
 have HV := Lib.hid hv
 clear hv hr
 go_enter Tryz.func72, Tryz.ntmps72
 go_wp2_with fail
 refine wp_region_ord [0,1,0,1,1,0,1,0,1,1,2,2,0] [0,2,5,7,1,3,4,6,8,9,10,11,12] (by kernel_rfl) (by kernel_rfl) ?_
 repeat (first
  | (apply wpOrd_skip rfl (by decide) rfl; (focus (go_simp; rfl)))
  | (apply wpOrd_pure rfl rfl rfl; (focus (intro _ _; go_simp; (try go_ints); rfl)); (focus (go_simp; rfl)))
  | (apply wpOrd_read rfl rfl rfl; (focus (intro _; go_simp; (try go_ints); rfl)); (focus (go_simp; rfl))))
 refine wpOrd_call rfl rfl rfl (fun n => (by go_simp; try rfl)) (quietC fun W => CmpI_any m n W) (by go_simp; try rfl) ?_
 repeat (first
  | (apply wpOrd_skip rfl (by decide) rfl; (focus (go_simp; rfl)))
  | (apply wpOrd_pure rfl rfl rfl; (focus (intro _ _; go_simp; (try go_ints); rfl)); (focus (go_simp; rfl)))
  | (apply wpOrd_read rfl rfl rfl; (focus (intro _; go_simp; (try go_ints); rfl)); (focus (go_simp; rfl))))
 refine wpOrd_call rfl rfl rfl (fun n => (by go_simp; try rfl)) (quietC fun W => CmpI_any c d W) (by go_simp; try rfl) ?_
 repeat (first
  | (apply wpOrd_skip rfl (by decide) rfl; (focus (go_simp; rfl)))
  | (apply wpOrd_pure rfl rfl rfl; (focus (intro _ _; go_simp; (try go_ints); rfl)); (focus (go_simp; rfl)))
  | (apply wpOrd_read rfl rfl rfl; (focus (intro _; go_simp; (try go_ints); rfl)); (focus (go_simp; rfl))))
 refine wpOrd_eff rfl rfl (fun n1 => ?_)
 go_wp2_with fail
 obtain ⟨W1, hW1⟩ : ∃ W, W = ((w.alloc (.cells #[.int .i64 m, .int .i64 c] 25)).alloc (.cells #[.int .i64 n, .int .i64 d] 25)).drewN n1 := ⟨_, rfl⟩
 rw [← hW1]
 have hk1 : Kp No w W1 := by rw [hW1]; exact (((Kp.refl _ _).alloc _).alloc _).drewN _
 have hs1 : W1.heap.size = w.heap.size + 1 + 1 := by rw [hW1]; simp
 have hg := heap_alloc_new W1 (.cells #[.int .i64 (cmpI m n), .int .i64 (cmpI c d)] 3)
 rw [hs1] at hg
 have hk2 : Kp No w (W1.alloc (.cells #[.int .i64 (cmpI m n), .int .i64 (cmpI c d)] 3)) := hk1.alloc _
 have hOr := fun n2 => Or2_any (cmpI m n) (cmpI c d) ((W1.alloc (.cells #[.int .i64 (cmpI m n), .int .i64 (cmpI c d)] 3)).drewN n2) (w.heap.size + 1 + 1) 2 hg
 rw [← HV.out] at hOr
 have HO := Lib.hid hOr
 clear hW1 hg hs1 hOr
 refine wpOrd_eff rfl rfl (fun n2 => ?_)
 go_wp2_with fail
 refine (HO.out n2).mono ?_
 rintro e w' ⟨rfl, rfl⟩
 go_wp2_with fail
 repeat (first
  | (apply wpOrd_skip rfl (by decide) rfl; (focus (go_simp; rfl)))
  | (apply wpOrd_pure rfl rfl rfl; (focus (intro _ _; go_simp; (try go_ints); rfl)); (focus (go_simp; rfl)))
  | (apply wpOrd_read rfl rfl rfl; (focus (intro _; go_simp; (try go_ints); rfl)); (focus (go_simp; rfl))))
 refine wpOrd_nil (fun nq => ?_)
 go_wp2_with fail
 go_ret
 exact ⟨rfl, (hk2.drewN _).drewN _⟩
end Go.Proofs.YtgnkmjeoaoongaaGreatDoor
namespace Go.Proofs.YtgnkmjeoaoongaaGreatDoor
open Go.RowKit Go.Mer
abbrev verA (m c o : Int) (v : Value) (g : Bool) (ttl : Int) : Value := .agg #[.int .i64 m, .int .i64 c, .int .i64 o, v, .bool g, .int .i64 ttl]
def ordF (m c o m' c' o' : Int) : Int := if cmpH m c m' c' ≠ 0 then cmpH m c m' c' else cmpI o o'
def seenF (m c : Int) (gone : Bool) (ttl t1 t2 : Int) : Bool := decide (cmpH m c t1 t2 ≤ 0) && !gone && (ttl == 0 || decide (wrap64 (t1 - m) < ttl))
set_option maxHeartbeats 1000000 in
theorem order_any (m c o : Int) (v : Value) (g : Bool) (tt : Int) (m' c' o' : Int) (v' : Value) (g' : Bool) (tt' : Int) (w : World) :
  Calls Tryz.prog 191 #[verA m c o v g tt, verA m' c' o' v' g' tt'] w fun e w' => e = .returned (.int .i64 (ordF m c o m' c' o')) ∧ Kp No w w' := by
 obtain ⟨r, hr⟩ : ∃ r, r = ordF m c o m' c' o' := ⟨_, rfl⟩
 rw [← hr]
 obtain ⟨W1, hW1⟩ : ∃ W1, W1 = (w.alloc (.cells #[.int .i64 m, .int .i64 c, .int .i64 o, v, .bool g, .int .i64 tt] 44)).alloc (.cells #[.int .i64 m', .int .i64 c', .int .i64 o', v', .bool g', .int .i64 tt'] 44) := ⟨_, rfl⟩
 have H1 : Kp No w W1 := by rw [hW1]; exact ((Kp.refl _ _).alloc _).alloc _
 have b1 : W1.heap[w.heap.size]? = some (.cells #[.int .i64 m, .int .i64 c, .int .i64 o, v, .bool g, .int .i64 tt] 44 (0, 0)) := by rw [hW1]; exact alloc_far (heap_alloc_new w _) _
 have b2 : W1.heap[w.heap.size + 1]? = some (.cells #[.int .i64 m', .int .i64 c', .int .i64 o', v', .bool g', .int .i64 tt'] 44 (0, 0)) := by rw [hW1]; exact (congrArg (fun k => ((w.alloc _).alloc _).heap[k]?) (by simp)).trans (heap_alloc_new (w.alloc _) _)
 have c0 : ∀ W, Kp No W1 W → W.cell? ⟨w.heap.size, 0, none⟩ = some (.int .i64 m) := fun W h => by rw [cell_at (h.get b1 fun x => x)]; rfl
 have c1 : ∀ W, Kp No W1 W → W.cell? ⟨w.heap.size, 1, none⟩ = some (.int .i64 c) := fun W h => by rw [cell_at (h.get b1 fun x => x)]; rfl
 have c2 : ∀ W, Kp No W1 W → W.cell? ⟨w.heap.size, 2, none⟩ = some (.int .i64 o) := fun W h => by rw [cell_at (h.get b1 fun x => x)]; rfl
 have e0 : ∀ W, Kp No W1 W → W.cell? ⟨w.heap.size + 1, 0, none⟩ = some (.int .i64 m') := fun W h => by rw [cell_at (h.get b2 fun x => x)]; rfl
 have e1 : ∀ W, Kp No W1 W → W.cell? ⟨w.heap.size + 1, 1, none⟩ = some (.int .i64 c') := fun W h => by rw [cell_at (h.get b2 fun x => x)]; rfl
 have e2 : ∀ W, Kp No W1 W → W.cell? ⟨w.heap.size + 1, 2, none⟩ = some (.int .i64 o') := fun W h => by rw [cell_at (h.get b2 fun x => x)]; rfl
 have HR := Lib.hid (show r = if cmpH m c m' c' ≠ 0 then cmpH m c m' c' else cmpI o o' from hr)
 have HH := Lib.hid H1
 clear b1 b2 hr H1
 go_enter Tryz.func191, Tryz.ntmps191
 go_wp2_with fail
 rw [← hW1]
 clear hW1
 refine wp_region_held' (Kp No _) [0,0,0,0,2,0,0,0,0,2,2,2,0] [0,1,2,3,5,6,7,8,4,9,10,11,12] (by kernel_rfl) (by kernel_rfl) (fun _ n h => h.drewN n) (Kp.refl _ _) ?_
 repeat (first
  | (apply wpOrd_skip rfl (by decide) rfl; (focus (go_simp; rfl)))
  | (apply wpOrd_pure rfl rfl rfl; (focus (intro _ _; go_simp; (try go_ints); rfl)); (focus (go_simp; rfl)))
  | (apply wpOrd_read rfl rfl rfl; (focus (intro _; go_simp; (try go_ints); rfl)); (focus (go_simp; rfl))))
 refine wpOrd_eff rfl rfl (fun n1 => ?_)
 go_wp2_with fail
 refine (Compare_any m c m' c' _).mono ?_
 rintro e w2 ⟨rfl, hk2⟩
 have h2 : Kp No W1 w2 := hk2.of_drewN
 clear hk2
 go_wp2_with fail
 repeat (first
  | (apply wpOrd_skip rfl (by decide) rfl; (focus (go_simp; rfl)))
  | (apply wpOrd_pure rfl rfl rfl; (focus (intro _ _; go_simp; (try go_ints); rfl)); (focus (go_simp; rfl)))
  | (apply wpOrd_read rfl rfl rfl; (focus (intro _; go_simp; (try go_ints); rfl)); (focus (go_simp; rfl))))
 refine wpOrd_eff rfl rfl (fun n2 => ?_)
 go_wp2_with fail
 refine (CmpI_any o o' _).mono ?_
 rintro e w3 ⟨rfl, rfl⟩
 have h3 : Kp No W1 (w2.drewN n2) := h2.drewN n2
 go_wp2_with fail
 obtain ⟨W3, hW3⟩ : ∃ W, W = w2.drewN n2 := ⟨_, rfl⟩
 rw [← hW3] at h3
 (try rw [← hW3])
 clear h2 hW3
 refine wpOrd_eff rfl rfl (fun n3 => ?_)
 go_wp2_with fail
 refine ⟨(h3.drewN n3).alloc _, ?_⟩
 have hg := heap_alloc_new (W3.drewN n3) (.cells #[.int .i64 (cmpH m c m' c'), .int .i64 (cmpI o o')] 3)
 have hOr := fun n4 => Or2_any (cmpH m c m' c') (cmpI o o') (((W3.drewN n3).alloc (.cells #[.int .i64 (cmpH m c m' c'), .int .i64 (cmpI o o')] 3)).drewN n4) W3.heap.size 2 hg
 rw [← HR.out] at hOr
 have h4 : Kp No W1 ((W3.drewN n3).alloc (.cells #[.int .i64 (cmpH m c m' c'), .int .i64 (cmpI o o')] 3)) := (h3.drewN n3).alloc _
 have HO := Lib.hid hOr
 clear hg hOr h3 c0 c1 c2 e0 e1 e2
 refine wpOrd_eff rfl rfl (fun n4 => ?_)
 go_wp2_with fail
 refine (HO.out n4).mono ?_
 rintro e w' ⟨rfl, rfl⟩
 have h5 := h4.drewN n4
 clear h4
 go_wp2_with fail
 repeat (first
  | (apply wpOrd_skip rfl (by decide) rfl; (focus (go_simp; rfl)))
  | (apply wpOrd_pure rfl rfl rfl; (focus (intro _ _; go_simp; (try go_ints); rfl)); (focus (go_simp; rfl)))
  | (apply wpOrd_read rfl rfl rfl; (focus (intro _; go_simp; (try go_ints); rfl)); (focus (go_simp; rfl))))
 refine wpOrd_nil (fun nq => ?_)
 have H5 := Lib.hid (HH.out.trans_same h5)
 clear h5
 go_wp2_with fail
 go_ret
 exact ⟨rfl, H5.out.drewN _⟩
set_option maxHeartbeats 1000000 in
theorem Seen_any (m c o : Int) (v : Value) (g : Bool) (tt t1 t2 : Int) (w : World) :
  Calls Tryz.prog 134 #[verA m c o v g tt, stv t1 t2] w fun e w' => e = .returned (.bool (seenF m c g tt t1 t2)) ∧ Kp No w w' := by
 obtain ⟨r, hr⟩ : ∃ r, r = seenF m c g tt t1 t2 := ⟨_, rfl⟩
 rw [← hr]
 have hcc := fun W => Compare_any m c t1 t2 W
 obtain ⟨q, hq⟩ : ∃ q, q = cmpH m c t1 t2 := ⟨_, rfl⟩
 unfold seenF at hr
 rw [← hq] at hr hcc
 have HC := Lib.hid hcc
 have HR := Lib.hid hr
 clear hr hcc hq
 obtain ⟨W1, hW1⟩ : ∃ W1, W1 = (w.alloc (.cells #[.int .i64 m, .int .i64 c, .int .i64 o, v, .bool g, .int .i64 tt] 44)).alloc (.cells #[.int .i64 t1, .int .i64 t2] 25) := ⟨_, rfl⟩
 have H1 : Kp No w W1 := by rw [hW1]; exact ((Kp.refl _ _).alloc _).alloc _
 have b1 : W1.heap[w.heap.size]? = some (.cells #[.int .i64 m, .int .i64 c, .int .i64 o, v, .bool g, .int .i64 tt] 44 (0, 0)) := by rw [hW1]; exact alloc_far (heap_alloc_new w _) _
 have b2 : W1.heap[w.heap.size + 1]? = some (.cells #[.int .i64 t1, .int .i64 t2] 25 (0, 0)) := by rw [hW1]; exact (congrArg (fun k => ((w.alloc _).alloc _).heap[k]?) (by simp)).trans (heap_alloc_new (w.alloc _) _)
 have HH := Lib.hid H1
 have HB1 := Lib.hid b1
 have HB2 := Lib.hid b2
 clear b1 b2 H1
 go_enter Tryz.func134, Tryz.ntmps134
 go_wp2_with fail
 rw [← hW1]
 clear hW1
 refine (HC.out _).mono ?_
 rintro e W2 ⟨rfl, hk2⟩
 have HK2 := Lib.hid (HH.out.trans_same hk2)
 have b1 := hk2.get HB1.out fun x => x
 have b2 := hk2.get HB2.out fun x => x
 have c0 : W2.cell? ⟨w.heap.size, 0, none⟩ = some (.int .i64 m) := by rw [cell_at b1]; rfl
 have c4 : W2.cell? ⟨w.heap.size, 4, none⟩ = some (.bool g) := by rw [cell_at b1]; rfl
 have c5 : W2.cell? ⟨w.heap.size, 5, none⟩ = some (.int .i64 tt) := by rw [cell_at b1]; rfl
 have e0 : W2.cell? ⟨w.heap.size + 1, 0, none⟩ = some (.int .i64 t1) := by rw [cell_at b2]; rfl
 clear b1 b2 hk2
 by_cases h1 : q ≤ 0
 ·have d1 : decide (q ≤ 0) = true := decide_eq_true h1
  have D1 := Lib.hid d1
  clear h1
  cases g with
  | true =>
   go_wp2_with fail
   go_ret
   exact ⟨by rw [HR.out, D1.out]; rfl, HK2.out⟩
  | false =>
   by_cases h2 : tt = 0
   ·subst h2
    go_wp2_with fail
    go_ret
    exact ⟨by rw [HR.out, D1.out]; rfl, HK2.out⟩
   ·have d2 : (tt == 0) = false := by simp [h2]
    have D2 := Lib.hid d2
    clear h2
    go_wp2_with fail
    go_ret
    exact ⟨by rw [HR.out, D1.out, D2.out]; rfl, HK2.out⟩
 ·have d1 : decide (q ≤ 0) = false := decide_eq_false h1
  have D1 := Lib.hid d1
  clear h1
  go_wp2_with fail
  go_ret
  exact ⟨by rw [HR.out, D1.out]; rfl, HK2.out⟩
end Go.Proofs.YtgnkmjeoaoongaaGreatDoor

