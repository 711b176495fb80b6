/-
  Texts laid together: DiskKnown, Bytes, WOct, WLogM.
-/
import Derived.Test.YtgnkmjeoaoongaaGreatDoorSa7
import Derived.Test.YtgnkmjeoaoongaaGreatDoorSa8
import Derived.Lib.SlBytesConst
import Derived.Test.YtgnkmjeoaoongaaGreatDoorSb1
import Derived.Test.YtgnkmjeoaoongaaGreatDoorSa0
import Derived.Test.YtgnkmjeoaoongaaGreatDoorShelf
import Derived.Test.YtgnkmjeoaoongaaGreatDoorSa9
import Derived.Test.YtgnkmjeoaoongaaGreatDoorSa1
namespace Go.Proofs.YtgnkmjeoaoongaaGreatDoor
open Go.RowKit Go.Mer
structure Mine (w W : World) (d : Nat) (s : DSt) (F : Nat → Prop) : Prop where
 kp : Kp No w W
 disk : DiskAt W d s F
 new : ∀ k, F k → w.heap.size ≤ k
section
variable {w W W' : World} {d : Nat} {s s' : DSt} {F : Nat → Prop} {r : Int × DSt} {e : Ending} {c : Int}
theorem Mine.no (h : Mine w W d s F) (hk : Kp No W W') : Mine w W' d s F := ⟨h.kp.trans_same hk, h.disk.keep_no hk, h.new⟩
theorem Mine.turn (h : Mine w W d s F) (hk : Kp F W W') (hD : DiskAt W' d s' F) : Mine w W' d s' F := ⟨h.kp.trans hk fun i hi hf => by have := h.new i hf; omega, hD, h.new⟩
theorem Mine.step (h : Mine w W d s F) (h' : Said5 W d F r e W') (hr : r = (c, s')) : e = .returned (.int .i64 c) ∧ ∃ F', Mine w W' d s' F' ∧ Foot F F' W ∧ Kp F W W' := by
 subst hr
 obtain ⟨he, F', hD, hF, hK⟩ := h'
 exact ⟨he, F', ⟨h.kp.trans hK fun i hi hf => by have := h.new i hf; omega, hD, fun k hk => (hF k hk).elim (h.new k) fun hs => Nat.le_trans h.kp.size hs⟩, hF, hK⟩
end
theorem Rd.const (W : World) (t : TypeId) (f : Nat × Nat) (C : Array Value) (xs : List Value) (hx : C.toList = xs) : Rd (W.alloc (.cells C t f)) (W.alloc (.cells C t f)).heap.size (some ⟨W.heap.size, 0, none⟩) xs := fun _ =>
 ⟨W.heap.size, 0, rfl, by simp, Nat.le_refl _, fun j u hu => by
  rw [cell_of_row _ _ _ _ _ _ (heap_alloc_new W _)]
  subst hx
  simpa using hu⟩
theorem ReadPost.out {w w' : World} {d : Nat} {s : DSt} {F : Nat → Prop} {name : ByteArray} {e : Ending} (h : ReadPost w d s F name e w') {p : List UInt8} {c : Int} (hr : rdS s.files name = (p, c)) :
  ∃ a cap, e = .returned (.tuple #[.slice a p.length cap, .int .i64 c]) ∧ Own w' 5 1 (.slice a p.length cap) p.length (u8s p) ∧ Kp No w w' ∧ ∀ g, (Value.slice a p.length cap).ownBlock = some g → w.heap.size ≤ g := by
 obtain ⟨v, rfl, hO, hK, hg, _⟩ := h
 rw [hr] at hO ⊢
 obtain ⟨a, cap, rfl, _⟩ := hO.rd
 exact ⟨a, cap, rfl, hO, hK, hg⟩
end Go.Proofs.YtgnkmjeoaoongaaGreatDoor
namespace Go.Proofs.YtgnkmjeoaoongaaGreatDoor
open Go.RowKit Go.Mer
theorem gget_gset {K β : Type} [DecidableEq K] (l : List (K × β)) (k : K) (v : β) : gget (gset l k v) k = some v := by
 unfold gset
 split
 ·rename_i h
  induction l with
  | nil => cases h
  | cons p l ih =>
   by_cases hp : p.1 = k
   ·simp [gget, hp]
   ·have hl : k ∈ l.map (·.1) := by
     rw [List.map_cons] at h
     exact (List.mem_cons.1 h).resolve_left fun e => hp e.symm
    have := ih hl
    simp only [gget, List.map_cons, hp, if_false, List.find?_cons, decide_false] at this ⊢
    exact this
 ·rename_i h
  have h0 : l.find? (fun p => decide (p.1 = k)) = none := by
   have := gget_none h
   simpa only [gget, Option.map_eq_none_iff] using this
  unfold gget
  rw [List.find?_append, h0]
  simp
theorem app_bytes (w : World) (v : Value) (xs ys : List UInt8) (hown : Own w 5 1 v xs.length (u8s xs)) (a : Option Addr) (c : Nat) (hx : Rd w w.heap.size a (u8s ys)) (hl : xs.length + ys.length ≤ 140737488355328) :
  ∃ a' c' w', (Builtin.append_ #[42, 42] 42 #[v, .slice a ys.length c]).run Tryz.prog w = .ok (.slice a' (xs ++ ys).length c') w' ∧
   Own w' 5 1 (.slice a' (xs ++ ys).length c') (xs ++ ys).length (u8s (xs ++ ys)) ∧ Kp (fun k => v.ownBlock = some k) w w' ∧
   ((Value.slice a' (xs ++ ys).length c').ownBlock = v.ownBlock ∨ ∃ g, (Value.slice a' (xs ++ ys).length c').ownBlock = some g ∧ w.heap.size ≤ g) := by
 obtain ⟨i0, hi, hz0, hz1, hz2⟩ := info_parts infoByte
 obtain ⟨v', w', hrun, ho, hkp, hblk⟩ := run_append_Own (P := Tryz.prog) (w := w) 42 42 42 5 i0 (.int .u8 0) 1 1 Tryz.underlying42 ⟨_, Tryz.underlying42⟩ hi hz0 hz1 hz2 rfl
  v xs.length (u8s xs) hown (.slice a ys.length c) ys.length (u8s ys) ⟨by simp [u8s_length], a, c, rfl, hx⟩ (u8s_one ys) (by simp only [maxLen]; omega) (by omega)
 obtain ⟨_, a', c', rfl, _⟩ := id ho
 rw [← u8s_append, ← List.length_append] at ho
 rw [← List.length_append] at hrun hblk
 exact ⟨a', c', w', hrun, ho, hkp, hblk⟩
theorem cpy_bytes (w : World) (xs : List UInt8) (a : Option Addr) (c : Nat) (hx : Rd w w.heap.size a (u8s xs)) (hl : xs.length ≤ 140737488355328) :
  ∃ a' c' w', (Builtin.append_ #[42, 42] 42 #[.slice (some ⟨w.heap.size, 0, none⟩) 0 0, .slice a xs.length c]).run Tryz.prog (w.alloc (.cells #[] 5)) = .ok (.slice a' xs.length c') w' ∧
   Own w' 5 1 (.slice a' xs.length c') xs.length (u8s xs) ∧ Kp No w w' ∧ (∀ g, (Value.slice a' xs.length c').ownBlock = some g → w.heap.size ≤ g) := by
 have hal : Kp No w (w.alloc (.cells #[] 5)) := (Kp.refl _ _).alloc _
 obtain ⟨a', c', w', h1, h2, h3, h4⟩ := app_bytes (w.alloc (.cells #[] 5)) (.slice (some ⟨w.heap.size, 0, none⟩) 0 0) [] xs (Own.made w 5 1 #[] 0 0 (Nat.le_refl _) (by simp [maxLen]) (by simp) rfl) a c
  ((hx.keep hal fun _ _ x => x).mono hal.size (Nat.le_refl _)) (by simpa using hl)
 refine ⟨a', c', w', h1, h2, hal.trans h3 (fun k hk h => by simp [Value.ownBlock] at h; omega), fun g hg => ?_⟩
 rcases h4 with h4 | ⟨g', h4, h5⟩
 ·have hg2 : (Value.slice a' ([] ++ xs).length c').ownBlock = some g := hg
  rw [h4] at hg2
  simp [Value.ownBlock] at hg2
  omega
 ·have hg2 : (Value.slice a' ([] ++ xs).length c').ownBlock = some g := hg
  rw [h4] at hg2
  injection hg2 with hg2
  simp at h5
  omega
structure Two (w W : World) (d : Nat) (s : DSt) (F : Nat → Prop) (v1 : Value) (xs1 : List UInt8) (v2 : Value) (xs2 : List UInt8) : Prop where
 mine : Mine w W d s F
 o1 : Own W 5 1 v1 xs1.length (u8s xs1)
 o2 : Own W 5 1 v2 xs2.length (u8s xs2)
 a1 : ∀ g, v1.ownBlock = some g → w.heap.size ≤ g ∧ ¬ F g
 a2 : ∀ g, v2.ownBlock = some g → w.heap.size ≤ g ∧ ¬ F g
 ne : ∀ g, v1.ownBlock = some g → v2.ownBlock ≠ some g
section
variable {w W W' : World} {d : Nat} {s s' : DSt} {F : Nat → Prop} {v1 v2 v' : Value} {xs1 xs2 ys : List UInt8} {r : Int × DSt} {e : Ending} {c : Int}
theorem Mine.lt (h : Mine w W d s F) : ∀ k, F k → k < W.heap.size := by
 obtain ⟨_, _, _, _, _, _, _, _, hF⟩ := h.disk
 exact hF
theorem Two.no (h : Two w W d s F v1 xs1 v2 xs2) (hk : Kp No W W') : Two w W' d s F v1 xs1 v2 xs2 :=
 ⟨h.mine.no hk, h.o1.keep hk fun _ _ x => x, h.o2.keep hk fun _ _ x => x, h.a1, h.a2, h.ne⟩
theorem Two.turn (h : Two w W d s F v1 xs1 v2 xs2) (hk : Kp F W W') (hD : DiskAt W' d s' F) : Two w W' d s' F v1 xs1 v2 xs2 :=
 ⟨h.mine.turn hk hD, h.o1.keep hk fun g hg => (h.a1 g hg).2, h.o2.keep hk fun g hg => (h.a2 g hg).2, h.a1, h.a2, h.ne⟩
theorem Two.step (h : Two w W d s F v1 xs1 v2 xs2) (h' : Said5 W d F r e W') (hr : r = (c, s')) : e = .returned (.int .i64 c) ∧ ∃ F', Two w W' d s' F' v1 xs1 v2 xs2 := by
 obtain ⟨he, F', hM, hF, hK⟩ := h.mine.step h' hr
 have h1 : ∀ g, v1.ownBlock = some g → ¬ F' g := fun g hg hf => (hF g hf).elim (h.a1 g hg).2 fun hs => by have := h.o1.lt g hg; omega
 have h2 : ∀ g, v2.ownBlock = some g → ¬ F' g := fun g hg hf => (hF g hf).elim (h.a2 g hg).2 fun hs => by have := h.o2.lt g hg; omega
 exact ⟨he, F', hM, h.o1.keep hK fun g hg => (h.a1 g hg).2, h.o2.keep hK fun g hg => (h.a2 g hg).2, fun g hg => ⟨(h.a1 g hg).1, h1 g hg⟩, fun g hg => ⟨(h.a2 g hg).1, h2 g hg⟩, h.ne⟩
theorem Two.app (h : Two w W d s F v1 xs1 v2 xs2) (hk : Kp (fun k => v1.ownBlock = some k) W W') (ho : Own W' 5 1 v' ys.length (u8s ys)) (hb : v'.ownBlock = v1.ownBlock ∨ ∃ g, v'.ownBlock = some g ∧ W.heap.size ≤ g) :
  Two w W' d s F v' ys v2 xs2 := by
 refine ⟨⟨h.mine.kp.trans hk fun i hi hv => ?_, h.mine.disk.keep hk fun k hf hv => (h.a1 k hv).2 hf, h.mine.new⟩, ho, h.o2.keep hk fun g hg hv => h.ne g hv hg, fun g hg => ?_, h.a2, fun g hg => ?_⟩
 ·have := (h.a1 i hv).1; omega
 ·rcases hb with hb | ⟨g', hb, hs⟩
  ·exact h.a1 g (hb ▸ hg)
  ·rw [hb] at hg
   injection hg with hg
   subst hg
   exact ⟨Nat.le_trans h.mine.kp.size hs, fun hf => by have := h.mine.lt _ hf; omega⟩
 ·rcases hb with hb | ⟨g', hb, hs⟩
  ·exact h.ne g (hb ▸ hg)
  ·rw [hb] at hg
   injection hg with hg
   subst hg
   exact fun h2 => by have := h.o2.lt _ h2; omega
end
end Go.Proofs.YtgnkmjeoaoongaaGreatDoor
namespace Go.Mer
open Go.ChangeShapes Go.WideShapes Go.ChangeAt Go.RowKit Go.Deep
theorem RowsAt.keep {w W : World} {a : Option Addr} {R : List Row} (h : RowsAt w a R) (hk : Kp No w W) : RowsAt W a R :=
 ⟨(h.top.keep hk fun _ _ x => x).mono hk.size (Nat.le_refl _), fun r hr => ⟨((h.each r hr).1.keep hk fun _ _ x => x).mono hk.size (Nat.le_refl _), (h.each r hr).2⟩⟩
theorem rows_made (W : World) (t : TypeId) (R : List Row) (h : ∀ r ∈ R, Rd W W.heap.size r.a (u8s r.data) ∧ r.data.length ≤ 140737488355328) : RowsAt (W.alloc (.cells (R.map Row.val).toArray t)) (some ⟨W.heap.size, 0, none⟩) R := by
 have hk : Kp No W (W.alloc (.cells (R.map Row.val).toArray t)) := (Kp.refl _ _).alloc _
 refine ⟨?_, fun r hr => ⟨((h r hr).1.keep hk fun _ _ x => x).mono hk.size (Nat.le_refl _), (h r hr).2⟩⟩
 intro hx
 refine ⟨W.heap.size, 0, rfl, by simp, Nat.le_refl _, fun j u hu => ?_⟩
 rw [Nat.zero_add, cell_of_row _ _ _ _ _ _ (heap_alloc_new W _), List.getElem?_toArray]
 exact hu
theorem one_made (W : World) (t : TypeId) (a : Option Addr) (c : Nat) (l : List UInt8) (h : Rd W W.heap.size a (u8s l)) (hl : l.length ≤ 140737488355328) :
  RowsAt (W.alloc (.cells #[.slice a l.length c] t)) (some ⟨W.heap.size, 0, none⟩) [⟨a, c, l⟩] ∧ Kp No W (W.alloc (.cells #[.slice a l.length c] t)) :=
 ⟨rows_made W t [⟨a, c, l⟩] fun r hr => by
  rw [List.mem_singleton] at hr
  subst hr
  exact ⟨h, hl⟩, (Kp.refl _ _).alloc _⟩
theorem two_made (W : World) (t : TypeId) (a a' : Option Addr) (c c' : Nat) (l l' : List UInt8) (h : Rd W W.heap.size a (u8s l)) (h' : Rd W W.heap.size a' (u8s l')) (hl : l.length ≤ 140737488355328) (hl' : l'.length ≤ 140737488355328) :
  RowsAt (W.alloc (.cells #[.slice a l.length c, .slice a' l'.length c'] t)) (some ⟨W.heap.size, 0, none⟩) [⟨a, c, l⟩, ⟨a', c', l'⟩] ∧ Kp No W (W.alloc (.cells #[.slice a l.length c, .slice a' l'.length c'] t)) :=
 ⟨rows_made W t [⟨a, c, l⟩, ⟨a', c', l'⟩] fun r hr => by
  rcases List.mem_cons.1 hr with hr | hr
  ·subst hr
   exact ⟨h, hl⟩
  ·rw [List.mem_singleton] at hr
   subst hr
   exact ⟨h', hl'⟩, (Kp.refl _ _).alloc _⟩
theorem rd_holds {W : World} {a : Option Addr} {c : Nat} {l : List UInt8} (h : Rd W W.heap.size a (u8s l)) : Lib.HoldsBytes W (.slice a l.length c) l := by
 refine ⟨a, c, rfl, fun ha => ?_, fun ad had i x hx => ?_⟩
 ·cases l with
  | nil => rfl
  | cons b l =>
   obtain ⟨g, off, hg, _⟩ := h.byte (i := 0) (by simp)
   rw [ha] at hg
   cases hg
 ·obtain ⟨hi, he⟩ := List.getElem?_eq_some_iff.1 hx
  obtain ⟨g, off, hg, _, _, hc⟩ := h.byte hi
  rw [had] at hg
  injection hg with hg
  subst hg
  rw [add_lit', hc, he]
theorem fresh_rd {B : Nat} {W : World} {v : Value} {l : List UInt8} (h : Lib.FreshBytes B W v l) : ∃ a c, v = .slice a l.length c ∧ Rd W W.heap.size a (u8s l) ∧ l.length ≤ c := by
 obtain ⟨g, cap, zs, rfl, hg, hc, _, hz, hb, hl, hcell, _⟩ := h
 refine ⟨some ⟨g, 0, none⟩, cap, rfl, fun hx => ?_, hc⟩
 have hx' : 0 < l.length := by simpa [u8s] using hx
 have h0 := hcell 0 (by omega)
 refine ⟨g, 0, rfl, World.block_lt_of_cell? W _ h0, Nat.le_refl _, fun j u hu => ?_⟩
 have hj : j < l.length := by have := (List.getElem?_eq_some_iff.1 hu).1; simpa [u8s] using this
 rw [Nat.zero_add, hcell j (by omega)]
 obtain ⟨z, hzj⟩ : ∃ z, zs[j]? = some z := ⟨zs[j]'(by omega), List.getElem?_eq_getElem _⟩
 have hrange := hb z (List.mem_of_getElem? hzj)
 have hlj : (Lib.bytesOf (zs.take l.length))[j]? = some (UInt8.ofNat z.toNat) := by
  unfold Lib.bytesOf
  simp [hj, hzj]
 rw [hl] at hlj
 have hu' : (u8s l)[j]? = some (.int .u8 ((UInt8.ofNat z.toNat).toNat : Int)) := by
  simp only [u8s, List.getElem?_map, hlj, Option.map_some, u8]
 rw [hu'] at hu
 rw [← hu, List.getD_eq_getElem?_getD, hzj, UInt8.toNat_ofNat_of_lt' (by show z.toNat < 256; omega)]
 simp only [Option.getD_some]
 congr 2
 omega
end Go.Mer
namespace Go.Proofs.YtgnkmjeoaoongaaGreatDoor
open Go.RowKit Go.Mer
theorem join_nil (ls : List (List UInt8)) : Lib.join ls [] = ls.flatten := by
 induction ls with
 | nil => rfl
 | cons x r ih =>
  cases r with
  | nil => simp [Lib.join]
  | cons y r => 
   have e : Lib.join (x :: y :: r) [] = x ++ [] ++ Lib.join (y :: r) [] := by first | rfl | simp [Lib.join]
   rw [e, ih]
   simp
theorem lens_cat (R : List Row) : Lib.lens (R.map Row.data) = (catR R).length := by
 unfold catR
 induction R with
 | nil => rfl
 | cons r R ih =>
  rw [List.map_cons, List.flatten_cons, List.length_append]
  have e : Lib.lens (r.data :: R.map Row.data) = r.data.length + Lib.lens (R.map Row.data) := by first | rfl | simp [Lib.lens]
  rw [e, ih]
def RdP (w : World) (l : List UInt8) (e : Ending) (w' : World) : Prop := ∃ a c, e = .returned (.slice a l.length c) ∧ Rd w' w'.heap.size a (u8s l) ∧ l.length ≤ c ∧ Kp No w w'
theorem bJoin_any (w : World) (a : Option Addr) (cap : Nat) (R : List Row) (hR : RowsAt w a R) (hc : R.length ≤ cap) (hl : R.length ≤ 140737488355328) (hs : (catR R).length ≤ 140737488355328) :
  Calls Tryz.prog 272 #[.slice a R.length cap, .slice none 0 0] w (RdP w (catR R)) := by
 match hRR : R with
 | [] =>
  refine (Tryz.bytes_Join_none a cap (.slice none 0 0) w).mono ?_
  rintro e w' ⟨rfl, rfl⟩
  exact ⟨_, _, rfl, fun hx => (by simp [catR, u8s] at hx), Nat.le_refl _, (Kp.refl _ _).alloc _⟩
 | [r] =>
  obtain ⟨g, off, rfl, _, hcell, hrd, hm⟩ := hR.at_ (Kp.refl _ _) (j := 0) (by simp)
  have hcat : catR [r] = r.data := by simp [catR]
  rw [hcat]
  rw [Nat.add_zero] at hcell
  simp only [List.getElem_cons_zero] at hcell hrd hm
  by_cases h0 : r.data.length = 0
  ·have hd : r.data = [] := List.eq_nil_of_length_eq_zero h0
   rw [h0] at hcell
   refine (Tryz.bytes_Join_one_empty g off cap r.a r.cap (.slice none 0 0) w hcell).mono ?_
   rintro e w' ⟨rfl, rfl⟩
   rw [hd]
   exact ⟨none, 0, rfl, Rd.nil _ _ _, Nat.le_refl _, Kp.refl _ _⟩
  ·obtain ⟨g1, o1, hra, _⟩ := hrd.byte (i := 0) (by omega)
   rw [hra] at hcell
   refine (Tryz.bytes_Join_one g off cap ⟨g1, o1, none⟩ r.cap r.data (.slice none 0 0) w hcell (fun i x hx => ?_) (by omega) hm).mono ?_
   ·obtain ⟨hi, he⟩ := List.getElem?_eq_some_iff.1 hx
    obtain ⟨g2, o2, hg, _, _, hc2⟩ := hrd.byte hi
    rw [hra] at hg
    injection hg with hg
    injection hg with e1 e2
    subst e1; subst e2
    rw [add_lit', hc2, he]
   ·rintro e w' ⟨v, rfl, hf, hb⟩
    obtain ⟨a', c', rfl, hrd', hcc⟩ := fresh_rd hf
    exact ⟨a', c', rfl, hrd', hcc, Kp.of_below (S := No) hb (fun k h1 h2 => absurd h1 (by omega))⟩
 | r1 :: r2 :: R' =>
  obtain ⟨g, off, rfl, _, hcell, _, _⟩ := hR.at_ (Kp.refl _ _) (j := 0) (by simp)
  have hP : Lib.PartsAt w ⟨g, off, none⟩ ((r1 :: r2 :: R').map Row.val) ((r1 :: r2 :: R').map Row.data) := by
   refine ⟨by rw [List.length_map, List.length_map], fun i v hv => ?_, fun i v l hv hl => ?_⟩
   ·obtain ⟨hi, he⟩ := List.getElem?_eq_some_iff.1 hv
    rw [List.length_map] at hi
    obtain ⟨g', o', hg', _, hc', _, _⟩ := hR.at_ (Kp.refl _ _) hi
    injection hg' with hg'
    injection hg' with e1 e2
    subst e1; subst e2
    rw [add_lit', hc', ← he, List.getElem_map]
    rfl
   ·rw [List.getElem?_map] at hv hl
    obtain ⟨r, hr, rfl⟩ := Option.map_eq_some_iff.1 hv
    rw [hr] at hl
    injection hl with hl
    subst hl
    exact rd_holds ((hR.each r (List.mem_of_getElem? hr)).1)
  refine (Tryz.bytes_Join_many g off (r1 :: r2 :: R').length cap _ _ (.slice none 0 0) [] w (by rw [List.length_map]) (by simp) hP hc ⟨none, 0, rfl, fun _ => rfl, fun _ h => (by cases h)⟩ hl (by rw [lens_cat, List.length_nil, Nat.zero_mul]; exact hs)).mono ?_
  rintro e w' ⟨v, rfl, hf, hb⟩
  rw [join_nil] at hf
  obtain ⟨a', c', rfl, hrd', hcc⟩ := fresh_rd hf
  exact ⟨a', c', rfl, hrd', hcc, Kp.of_below (S := No) hb (fun k h1 h2 => absurd h1 (by omega))⟩
theorem Join_any (w : World) (a : Option Addr) (cap : Nat) (R : List Row) (hR : RowsAt w a R) (hc : R.length ≤ cap) (hl : R.length ≤ 140737488355328) (hs : (catR R).length ≤ 140737488355328) :
  Calls Tryz.prog 231 #[.slice a R.length cap] w (RdP w (catR R)) := by
 have HJ := Lib.hid (bJoin_any w a cap R hR hc hl hs)
 clear hR hc hl hs
 go_enter Tryz.func231, Tryz.ntmps231
 go_wp2_with fail
 refine HJ.out.mono ?_
 rintro e w' ⟨a', c', rfl, h1, h2, h3⟩
 go_wp2_with fail
 go_ret
 exact ⟨a', c', rfl, h1, h2, h3⟩
end Go.Proofs.YtgnkmjeoaoongaaGreatDoor
namespace Go.Proofs.YtgnkmjeoaoongaaGreatDoor
open Go.RowKit Go.Mer
theorem Pow.keepS {w w' : World} {S : Nat → Prop} (h : Pow w) (hk : Kp S w w') (hS : ¬ S 0) : Pow w' := by
 unfold Pow Lib.TabIs World.var? at h ⊢
 rw [gPow] at h ⊢
 simp only [Option.bind_some] at h ⊢
 cases hg : w.heap[0]? with
 | none => rw [hg] at h; simp at h
 | some o => rw [hk.get hg hS]; rw [hg] at h; exact h
theorem Pow.lt {w : World} (h : Pow w) : 0 < w.heap.size := by
 unfold Pow Lib.TabIs World.var? at h
 rw [gPow] at h
 simp only [Option.bind_some] at h
 cases hg : w.heap[0]? with
 | none => rw [hg] at h; simp at h
 | some o => exact get_lt hg
def segC (P : ByteArray) (z : Nat × Nat) : List Value := [.string (bnm P z.1), .int .i64 (z.2 : Int)]
theorem segC_len (P : ByteArray) (z : Nat × Nat) : (segC P z).length = 2 := rfl
theorem segC_one (P : ByteArray) (z : Nat × Nat) : ∀ u ∈ segC P z, u.oneCell' = true := by
 intro u hu
 simp only [segC, List.mem_cons, List.not_mem_nil, or_false] at hu
 rcases hu with rfl | rfl <;> rfl
def rowC (r : Row) : List Value := [r.val]
theorem rowC_len (r : Row) : (rowC r).length = 1 := rfl
theorem rowC_one (r : Row) : ∀ u ∈ rowC r, u.oneCell' = true := by
 intro u hu
 simp only [rowC, List.mem_cons, List.not_mem_nil, or_false] at hu
 subst hu
 rfl
def EntOk (w : World) (r : Row) : Prop := Own w 5 1 r.val r.data.length (u8s r.data) ∧ r.data.length ≤ r.cap ∧ r.data.length ≤ 1000000000
theorem infoSeg : (Tryz.prog.info? 243).map (fun i => ((i.zero.map fun z => z.cells.size), i.size, i.bytes)) = some (some 2, 2, 24) := by kernel_rfl
theorem infoRowB : (Tryz.prog.info? 42).map (fun i => ((i.zero.map fun z => z.cells.size), i.size, i.bytes)) = some (some 1, 1, 24) := by kernel_rfl
structure LogC (w : World) (l d : Nat) (P : ByteArray) (sv ev : Value) (S : List (Nat × Nat)) (E : List Row) (synced : Nat) (dead : Bool) : Prop where
 cell : w.heap[l]? = some (.cells #[.pointer (some ⟨d, 0, none⟩), .string P, sv, ev, .int .i64 (synced : Int), .bool dead] 241 (0, 0))
 segs : Own w 243 2 sv S.length (S.flatMap (segC P))
 ents : Own w 42 1 ev E.length (E.flatMap rowC)
 each : ∀ r ∈ E, EntOk w r
def LFP (l : Nat) (sv ev : Value) (E : List Row) : Nat → Prop := fun k => k = l ∨ sv.ownBlock = some k ∨ ev.ownBlock = some k ∨ ∃ r ∈ E, r.val.ownBlock = some k
def LogAt (w : World) (l d : Nat) (P : ByteArray) (st : LSt) (G : Nat → Prop) : Prop :=
 ∃ sv ev E, LogC w l d P sv ev st.segs E st.synced st.dead ∧ st.ents = E.map Row.data ∧ (∀ k, LFP l sv ev E k → G k) ∧ ∀ k, G k → k < w.heap.size
section
variable {w w' W W' : World} {l d : Nat} {P : ByteArray} {sv ev sv' ev' : Value} {S S' : List (Nat × Nat)} {E E' : List Row} {synced synced' : Nat} {dead dead' : Bool} {G : Nat → Prop} {r : Row}
theorem EntOk.keep {T : Nat → Prop} (h : EntOk w r) (hk : Kp T w w') (hT : ∀ g, r.val.ownBlock = some g → ¬ T g) : EntOk w' r := ⟨h.1.keep hk hT, h.2⟩
theorem LogC.keep {T : Nat → Prop} (h : LogC w l d P sv ev S E synced dead) (hk : Kp T w w') (hT : ∀ k, LFP l sv ev E k → ¬ T k) : LogC w' l d P sv ev S E synced dead :=
 ⟨hk.get h.cell (hT l (.inl rfl)), h.segs.keep hk fun g hg => hT g (.inr (.inl hg)), h.ents.keep hk fun g hg => hT g (.inr (.inr (.inl hg))), fun r hr => (h.each r hr).keep hk fun g hg => hT g (.inr (.inr (.inr ⟨r, hr, hg⟩)))⟩
theorem LogC.keep_no (h : LogC w l d P sv ev S E synced dead) (hk : Kp No w w') : LogC w' l d P sv ev S E synced dead := h.keep hk fun _ _ x => x
theorem LogC.lt (h : LogC w l d P sv ev S E synced dead) : ∀ k, LFP l sv ev E k → k < w.heap.size := by
 rintro k (rfl | hk | hk | ⟨r, hr, hk⟩)
 ·exact get_lt h.cell
 ·exact h.segs.lt k hk
 ·exact h.ents.lt k hk
 ·exact (h.each r hr).1.lt k hk
theorem LogAt.keep {T : Nat → Prop} {st : LSt} (h : LogAt w l d P st G) (hk : Kp T w w') (hT : ∀ k, G k → ¬ T k) : LogAt w' l d P st G := by
 obtain ⟨sv, ev, E, h1, h2, h3, h4⟩ := h
 exact ⟨sv, ev, E, h1.keep hk (fun k hf => hT k (h3 k hf)), h2, h3, fun k hf => hk.lt (h4 k hf)⟩
theorem LogAt.keep_no {st : LSt} (h : LogAt w l d P st G) (hk : Kp No w w') : LogAt w' l d P st G := h.keep hk fun _ _ x => x
theorem LogC.seg_ne (h : LogC w l d P sv ev S E synced dead) {g : Nat} (hg : sv.ownBlock = some g) : g ≠ l ∧ ev.ownBlock ≠ some g ∧ ∀ r ∈ E, r.val.ownBlock ≠ some g := by
 obtain ⟨cur, hc⟩ := h.segs.type g hg
 refine ⟨ne_of_type hc h.cell (by decide), fun e => ?_, fun r hr e => ?_⟩
 ·obtain ⟨cur', hc'⟩ := h.ents.type g e
  exact ne_of_type hc hc' (by decide) rfl
 ·obtain ⟨cur', hc'⟩ := (h.each r hr).1.type g e
  exact ne_of_type hc hc' (by decide) rfl
theorem LogC.ent_ne (h : LogC w l d P sv ev S E synced dead) {g : Nat} (hg : ev.ownBlock = some g) : g ≠ l ∧ sv.ownBlock ≠ some g ∧ ∀ r ∈ E, r.val.ownBlock ≠ some g := by
 obtain ⟨cur, hc⟩ := h.ents.type g hg
 refine ⟨ne_of_type hc h.cell (by decide), fun e => ?_, fun r hr e => ?_⟩
 ·obtain ⟨cur', hc'⟩ := h.segs.type g e
  exact ne_of_type hc hc' (by decide) rfl
 ·obtain ⟨cur', hc'⟩ := (h.each r hr).1.type g e
  exact ne_of_type hc hc' (by decide) rfl
theorem LogC.row_ne (h : LogC w l d P sv ev S E synced dead) (hr : r ∈ E) {g : Nat} (hg : r.val.ownBlock = some g) : g ≠ l := by
 obtain ⟨cur, hc⟩ := (h.each r hr).1.type g hg
 exact ne_of_type hc h.cell (by decide)
theorem LogC.turn (h : LogC w l d P sv ev S E synced dead) (hk : Kp (One l) w w') (hc : w'.heap[l]? = some (.cells #[.pointer (some ⟨d, 0, none⟩), .string P, sv, ev, .int .i64 (synced' : Int), .bool dead'] 241 (0, 0))) : LogC w' l d P sv ev S E synced' dead' :=
 ⟨hc, h.segs.keep hk fun g hg (e : g = l) => (h.seg_ne hg).1 e, h.ents.keep hk fun g hg (e : g = l) => (h.ent_ne hg).1 e, fun r hr => (h.each r hr).keep hk fun g hg (e : g = l) => h.row_ne hr hg e⟩
structure LRun (w W : World) (l d : Nat) (P : ByteArray) (sv ev : Value) (S : List (Nat × Nat)) (E : List Row) (synced : Nat) (dead : Bool) (G : Nat → Prop) : Prop where
 c : LogC W l d P sv ev S E synced dead
 foot : ∀ k, LFP l sv ev E k → G k ∨ w.heap.size ≤ k
 kp : Kp G w W
theorem LRun.start {st : LSt} (h : LogAt w l d P st G) : ∃ sv ev E, LRun w w l d P sv ev st.segs E st.synced st.dead G ∧ st.ents = E.map Row.data ∧ ∀ k, G k → k < w.heap.size := by
 obtain ⟨sv, ev, E, h1, h2, h3, h4⟩ := h
 exact ⟨sv, ev, E, ⟨h1, fun k hk => .inl (h3 k hk), Kp.refl _ _⟩, h2, h4⟩
theorem LRun.stop (h : LRun w W l d P sv ev S E synced dead G) : ∃ G', LogAt W l d P ⟨E.map Row.data, S, synced, dead⟩ G' ∧ Foot G G' w ∧ Kp G w W :=
 ⟨LFP l sv ev E, ⟨sv, ev, E, h.c, rfl, fun _ x => x, h.c.lt⟩, h.foot, h.kp⟩
theorem LRun.step {T : Nat → Prop} (h : LRun w W l d P sv ev S E synced dead G) (hk : Kp T W W') (hT : ∀ k, T k → LFP l sv ev E k ∨ W.heap.size ≤ k) (hc : LogC W' l d P sv' ev' S' E' synced' dead') (hf : ∀ k, LFP l sv' ev' E' k → LFP l sv ev E k ∨ W.heap.size ≤ k) :
  LRun w W' l d P sv' ev' S' E' synced' dead' G := by
 have hsz := h.kp.size
 refine ⟨hc, fun k hk' => ?_, h.kp.trans hk fun i hi hs => ?_⟩
 ·rcases hf k hk' with h1 | h1
  ·exact h.foot k h1
  ·exact .inr (Nat.le_trans hsz h1)
 ·rcases hT i hs with h1 | h1
  ·rcases h.foot i h1 with h2 | h2
   ·exact h2
   ·omega
  ·omega
theorem LRun.no (h : LRun w W l d P sv ev S E synced dead G) (hk : Kp No W W') : LRun w W' l d P sv ev S E synced dead G := h.step hk (fun _ x => x.elim) (h.c.keep_no hk) fun _ x => .inl x
theorem LRun.ent (h : LRun w W l d P sv ev S E synced dead G) (hr : EntOk W r) (hrf : ∀ g, r.val.ownBlock = some g → G g ∨ w.heap.size ≤ g) (hk : Kp (fun k => ev.ownBlock = some k) W W') (ho : Own W' 42 1 ev' (E ++ [r]).length ((E ++ [r]).flatMap rowC)) (hf : ev'.ownBlock = ev.ownBlock ∨ ∃ g, ev'.ownBlock = some g ∧ W.heap.size ≤ g) :
  LRun w (W'.setCell ⟨l, 3, none⟩ ev') l d P sv ev' S (E ++ [r]) synced dead G := by
 have hc := h.c
 have hcell := hk.get hc.cell fun e => (hc.ent_ne e).1 rfl
 have hs : Kp (One l) W' (W'.setCell ⟨l, 3, none⟩ ev') := (Kp.refl (One l) _).setCell (p := ⟨l, 3, none⟩) (.inl rfl) _
 have hll := get_lt hc.cell
 have hrn : ∀ g, r.val.ownBlock = some g → g ≠ l ∧ ev.ownBlock ≠ some g := fun g hg => by
  obtain ⟨cur, hcu⟩ := hr.1.type g hg
  refine ⟨ne_of_type hcu hc.cell (by decide), fun e => ?_⟩
  obtain ⟨cur', hc'⟩ := hc.ents.type g e
  exact ne_of_type hcu hc' (by decide) rfl
 have hall : Kp (fun k => k = l ∨ ev.ownBlock = some k) W (W'.setCell ⟨l, 3, none⟩ ev') := (hk.mono fun _ _ x => .inr x).trans hs fun i _ (e : i = l) => .inl e
 have hsz := h.kp.size
 have hE : ∀ q ∈ E ++ [r], EntOk (W'.setCell ⟨l, 3, none⟩ ev') q := fun q hq => by
  rcases List.mem_append.1 hq with hq | hq
  ·refine (hc.each q hq).keep hall fun g hg hT => ?_
   rcases hT with hT | hT
   ·exact hc.row_ne hq hg hT
   ·exact (hc.ent_ne hT).2.2 q hq hg
  ·rw [List.mem_singleton] at hq
   subst hq
   exact hr.keep hall fun g hg hT => hT.elim (hrn g hg).1 (hrn g hg).2
 have hfo : ∀ k, LFP l sv ev' (E ++ [r]) k → G k ∨ w.heap.size ≤ k := by
  rintro k (rfl | hk' | hk' | ⟨q, hq, hk'⟩)
  ·exact h.foot _ (.inl rfl)
  ·exact h.foot _ (.inr (.inl hk'))
  ·rcases hf with e | ⟨g, e, hg⟩
   ·exact h.foot _ (.inr (.inr (.inl (e ▸ hk'))))
   ·rw [e] at hk'
    injection hk' with hk'
    right; omega
  ·rcases List.mem_append.1 hq with hq | hq
   ·exact h.foot _ (.inr (.inr (.inr ⟨q, hq, hk'⟩)))
   ·rw [List.mem_singleton] at hq
    subst hq
    exact hrf k hk'
 refine ⟨⟨by have := set_at hcell 3 ev'; simpa using this, hc.segs.keep hall fun g hg hT => hT.elim (hc.seg_ne hg).1 (hc.seg_ne hg).2.1, ?_, hE⟩, hfo, h.kp.trans hall fun i hi hT => ?_⟩
 ·refine ho.keep hs fun g hg (e : g = l) => ?_
  rcases hf with e' | ⟨g', e', hg'⟩
  ·exact (hc.ent_ne (e' ▸ hg)).1 e
  ·rw [e'] at hg
   injection hg with hg
   omega
 ·rcases hT with rfl | hT
  ·rcases h.foot _ (.inl rfl) with h1 | h1
   ·exact h1
   ·omega
  ·rcases h.foot _ (.inr (.inr (.inl hT))) with h1 | h1
   ·exact h1
   ·omega
theorem LRun.seg (h : LRun w W l d P sv ev S E synced dead G) (hk : Kp (fun k => sv.ownBlock = some k) W W') (ho : Own W' 243 2 sv' S'.length (S'.flatMap (segC P))) (hf : sv'.ownBlock = sv.ownBlock ∨ ∃ g, sv'.ownBlock = some g ∧ W.heap.size ≤ g) :
  LRun w (W'.setCell ⟨l, 2, none⟩ sv') l d P sv' ev S' E synced dead G := by
 have hc := h.c
 have hcell := hk.get hc.cell fun e => (hc.seg_ne e).1 rfl
 have hs : Kp (One l) W' (W'.setCell ⟨l, 2, none⟩ sv') := (Kp.refl (One l) _).setCell (p := ⟨l, 2, none⟩) (.inl rfl) _
 have hll := get_lt hc.cell
 have hall : Kp (fun k => k = l ∨ sv.ownBlock = some k) W (W'.setCell ⟨l, 2, none⟩ sv') := (hk.mono fun _ _ x => .inr x).trans hs fun i _ (e : i = l) => .inl e
 refine h.step hall (fun k hT => hT.elim (fun e => .inl (.inl e)) fun e => .inl (.inr (.inl e))) ⟨by have := set_at hcell 2 sv'; simpa using this, ?_, hc.ents.keep hall fun g hg hT => hT.elim (hc.ent_ne hg).1 (hc.ent_ne hg).2.1, fun q hq => (hc.each q hq).keep hall fun g hg hT => hT.elim (hc.row_ne hq hg) fun e => (hc.seg_ne e).2.2 q hq hg⟩ ?_
 ·refine ho.keep hs fun g hg (e : g = l) => ?_
  rcases hf with e' | ⟨g', e', hg'⟩
  ·exact (hc.seg_ne (e' ▸ hg)).1 e
  ·rw [e'] at hg
   injection hg with hg
   omega
 ·rintro k (rfl | hk' | hk' | hk')
  ·exact .inl (.inl rfl)
  ·rcases hf with e | ⟨g, e, hg⟩
   ·exact .inl (.inr (.inl (e ▸ hk')))
   ·rw [e] at hk'
    injection hk' with hk'
    right; omega
  ·exact .inl (.inr (.inr (.inl hk')))
  ·exact .inl (.inr (.inr (.inr hk')))
theorem LRun.flag (h : LRun w W l d P sv ev S E synced dead G) (hk : Kp (One l) W W') (hc : W'.heap[l]? = some (.cells #[.pointer (some ⟨d, 0, none⟩), .string P, sv, ev, .int .i64 (synced' : Int), .bool dead'] 241 (0, 0))) : LRun w W' l d P sv ev S E synced' dead' G :=
 h.step hk (fun k (e : k = l) => .inl (.inl e)) (h.c.turn hk hc) fun _ x => .inl x
end
theorem own_two {T E sz bytes : Nat} (hT : Tryz.prog.underlying T = some (.slice E)) (hE : (Tryz.prog.info? E).map (fun i => ((i.zero.map fun z => z.cells.size), i.size, i.bytes)) = some (some sz, sz, bytes)) {V : World} {v : Value} {n : Nat} {xs news : List Value} (ho : Own V E sz v n xs)
  (hone : ∀ u ∈ news, u.oneCell' = true) (hl : news.length = sz) {g : Nat} {cs : Array Value} (hg : V.heap[g]? = some (.cells cs E (0, 0))) (hcs : cs.toList = news) (hn : n ≤ 1100000000) (hb : (n + 1) * bytes ≤ 140737488355328) :
  ∃ a' c' W', (Builtin.append_ #[T, T] T #[v, .slice (some ⟨g, 0, none⟩) 1 1]).run Tryz.prog V = .ok (.slice a' (n + 1) c') W' ∧ Own W' E sz (.slice a' (n + 1) c') (n + 1) (xs ++ news) ∧ Kp (fun k => v.ownBlock = some k) V W' ∧
   ((Value.slice a' (n + 1) c').ownBlock = v.ownBlock ∨ ∃ g, (Value.slice a' (n + 1) c').ownBlock = some g ∧ V.heap.size ≤ g) := by
 obtain ⟨i0, hi, hz⟩ := Option.map_eq_some_iff.1 hE
 injection hz with hz0 hz
 injection hz with hz1 hz2
 obtain ⟨z, hz, hz3⟩ := Option.map_eq_some_iff.1 hz0
 have hsrc : Src V sz (.slice (some ⟨g, 0, none⟩) 1 1) 1 news := by
  refine ⟨by omega, some ⟨g, 0, none⟩, 1, rfl, Rd.row (n := sz) hg ?_ (get_lt hg) (Nat.le_refl _)⟩
  rw [List.drop_zero, hcs]
  exact List.take_of_length_le (by omega)
 obtain ⟨v', w', hrun, ho', hkp, hblk⟩ := run_append_Own (P := Tryz.prog) T T T E i0 z sz bytes hT ⟨_, hT⟩ hi hz hz1 hz2 hz3 v n xs ho (.slice (some ⟨g, 0, none⟩) 1 1) 1 news hsrc hone (by simp only [maxLen]; omega) hb
 obtain ⟨_, a', c', rfl, _⟩ := id ho'
 exact ⟨a', c', w', hrun, ho', hkp, hblk⟩
theorem wName_bnm (P : ByteArray) (hP : P.size ≤ 1000) (n : Nat) (hn : n < 1000000) (w : World) (ht : Pow w) :
  Calls Tryz.prog 184 #[.string P, .int .i64 (n : Int)] w fun e w' => e = .returned (.string (bnm P n)) ∧ Kp No w w' := wName_any P hP n hn w ht
end Go.Proofs.YtgnkmjeoaoongaaGreatDoor

