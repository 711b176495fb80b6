/-
  The reference's Open.
-/
import Derived.Test.YtdibkdgafidjgaaGreatDoorXAppendM
import Derived.Test.YtdibkdgafidjgaaGreatDoorWOpenM
import Derived.Test.YtdibkdgafidjgaaGreatDoorWb8
import Derived.Test.YtdibkdgafidjgaaGreatDoorWb9
namespace Go.Proofs.YtdibkdgafidjgaaGreatDoor
open Go.RowKit Go.Mer
def OpxP (w : World) (r : Nat) (P : ByteArray) (F : Nat → Prop) (q : Int × DSt × LSt) (e : Ending) (w' : World) : Prop :=
 (q.1 = 0 ∧ ∃ x F' G', e = .returned (.tuple #[.pointer (some ⟨x, 0, none⟩), .int .i64 0]) ∧ XAt w' r x P q.2.1 q.2.2 F' G' ∧ Foot F F' w ∧ (∀ k, G' k → w.heap.size ≤ k) ∧ Kp F w w') ∨
 (q.1 ≠ 0 ∧ ∃ F', e = .returned (.tuple #[.pointer none, .int .i64 q.1]) ∧ RAt w' r q.2.1 F' ∧ Foot F F' w ∧ Kp F w w')
def XL0 (w : World) (x r : Nat) (P : ByteArray) (st : LSt) (G : Nat → Prop) : Prop :=
 ∃ sv ev E, RLogC w x r P sv ev (st.segs.map (·.1)) E 0 false ∧ st.ents = E.map Row.data ∧ (∀ k, RLFP x sv ev E k → G k) ∧ ∀ k, G k → k < w.heap.size
theorem XL0.keep {w w' : World} {x r : Nat} {P : ByteArray} {st : LSt} {G T : Nat → Prop} (h : XL0 w x r P st G) (hk : Kp T w w') (hT : ∀ k, G k → ¬ T k) : XL0 w' x r P st G := by
 obtain ⟨sv, ev, E, h1, h2, h3, h4⟩ := h
 exact ⟨sv, ev, E, h1.keep hk (fun k hf => hT k (h3 k hf)), h2, h3, fun k hf => hk.lt (h4 k hf)⟩
theorem XL0.keep_no {w w' : World} {x r : Nat} {P : ByteArray} {st : LSt} {G : Nat → Prop} (h : XL0 w x r P st G) (hk : Kp No w w') : XL0 w' x r P st G := h.keep hk fun _ _ x => x
theorem XL0.lt {w : World} {x r : Nat} {P : ByteArray} {st : LSt} {G : Nat → Prop} (h : XL0 w x r P st G) : ∀ k, G k → k < w.heap.size := by
 obtain ⟨_, _, _, _, _, _, h4⟩ := h
 exact h4
theorem xlog0 {w : World} {x r : Nat} {P : ByteArray} (h : w.heap[x]? = some (.cells #[.pointer (some ⟨r, 0, none⟩), .string P, .slice none 0 0, .slice none 0 0, .int .i64 0, .bool false] 53 (0, 0))) : XL0 w x r P st0 (One x) :=
 ⟨.slice none 0 0, .slice none 0 0, [], ⟨h, Own.nil _ _ _, Own.nil _ _ _, fun _ h => (by cases h)⟩, rfl, (fun k hk => by
  rcases hk with h | h | h | ⟨_, h, _⟩
  ·exact h
  ·cases h
  ·cases h
  ·cases h), (fun k hk => by
  rw [show k = x from hk]
  exact get_lt h)⟩
theorem XLRun.entN {w W W' : World} {l d : Nat} {P : ByteArray} {sv ev ev' : Value} {S : List Nat} {E N : List Row} {synced : Nat} {dead : Bool} {G : Nat → Prop} (h : XLRun w W l d P sv ev S E synced dead G) (hN : ∀ r ∈ N, EntOk W r ∧ ∀ g, r.val.ownBlock = some g → G g ∨ w.heap.size ≤ g) (hk : Kp (fun k => ev.ownBlock = some k) W W') (ho : Own W' 23 1 ev' (E ++ N).length ((E ++ N).flatMap rowC)) (hf : ev'.ownBlock = ev.ownBlock ∨ ∃ g, ev'.ownBlock = some g ∧ W.heap.size ≤ g) :
  XLRun w (W'.setCell ⟨l, 2, none⟩ ev') l d P sv ev' S (E ++ N) synced dead G := by
 have hc := h.c
 have hcell := hk.get hc.cell fun e => (hc.ent_ne e).1 rfl
 have hs : Kp (One l) W' (W'.setCell ⟨l, 2, none⟩ ev') := (Kp.refl (One l) _).setCell (p := ⟨l, 2, none⟩) (.inl rfl) _
 have hll := get_lt hc.cell
 have hrn : ∀ r ∈ N, ∀ g, r.val.ownBlock = some g → g ≠ l ∧ ev.ownBlock ≠ some g := fun r hr g hg => by
  obtain ⟨cur, hcu⟩ := (hN r hr).1.1.type g hg
  refine ⟨ne_of_type hcu hc.cell (by decide), fun e => ?_⟩
  obtain ⟨cur', hc'⟩ := hc.ents.type g e
  exact ne_of_type hcu hc' (by decide) rfl
 have hall : Kp (fun k => k = l ∨ ev.ownBlock = some k) W (W'.setCell ⟨l, 2, none⟩ ev') := (hk.mono fun _ _ x => .inr x).trans hs fun i _ (e : i = l) => .inl e
 have hsz := h.kp.size
 have hE : ∀ q ∈ E ++ N, EntOk (W'.setCell ⟨l, 2, none⟩ ev') q := fun q hq => by
  rcases List.mem_append.1 hq with hq | hq
  ·refine (hc.each q hq).keep hall fun g hg hT => ?_
   rcases hT with hT | hT
   ·exact hc.row_ne hq hg hT
   ·exact (hc.ent_ne hT).2.2 q hq hg
  ·exact (hN q hq).1.keep hall fun g hg hT => hT.elim (hrn q hq g hg).1 (hrn q hq g hg).2
 have hfo : ∀ k, RLFP l sv ev' (E ++ N) k → G k ∨ w.heap.size ≤ k := by
  rintro k (rfl | hk' | hk' | ⟨q, hq, hk'⟩)
  ·exact h.foot _ (.inl rfl)
  ·exact h.foot _ (.inr (.inl hk'))
  ·rcases hf with e | ⟨g, e, hg⟩
   ·exact h.foot _ (.inr (.inr (.inl (e ▸ hk'))))
   ·rw [e] at hk'
    injection hk' with hk'
    right; omega
  ·rcases List.mem_append.1 hq with hq | hq
   ·exact h.foot _ (.inr (.inr (.inr ⟨q, hq, hk'⟩)))
   ·exact (hN q hq).2 k hk'
 refine ⟨⟨by have := set_at hcell 2 ev'; simpa using this, hc.segs.keep hall fun g hg hT => hT.elim (hc.seg_ne hg).1 (hc.seg_ne hg).2.1, ?_, hE⟩, hfo, h.kp.trans hall fun i hi hT => ?_⟩
 ·refine ho.keep hs fun g hg (e : g = l) => ?_
  rcases hf with e' | ⟨g', e', hg'⟩
  ·exact (hc.ent_ne (e' ▸ hg)).1 e
  ·rw [e'] at hg
   injection hg with hg
   omega
 ·rcases hT with rfl | hT
  ·rcases h.foot _ (.inl rfl) with h1 | h1
   ·exact h1
   ·omega
  ·rcases h.foot _ (.inr (.inr (.inl hT))) with h1 | h1
   ·exact h1
   ·omega
theorem app_rows {V : World} {v : Value} {n : Nat} {E Q : List Row} (ho : Own V 23 1 v n (E.flatMap rowC)) {ra : Option Addr} {rc : Nat} (hr : Rd V V.heap.size ra (Q.flatMap rowC)) (hn : n ≤ 1100000000) (hm : Q.length ≤ 1100000000) :
  ∃ a' c' W', (Builtin.append_ #[22, 22] 22 #[v, .slice ra Q.length rc]).run Tryz.prog V = .ok (.slice a' (n + Q.length) c') W' ∧ Own W' 23 1 (.slice a' (n + Q.length) c') (n + Q.length) ((E ++ Q).flatMap rowC) ∧ Kp (fun k => v.ownBlock = some k) V W' ∧
   ((Value.slice a' (n + Q.length) c').ownBlock = v.ownBlock ∨ ∃ g, (Value.slice a' (n + Q.length) c').ownBlock = some g ∧ V.heap.size ≤ g) := by
 obtain ⟨i0, hi, hz⟩ := Option.map_eq_some_iff.1 infoRowB
 injection hz with hz0 hz
 injection hz with hz1 hz2
 obtain ⟨z, hz, hz3⟩ := Option.map_eq_some_iff.1 hz0
 obtain ⟨v', w', hrun, ho', hkp, hblk⟩ := run_append_Own (P := Tryz.prog) 22 22 22 23 i0 z 1 24 Tryz.underlying22 ⟨_, Tryz.underlying22⟩ hi hz hz1 hz2 hz3 v n _ ho (.slice ra Q.length rc) Q.length (Q.flatMap rowC) (rows_src (f := rowC) rowC_len hr)
  (fun u hu => by obtain ⟨y, _, hy⟩ := List.mem_flatMap.1 hu; exact rowC_one y u hy) (by simp only [maxLen]; omega) (by omega)
 obtain ⟨_, a', c', rfl, _⟩ := id ho'
 exact ⟨a', c', w', hrun, by rw [List.flatMap_append]; exact ho', hkp, hblk⟩
def OxR (w wr : World) (x r : Nat) (P : ByteArray) (fs : Files) (M : List ByteArray) (j nx : Nat) : Prop :=
 ∃ st1 G1, scanS fs P st0 (M.take j) = (st1, []) ∧ nx = st1.ents.length + 1 ∧ XL0 wr x r P st1 G1 ∧ Foot (One x) G1 w ∧ Kp (One x) w wr
theorem numI_ge {o : Option Nat} : decide ((0 : Int) ≤ numI o) = o.isSome := by
 cases o with
 | none => rfl
 | some m => exact decide_eq_true (Int.natCast_nonneg m)
theorem rd_tot {l : Files} (x : ByteArray) : (rdS l x).1.length ≤ totF l := by
 unfold rdS
 cases hg : gget l x with
 | none => simp
 | some c =>
  have := mem_len (l := l) (p := (x, c)) (gget_mem hg)
  exact this
theorem take_all {l : Files} {P : ByteArray} {st : LSt} {y : ByteArray} (hy : y = bnm P (st.ents.length + 1)) (hg : (entsF (st.ents.length + 1) (rdS l y).1).2 = (rdS l y).1.length) :
  takeS l P st y = ({ st with ents := st.ents ++ (entsF (st.ents.length + 1) (rdS l y).1).1, segs := st.segs ++ [(st.ents.length + 1, (entsF (st.ents.length + 1) (rdS l y).1).2)] }, true) := by
 unfold takeS
 rw [if_pos hy, if_pos (show 0 < (entsF (st.ents.length + 1) (rdS l y).1).2 ∨ (rdS l y).1.length = 0 by omega), decide_eq_true hg]
theorem take_part {l : Files} {P : ByteArray} {st : LSt} {y : ByteArray} (hy : y = bnm P (st.ents.length + 1)) (hg : (entsF (st.ents.length + 1) (rdS l y).1).2 ≠ (rdS l y).1.length) (h0 : (entsF (st.ents.length + 1) (rdS l y).1).2 ≠ 0) :
  takeS l P st y = ({ st with ents := st.ents ++ (entsF (st.ents.length + 1) (rdS l y).1).1, segs := st.segs ++ [(st.ents.length + 1, (entsF (st.ents.length + 1) (rdS l y).1).2)] }, false) := by
 unfold takeS
 rw [if_pos hy, if_pos (show 0 < (entsF (st.ents.length + 1) (rdS l y).1).2 ∨ (rdS l y).1.length = 0 by omega), decide_eq_false hg]
theorem take_nothing {l : Files} {P : ByteArray} {st : LSt} {y : ByteArray} (hg : y ≠ bnm P (st.ents.length + 1) ∨ ((entsF (st.ents.length + 1) (rdS l y).1).2 ≠ (rdS l y).1.length ∧ (entsF (st.ents.length + 1) (rdS l y).1).2 = 0)) : takeS l P st y = (st, false) := by
 unfold takeS
 by_cases hy : y = bnm P (st.ents.length + 1)
 ·rcases hg with h | ⟨h1, h2⟩
  ·exact absurd hy h
  ·rw [if_pos hy, decide_eq_false h1, if_neg (show ¬ (0 < (entsF (st.ents.length + 1) (rdS l y).1).2 ∨ (rdS l y).1.length = 0) by omega), entsF_zero h2, List.append_nil]
 ·rw [if_neg hy]
theorem take_no {l : Files} {P : ByteArray} {st : LSt} {y : ByteArray} (h : ∀ z ∈ st.segs, z.1 ≤ st.ents.length + 1) : (∀ z ∈ (takeS l P st y).1.segs, z.1 ≤ (takeS l P st y).1.ents.length + 1) ∧ (takeS l P st y).1.dead = st.dead := by
 unfold takeS
 split
 ·refine ⟨fun z hz => ?_, rfl⟩
  simp only at hz ⊢
  rw [List.length_append]
  split at hz
  ·rcases List.mem_append.1 hz with hz | hz
   ·have := h z hz; omega
   ·rw [List.mem_singleton] at hz
    rw [hz]
    simp only
    omega
  ·have := h z hz; omega
 ·exact ⟨h, rfl⟩
theorem scan_no (l : Files) (P : ByteArray) : ∀ (N : List ByteArray) (st : LSt), (∀ z ∈ st.segs, z.1 ≤ st.ents.length + 1) → (∀ z ∈ (scanS l P st N).1.segs, z.1 ≤ (scanS l P st N).1.ents.length + 1) ∧ (scanS l P st N).1.dead = st.dead
 | [], st, h => ⟨h, rfl⟩
 | x :: r, st, h => by
  rw [scanS]
  have h1 := take_no (l := l) (P := P) (y := x) h
  split
  ·have h2 := scan_no l P r (takeS l P st x).1 h1.1
   exact ⟨h2.1, h2.2.trans h1.2⟩
  ·exact h1
theorem endS_fail {P : ByteArray} {s : DSt} {segs : List (Nat × Nat)} {y : ByteArray} {r : List ByteArray} {q : Int × DSt} (h : rmAll s r.reverse = q) (h0 : q.1 ≠ 0) : endS P s segs y r = q := by
 unfold endS
 rw [h, if_neg h0]
theorem endS_ok {P : ByteArray} {s s' : DSt} {segs : List (Nat × Nat)} {y : ByteArray} {r : List ByteArray} (h : rmAll s r.reverse = (0, s')) : endS P s segs y r = endOne P s' segs y := by
 unfold endS
 rw [h, if_pos rfl]
structure XpM (w wx : World) (r x : Nat) (P : ByteArray) (F Fx Gx : Nat → Prop) (s' : DSt) (st' : LSt) : Prop where
 disk : RAt wx r s' Fx
 xl : XL0 wx x r P st' Gx
 sep : ∀ k, Fx k → ¬ Gx k
 foot : Foot F Fx w
 new : ∀ k, Gx k → w.heap.size ≤ k
 kp : Kp F w wx
def XyR (wx wr : World) (r : Nat) (s' : DSt) (Fx : Nat → Prop) (A : List ByteArray) (i : Nat) : Prop :=
 ∃ s3 F3, syAll s' (A.take i) = (0, s3) ∧ RAt wr r s3 F3 ∧ Foot Fx F3 wx ∧ Kp Fx wx wr
def XnR (w wr : World) (r : Nat) (s : DSt) (F : Nat → Prop) (N : List ByteArray) (j : Nat) : Prop :=
 ∃ s' F', rmAll s (N.drop (j + 1)).reverse = (0, s') ∧ RAt wr r s' F' ∧ Foot F F' w ∧ Kp F w wr
set_option maxRecDepth 100000 in
set_option maxHeartbeats 4000000 in
theorem xopen_any (w : World) (r : Nat) (P : ByteArray) (s : DSt) (F : Nat → Prop) (hD : RAt w r s F) (hfew : s.files.length ≤ 4096) (hnd : (s.files.map (·.1)).Nodup) (htot : totF s.files ≤ s.room) (hok : FilesOk s.files) (hP1 : 1 ≤ P.size) (hP2 : P.size ≤ 50) (hroom : s.room ≤ 1048576) :
  Calls Tryz.prog 21 #[.pointer (some ⟨r, 0, none⟩), .string P] w (OpxP w r P F (openS P s (nmS s.files))) := by
 have e1 : decide ((P.size : Int) < 1) = false := by rw [decide_eq_false_iff_not]; omega
 have e2 : decide ((50 : Int) < (P.size : Int)) = false := by rw [decide_eq_false_iff_not]; omega
 have HD := Lib.hid hD
 have HOK := Lib.hid hok
 have HRM := Lib.hid (And.intro hroom (And.intro hfew (And.intro hnd htot)))
 clear hD hok hroom hfew hnd htot
 go_enter Tryz.func21, Tryz.ntmps21
 go_upto_region 5 with fail
 obtain ⟨x, hx⟩ : ∃ x, x = w.heap.size := ⟨_, rfl⟩
 obtain ⟨W3, hW3⟩ : ∃ W, W = w.alloc (.cells #[.pointer (some ⟨r, 0, none⟩), .string P, .slice none 0 0, .slice none 0 0, .int .i64 0, .bool false] 53) := ⟨_, rfl⟩
 have k3 : Kp No w W3 := by rw [hW3]; exact (Kp.refl No w).alloc _
 have h3l : W3.heap[x]? = some (.cells #[.pointer (some ⟨r, 0, none⟩), .string P, .slice none 0 0, .slice none 0 0, .int .i64 0, .bool false] 53 (0, 0)) := by
  rw [hW3, hx]
  exact heap_alloc_new w _
 rw [← hW3, ← hx]
 have hL3 := xlog0 h3l
 have hnm := names_ref W3 r s F (HD.out.keep_no k3)
 have HL3 := Lib.hid hL3
 have HK3 := Lib.hid k3
 have HX0 := Lib.hid hx
 obtain ⟨N, hN⟩ : ∃ N, N = nmS s.files := ⟨_, rfl⟩
 rw [← hN] at hnm ⊢
 obtain ⟨n, hn⟩ : ∃ n, n = N.length := ⟨_, rfl⟩
 rw [← hn] at hnm
 have hnb : n ≤ 4096 := by rw [hn, hN, nm_len]; exact HRM.out.2.1
 have HNS := Lib.hid (show ∀ x ∈ N, x.size ≤ 64 from fun x hx => by rw [hN] at hx; exact (HOK.out.size hx).2)
 have HND := Lib.hid (show N.Nodup by rw [hN]; exact nm_nodup HRM.out.2.2.1)
 have HNN := Lib.hid hN
 have HN := Lib.hid hn
 clear hW3 k3 h3l hL3 hx hN hn
 go_wp2_with fail
 with_reducible refine hnm.mono ?_
 rintro e w1 ⟨na, nc, rfl, hnr, hk1⟩
 clear hnm
 have HNR := Lib.hid hnr
 have HK1 := Lib.hid hk1
 clear hnr hk1
 go_wp2_with fail
 rename World => w4
 go_loopw [7, 9] (fun s7 s9 wr => ∃ (j : Nat) (a : Option Addr) (k c : Nat), j ≤ n ∧ k ≤ j ∧ s7 = .slice a k c ∧ s9 = .int .i64 (j : Int) ∧ Hid (RowRel 9 1 strC w4 wr (.slice a k c) k ((N.take j).filter (isSegN P)))) (fun _ s9 _ => n - (intOf s9).toNat)
 case atStart => exact ⟨0, none, 0, 0, by omega, by omega, rfl, rfl, Lib.hid (by simpa using RowRel.nil 9 1 strC w4)⟩
 case round =>
  obtain ⟨j, a, k, c, hj, hkj, rfl, rfl, HR⟩ := hrel
  have hkr := HR.out.2.2.2
  by_cases hlt : j < n
  ·have hjN : j < N.length := by rw [← HN.out]; exact hlt
   obtain ⟨ng, noff, rfl, hng, _, hnc⟩ := HNR.out.at_ (i := j) (u := .string N[j]) (by simp [hjN])
   have hcw := (hkr.cell (p := ⟨ng, noff + j, none⟩) hng (fun x => x)).trans hnc
   have hngr := hkr.lt hng
   obtain ⟨y, hy⟩ : ∃ y, y = N[j] := ⟨_, rfl⟩
   have hfs := filt_step hjN P
   have hxs := HNS.out N[j] (List.getElem_mem hjN)
   rw [← hy] at hcw hfs hxs
   have hsg := number_any y P wr (by omega) (by omega)
   obtain ⟨o, ho⟩ : ∃ o, o = segNo P.data.toList y.data.toList := ⟨_, rfl⟩
   rw [← ho] at hsg
   have hbo : isSegN P y = o.isSome := by rw [ho]; rfl
   obtain ⟨v, hv⟩ : ∃ v, v = numI o := ⟨_, rfl⟩
   rw [← hv] at hsg
   have hge : decide ((0 : Int) ≤ v) = o.isSome := by rw [hv]; exact numI_ge
   rw [hbo] at hfs
   have HFS := Lib.hid hfs
   have HSG := Lib.hid hsg
   obtain ⟨bs, hbs⟩ : ∃ bs, bs = o.isSome := ⟨_, rfl⟩
   rw [← hbs] at hge HFS
   clear hfs hsg hnc hy hjN hxs hbo hv ho hbs
   cases bs with
   | true =>
    go_wp2_with fail
    have hc := HSG.out
    with_reducible refine hc.mono ?_
    rintro e w5 ⟨rfl, hk5⟩
    clear hc HSG
    have hr5 := HR.out.keep hk5
    have hcw5 := (hk5.cell (p := ⟨ng, noff + j, none⟩) hngr (fun x => x)).trans hcw
    have hngr5 := hk5.lt hngr
    have hk5' : Kp No w5 (w5.alloc (.cells #[.string y] 9)) := (Kp.refl _ _).alloc _
    obtain ⟨a', c', W', hrun, ho, hkp⟩ := RowRel.app (P := Tryz.prog) (T := 70) Tryz.underlying70 infoStrW strC_one (hr5.keep hk5') [y] (one_src (f := strC) strC_len (x := y) (heap_alloc_new w5 _) rfl) rfl (by simp only [maxLen]; omega) (by omega)
    have HX := Lib.hid hrun
    have HNEW := Lib.hid (show RowRel 9 1 strC w4 W' (.slice a' (k + 1) c') (k + 1) ((N.take (j + 1)).filter (isSegN P)) from by rw [HFS.out]; first | (rw [if_pos rfl]; exact ho) | (rw [if_pos trivial]; exact ho))
    clear hrun ho hkp hk5 hk5' hr5 hkr hcw
    go_wp2_with (at_builtin; refine wpList_append_run rfl rfl rfl rfl HX.out ?_)
    go_roundw
    case rel => exact ⟨j + 1, a', k + 1, c', by omega, by omega, rfl, by push_cast; rfl, HNEW⟩
    case measure => simp [intOf]; omega
   | false =>
    go_wp2_with fail
    have hc := HSG.out
    with_reducible refine hc.mono ?_
    rintro e w5 ⟨rfl, hk5⟩
    clear hc HSG
    have HNEW := Lib.hid (show RowRel 9 1 strC w4 w5 (.slice a k c) k ((N.take (j + 1)).filter (isSegN P)) from by rw [HFS.out]; first | (rw [if_neg (by decide)]; exact HR.out.keep hk5) | (rw [if_neg (fun h => h)]; exact HR.out.keep hk5))
    clear hk5 hkr hcw
    go_wp2_with fail
    go_roundw
    case rel => exact ⟨j + 1, a, k, c, by omega, by omega, rfl, by push_cast; rfl, HNEW⟩
    case measure => simp [intOf]; omega
  ·have hjn : j = n := by omega
   go_upto_region 11 with fail
   have hM := HR.out
   rw [hjn, show N.take n = N from by rw [HN.out]; exact List.take_length] at hM
   obtain ⟨M, hMe⟩ : ∃ M, M = N.filter (isSegN P) := ⟨_, rfl⟩
   rw [← hMe] at hM
   have hkM : k = M.length := hM.1
   have hMo : Own wr 9 1 (.slice a k c) k (M.map Value.string) := by have := hM.2.1; rwa [strC_map] at this
   have hkk : Kp No W3 wr := HK1.out.trans_same hkr
   have hkw : Kp No w wr := HK3.out.trans_same hkk
   have hxw := HX0.out
   have h3s : x < W3.heap.size := HL3.out.lt x rfl
   have hMl : ∀ g, (Value.slice a k c).ownBlock = some g → g ≠ x ∧ g < wr.heap.size ∧ ¬ F g := fun g hg => by
    have h1 := hM.2.2.1 g hg
    have h2 := HK1.out.size
    have h4 := HK3.out.size
    exact ⟨by omega, hMo.lt g hg, fun hf => by have := HD.out.lt g hf; omega⟩
   have hfl : ∀ g, F g → ¬ One x g := fun g hg (e : g = x) => by have := HD.out.lt g hg; omega
   have hMd : M.Nodup := by rw [hMe]; exact HND.out.filter _
   have HMS := Lib.hid (show ∀ y ∈ M, isSegN P y = true ∧ y.size ≤ 64 from fun y hy => by rw [hMe] at hy; exact ⟨(List.mem_filter.1 hy).2, HNS.out y (List.mem_filter.1 hy).1⟩)
   have HBS := Lib.hid (fun j => scan_few s.files P (M.take j) st0)
   have HSB := Lib.hid (show ∀ j, sumR s.files (M.take j) ≤ 1048576 from fun j => by
    have h1 := sumR_le HRM.out.2.2.1 (N := M.take j) (hMd.sublist (List.take_sublist j M))
    have h2 := HRM.out.2.2.2
    have h3 := HRM.out.1
    omega)
   have hk4 : k ≤ 4096 := by omega
   have HME := Lib.hid hMe
   have HKM := Lib.hid hkM
   have HMO := Lib.hid hMo
   have HML := Lib.hid hMl
   have HMD := Lib.hid hMd
   have HFL := Lib.hid hfl
   have HD5 := Lib.hid (HD.out.keep_no hkw)
   have HL5 := Lib.hid (HL3.out.keep_no hkk)
   have HKW := Lib.hid hkw
   have hlw : x < wr.heap.size := hkk.lt h3s
   clear hM hMe hkM hMo hkk hkw hxw h3s hMl hMd hfl hkr hlt hjn hj HR
   go_wp2_with fail
   rename World => w5
   go_loopw [10, 11] (fun s10 s11 wr => ∃ nx j2 : Nat, j2 ≤ k ∧ nx ≤ 100000 ∧ s10 = .int .i64 (nx : Int) ∧ s11 = .int .i64 (j2 : Int) ∧ Hid (OxR w5 wr x r P s.files M j2 nx)) (fun _ s11 _ => k - (intOf s11).toNat)
   case atStart => exact ⟨1, 0, by omega, by omega, rfl, rfl, Lib.hid ⟨st0, One x, by simp [scanS], rfl, HL5.out, Foot.refl _ _, Kp.refl _ _⟩⟩
   case round =>
    obtain ⟨nx, j2, hj2, hnx, rfl, rfl, HR⟩ := hrel
    obtain ⟨st1, G1, hsc, hnxe, hL1, hG1, hk1⟩ := HR.out
    clear HR
    by_cases hlt : j2 < k
    ·have hjM : j2 < M.length := by rw [← HKM.out]; exact hlt
     obtain ⟨a9, c9, hv9, _, hrd9⟩ := HMO.out.rd
     injection hv9 with hv91 _ hv93
     subst hv91
     subst hv93
     obtain ⟨mg, moff, rfl, hmg, _, hmc⟩ := hrd9.at_ (i := j2) (u := .string M[j2]) (by simp [hjM])
     have hmgl : ¬ One x mg := (HML.out mg rfl).1
     have hcw := (hk1.cell (p := ⟨mg, moff + j2, none⟩) hmg hmgl).trans hmc
     have hmgr := hk1.lt hmg
     have htk1 : M.take (j2 + 1) = M.take j2 ++ [M[j2]] := List.take_succ_eq_append_getElem hjM
     have hdr1 : M.drop j2 = M[j2] :: M.drop (j2 + 1) := List.drop_eq_getElem_cons hjM
     have hms := HMS.out M[j2] (List.getElem_mem hjM)
     obtain ⟨y, hy⟩ : ∃ y, y = M[j2] := ⟨_, rfl⟩
     rw [← hy] at hcw htk1 hdr1 hms
     have hsg := number_any y P wr (by omega) (by omega)
     obtain ⟨kn, hkn⟩ : ∃ kn, segNo P.data.toList y.data.toList = some kn := Option.isSome_iff_exists.1 hms.1
     rw [hkn] at hsg
     have hknb := segNo_lt hkn
     have hkny : ∀ m, y = bnm P m ↔ kn = m := fun m => by
      rw [← segNo_iff hkn m]
      constructor
      ·intro h; rw [h]; rfl
      ·intro h; exact bytes_inj h
     obtain ⟨dat, hdat⟩ : ∃ dat, dat = (rdS s.files y).1 := ⟨_, rfl⟩
     have hdl : dat.length ≤ 1048576 := by rw [hdat]; exact Nat.le_trans (rd_tot y) (Nat.le_trans HRM.out.2.2.2 HRM.out.1)
     obtain ⟨bn, hbn⟩ : ∃ bn, bn = dat.length := ⟨_, rfl⟩
     have hrd := fun W (hW : Kp No wr W) => rRead_any W r s F ((HD5.out.keep hk1 HFL.out).keep_no hW) y
     have HRD := Lib.hid hrd
     have HSG := Lib.hid hsg
     have HSC := Lib.hid hsc
     have HNX := Lib.hid hnxe
     have HL1 := Lib.hid hL1
     have HG1 := Lib.hid hG1
     have HK1' := Lib.hid hk1
     have HT1 := Lib.hid htk1
     have HDR := Lib.hid hdr1
     have HKY := Lib.hid hkny
     have HDAT := Lib.hid hdat
     have HBN := Lib.hid hbn
     have hdl2 : bn ≤ 1048576 := by rw [hbn]; exact hdl
     have HY := Lib.hid hy
     clear hrd hsg hsc hnxe hL1 hG1 hk1 htk1 hdr1 hkny hdat hbn hmc hms hkn hmgl hrd9 hdl hy
     go_wp2_with fail
     have hc := HSG.out
     with_reducible refine hc.mono ?_
     rintro e w6 ⟨rfl, hk6⟩
     clear hc HSG
     have hcw6 := (hk6.cell (p := ⟨mg, moff + j2, none⟩) hmgr (fun x => x)).trans hcw
     have hmg6 := hk6.lt hmgr
     rw [show numI (some kn) = (kn : Int) from rfl]
     have hc := HRD.out w6 hk6
     clear HRD
     go_wp2_with fail
     with_reducible refine hc.mono ?_
     rintro e w7 ⟨v, rfl, hov, hk7, _⟩
     clear hc
     rw [← HDAT.out] at hov
     obtain ⟨ba, bc, rfl, hbc, _⟩ := hov.rd
     rw [← HBN.out] at hov hbc ⊢
     have hrdf := read_any w7 ba bc dat (by rw [HBN.out] at hov; exact hov.rd') (by rw [← HBN.out]; exact hbc) (by rw [← HBN.out]; omega) kn (by omega)
     rw [← HBN.out] at hrdf
     have HK7 := Lib.hid (hk6.trans_same hk7)
     have hcw7 := (hk7.cell (p := ⟨mg, moff + j2, none⟩) hmg6 (fun x => x)).trans hcw6
     have hmg7 := hk7.lt hmg6
     clear hov hbc hk6 hk7 hcw6 hmg6 hcw hmgr
     go_wp2_with fail
     with_reducible refine hrdf.mono ?_
     rintro e w8 ⟨ra, rn, rc, rfl, hrows⟩
     clear hrdf
     obtain ⟨gd, hgd⟩ : ∃ gd, gd = (entsF kn dat).2 := ⟨_, rfl⟩
     obtain ⟨es, hes⟩ : ∃ es, es = (entsF kn dat).1 := ⟨_, rfl⟩
     rw [← hes] at hrows
     rw [← hgd, ← HBN.out]
     have hrl := hrows.len
     have hk8 := hrows.kp
     have hgl := entsF_le dat kn
     rw [← hgd, ← HBN.out] at hgl
     have hfe := entsF_few kn dat
     rw [← hgd, ← hes, ← hrl] at hfe
     have hcw8 := (hk8.cell (p := ⟨mg, moff + j2, none⟩) hmg7 (fun x => x)).trans hcw7
     have hmg8 := hk8.lt hmg7
     have HROWS := Lib.hid hrows
     have HGD := Lib.hid hgd
     have HES := Lib.hid hes
     have HRL := Lib.hid hrl
     have HK8 := Lib.hid (HK7.out.trans_same hk8)
     have hs78 := hk8.size
     clear hrows hgd hes hrl hk8 hcw7 hmg7
     have hxn8 : x < w8.heap.size := HK8.out.lt (HK1'.out.lt hlw)
     by_cases hkx : kn = nx
     ·have hyb : y = bnm P (st1.ents.length + 1) := (HKY.out _).2 (hkx.trans HNX.out)
      have HYB := Lib.hid hyb
      have HKE := Lib.hid (show st1.ents.length + 1 = kn from (hkx.trans HNX.out).symm)
      have k1 : ((kn : Int) == (nx : Int)) = true := by rw [beq_iff_eq, hkx]
      have k2 : ((kn : Int) != (nx : Int)) = false := by rw [bne, k1]; rfl
      clear hyb
      by_cases hgb : gd = bn
      ·have HTK := Lib.hid (show takeS s.files P st1 y = ({ st1 with ents := st1.ents ++ es, segs := st1.segs ++ [(kn, gd)] }, true) from by
        have h1 := take_all (l := s.files) HYB.out (by rw [HKE.out, ← HDAT.out, ← HGD.out, hgb, HBN.out])
        rw [HKE.out, ← HDAT.out, ← HGD.out, ← HES.out] at h1
        exact h1)
       rw [decide_eq_true hgb]
       clear hgb hkx
       obtain ⟨sv, ev, E, hC, hE, hLF, hGl⟩ := HL1.out.keep_no HK8.out
       obtain ⟨sa, sc, rfl, _, _⟩ := hC.segs.rd
       obtain ⟨ea, ec, rfl, _, _⟩ := hC.ents.rd
       have HRW := Lib.hid (show ∃ Q : List Row, (rn = Q.length ∧ Own w8 23 1 (.slice ra rn rc) rn (Q.flatMap rowC) ∧ (∀ g, (Value.slice ra rn rc).ownBlock = some g → w7.heap.size ≤ g) ∧ True) ∧ (∀ q ∈ Q, EntOk w8 q ∧ ∀ g, q.val.ownBlock = some g → w7.heap.size ≤ g ∧ g < w8.heap.size) ∧ Q.map Row.data = es from by
        obtain ⟨Q, h1, h2, h3⟩ := HROWS.out
        exact ⟨Q, ⟨h1.1, h1.2.1, h1.2.2.1, trivial⟩, fun q hq => ⟨(h2 q hq).1, fun g hg => ⟨(h2 q hq).2 g hg, (h2 q hq).1.1.lt g hg⟩⟩, h3⟩)
       obtain ⟨GR, hGR⟩ : ∃ GR : Nat → Prop, GR = fun k => G1 k ∨ (w7.heap.size ≤ k ∧ k < w8.heap.size) := ⟨_, rfl⟩
       have hrunA : XLRun w8 w8 x r P (.slice sa (st1.segs.map (·.1)).length sc) (.slice ea E.length ec) (st1.segs.map (·.1)) E 0 false GR := ⟨hC, fun k hk => .inl (by rw [hGR]; exact .inl (hLF k hk)), Kp.refl _ _⟩
       obtain ⟨sn, hsn⟩ : ∃ sn, sn = (st1.segs.map (·.1)).length := ⟨_, rfl⟩
       obtain ⟨en, hen⟩ : ∃ en, en = E.length := ⟨_, rfl⟩
       have hsnb : sn ≤ 1000000 := by
        have h1 := scan_segs s.files P (M.take j2) st0
        rw [HSC.out, List.length_take] at h1
        have h4 : st1.segs.length ≤ 0 + min j2 M.length := h1
        rw [hsn, List.length_map]
        omega
       have henb : en ≤ 1000000 := by
        have h1 := HBS.out j2
        have h2 := HSB.out j2
        rw [HSC.out] at h1
        have h4 : 12 * st1.ents.length ≤ 12 * 0 + sumR s.files (M.take j2) := h1
        rw [hE, List.length_map] at h4
        omega
       have hos := hC.segs
       rw [← hsn] at hos
       obtain ⟨a1, c1, w9, hrA, hoA, hkA, hbA⟩ := own_one (T := 51) (E := 3) (sz := 1) (bytes := 8) Tryz.underlying51 infoInt (W := w8) (v := .slice sa sn sc) (n := sn) hos (news := numC kn) (numC_one kn) rfl (cs := #[.int .i64 (kn : Int)]) rfl (by omega) (by omega)
       have qx3 := hC.cells.2.2.2.1 w8 (Kp.refl _ _)
       rw [← hsn] at qx3
       have hcA := hkA.get hC.cell fun e => (hC.seg_ne (by rw [hsn] at e; exact e)).1 rfl
       have qx3A : w9.cell? ⟨x, 3, none⟩ = some (.slice sa sn sc) := by rw [cell_at hcA, hsn]; rfl
       have qx3f := free_at hcA 3
       have qlA := get_lt hcA
       have hrunB := hrunA.seg (S' := st1.segs.map (·.1) ++ [kn]) (W' := w9) (sv' := .slice a1 (sn + 1) c1) (by rw [← hsn]; exact hkA) (by rw [List.length_append, List.length_singleton, ← hsn, List.flatMap_append, List.flatMap_cons, List.flatMap_nil, List.append_nil]; exact hoA) (by rw [← hsn]; exact hbA)
       obtain ⟨w10, hw10⟩ : ∃ W, W = w9.setCell ⟨x, 3, none⟩ (.slice a1 (sn + 1) c1) := ⟨_, rfl⟩
       rw [← hw10] at hrunB
       have hkB : Kp GR w8 w10 := hrunB.kp
       have hkBo : Kp (fun k => G1 k) w8 w10 := by
        rw [hw10]
        exact ((hkA.mono (T := fun k => G1 k) fun i hi hs => hLF i (.inr (.inl (by rw [← hsn]; exact hs)))).setCell (p := ⟨x, 3, none⟩) (.inl (hLF x (.inl rfl))) _)
       obtain ⟨Q, hQ, hQe, hQd⟩ := HRW.out
       obtain ⟨ra', rc', hrv, _, hrr⟩ := hQ.2.1.rd
       injection hrv with hr1 hr2 hr3
       subst hr1
       have hrn := hQ.1
       have hGr : ∀ g, G1 g → g < w7.heap.size := fun g hg => Nat.lt_of_lt_of_le (HL1.out.lt g hg) HK7.out.size
       have hrr10 : Rd w10 w10.heap.size ra (Q.flatMap rowC) := by
        intro hx0
        obtain ⟨g, off, e, hg, hb, hcq⟩ := hrr hx0
        refine ⟨g, off, e, hkBo.lt hg, Nat.le_refl _, fun j u hu => ?_⟩
        rw [hkBo.cell (p := ⟨g, off + j, none⟩) hg (fun hf => by
         have h1 := hGr g hf
         have h2 := hQ.2.2.1 g (by rw [e]; rfl)
         omega)]
        exact hcq j u hu
       have hoE := hrunB.c.ents
       rw [← hen] at hoE
       obtain ⟨a2, c2, w11, hrB, hoB, hkC, hbB⟩ := app_rows hoE hrr10 (rc := rc) (by omega) (by omega)
       rw [← hrn] at hrB hoB hbB
       have hrunC := hrunB.entN (N := Q) (W' := w11) (ev' := .slice a2 (en + rn) c2) (fun q hq => by
        obtain ⟨h1, h2⟩ := hQe q hq
        refine ⟨h1.keep hkBo fun g hg hf => ?_, fun g hg => ?_⟩
        ·have h3 := hGr g hf
         have h4 := (h2 g hg).1
         omega
        ·left
         rw [hGR]
         exact .inr (h2 g hg)) (by rw [← hen]; exact hkC) (by rw [List.length_append, ← hen, ← hrn]; exact hoB) (by rw [← hen]; exact hbB)
       have hC10 := hrunB.c
       have q2B := hC10.cells.2.2.1 w10 (Kp.refl _ _)
       rw [← hen] at q2B
       have hcC := hkC.get hC10.cell fun e => (hC10.ent_ne (by rw [hen] at e; exact e)).1 rfl
       have q2C : w11.cell? ⟨x, 2, none⟩ = some (.slice ea en ec) := by rw [cell_at hcC, hen]; rfl
       have q2f := free_at hcC 2
       have qlC := get_lt hcC
       have qlB := get_lt hC10.cell
       obtain ⟨w12, hw12⟩ : ∃ W, W = w11.setCell ⟨x, 2, none⟩ (.slice a2 (en + rn) c2) := ⟨_, rfl⟩
       rw [← hw12] at hrunC
       have hst2 : (⟨(E ++ Q).map Row.data, st1.segs ++ [(kn, gd)], st1.synced, st1.dead⟩ : LSt) = { st1 with ents := st1.ents ++ es, segs := st1.segs ++ [(kn, gd)] } := by
        rw [List.map_append, ← hE, hQd]
       have HX12 := Lib.hid (show XL0 w12 x r P { st1 with ents := st1.ents ++ es, segs := st1.segs ++ [(kn, gd)] } (RLFP x (.slice a1 (sn + 1) c1) (.slice a2 (en + rn) c2) (E ++ Q)) from by
        rw [← hst2]
        refine ⟨_, _, E ++ Q, ?_, rfl, fun _ x => x, hrunC.c.lt⟩
        have := hrunC.c
        rw [show (st1.segs ++ [(kn, gd)]).map (·.1) = st1.segs.map (·.1) ++ [kn] by simp]
        exact this)
       have HF12 := Lib.hid hrunC.foot
       have HK12 := Lib.hid hrunC.kp
       have HGR := Lib.hid hGR
       have HA1 := Lib.hid hrA
       have HA2 := Lib.hid hrB
       have HW10 := Lib.hid hw10
       have HW12 := Lib.hid hw12
       clear hrunA hsn hen hos hrA hoA hkA hbA hcA hrunB hw10 hkB hkBo hQ hQe hQd hrr hrn hGr hrr10 hoE hrB hoB hkC hbB hrunC hC10 hcC hw12 hst2 hC hE hLF hGl hGR hr2 hr3
       have hnxb : nx + rn ≤ 100000 := by
        have h1 := HBS.out (j2 + 1)
        have h2 := HSB.out (j2 + 1)
        rw [HT1.out, scan_step HSC.out (by rw [HTK.out]), HTK.out] at h1
        have h3 : 12 * (st1.ents ++ es).length ≤ 12 * 0 + sumR s.files (M.take j2 ++ [y]) := h1
        rw [HT1.out] at h2
        rw [List.length_append, ← HRL.out] at h3
        have h4 := HNX.out
        omega
       have HNEW := Lib.hid (show OxR w5 w12 x r P s.files M (j2 + 1) (nx + rn) from by
        have hs58 := (HK1'.out.trans_no HK8.out).size
        have hG1l : ∀ g, GR g → One x g ∨ w5.heap.size ≤ g := fun g hg => by
         rw [HGR.out] at hg
         rcases hg with hg | hg
         ·exact HG1.out g hg
         ·right
          have := HK1'.out.size
          have := HK7.out.size
          omega
        refine ⟨_, _, by rw [HT1.out]; exact scan_step HSC.out (by rw [HTK.out]), ?_, by rw [HTK.out]; exact HX12.out, fun g hg => ?_, ?_⟩
        ·rw [HTK.out]
         show nx + rn = (st1.ents ++ es).length + 1
         rw [List.length_append, ← HRL.out, HNX.out]
         omega
        ·rcases HF12.out g hg with h1 | h1
         ·exact hG1l g h1
         ·right; omega
        ·refine (HK1'.out.trans_no HK8.out).trans HK12.out fun i hi hg => ?_
         rcases hG1l i hg with h1 | h1
         ·exact h1
         ·omega)
       clear hcw8 hmg8 hxn8
       go_upto_region 20 with (at_builtin; refine wpList_append_run rfl rfl rfl rfl HA1.out ?_)
       rw [← HW10.out]
       go_upto_region 21 with (at_builtin; refine wpList_append_run rfl rfl rfl rfl HA2.out ?_)
       rw [← HW12.out]
       go_wp2_with fail
       go_roundw
       case rel => exact ⟨nx + rn, j2 + 1, by omega, hnxb, by push_cast; rfl, by push_cast; rfl, HNEW⟩
       case measure => simp [intOf]; omega
      ·rw [decide_eq_false hgb]
       by_cases hg0 : gd = 0
       ·have HTK := Lib.hid (show takeS s.files P st1 y = (st1, false) from take_nothing (.inr ⟨by rw [HKE.out, ← HDAT.out, ← HGD.out, ← HBN.out]; exact hgb, by rw [HKE.out, ← HDAT.out, ← HGD.out]; exact hg0⟩))
        have HEO := Lib.hid (show ∀ s', endOne P s' st1.segs y = rmS s' y from fun s' => by
         have h1 := endOne_ref (l := s.files) (P := P) (st := st1) (x := y) (by
          intro z hz hzy
          have h1 := scan_names s.files P (M.take j2) st0 z (by rw [HSC.out]; exact hz)
          rcases h1 with h1 | h1
          ·cases h1
          ·have h2 := HMD.out
           rw [← List.take_append_drop j2 M, HDR.out, List.nodup_append] at h2
           exact h2.2.2 _ h1 y (List.mem_cons_self ..) hzy
          ) (by rw [HTK.out]) s'
         rw [HTK.out] at h1
         rw [h1, if_pos (.inr (by rw [HKE.out, ← HDAT.out, ← HGD.out]; exact hg0))])
        have k3 : ((gd : Int) == (0 : Int)) = true := by rw [beq_iff_eq, hg0]; rfl
        clear hkx hgb hg0
        have HZ := Lib.hid (show scanS s.files P st0 (N.filter (isSegN P)) = (st1, y :: M.drop (j2 + 1)) from by
         rw [← HME.out]
         have h1 := scan_stop (r := M.drop (j2 + 1)) HSC.out (by rw [HTK.out])
         rw [← HDR.out, List.take_append_drop, HTK.out] at h1
         rw [h1, HDR.out])
        have HXL8 := Lib.hid (HL1.out.keep_no HK8.out)
        have HD8 := Lib.hid ((HD5.out.keep HK1'.out HFL.out).keep_no HK8.out)
        have HKW8 := Lib.hid (show Kp F w w8 from (Kp.of_no HKW.out).trans (HK1'.out.trans_no HK8.out) fun i hi e => by
         have h1 : i = x := e
         have h2 := HX0.out
         omega)
        have hmgF : ¬ F mg := (HML.out mg rfl).2.2
        have HG1n := Lib.hid (show ∀ g, G1 g → w.heap.size ≤ g from fun g hg => by
         rcases HG1.out g hg with h1 | h1
         ·rw [show g = x from h1, HX0.out]
          exact Nat.le_refl _
         ·exact Nat.le_trans HKW.out.size h1)
        have HMC8 := Lib.hid (show ∀ i (hi : i < M.length), w8.cell? ⟨mg, moff + i, none⟩ = some (.string M[i]) from fun i hi => by
         obtain ⟨g', o', e', _, _, hc'⟩ := HMO.out.rd'.at_ (i := i) (u := .string M[i]) (by simp [hi])
         injection e' with e'
         injection e' with e1 e2
         subst e1
         rw [e2]
         have h0 := (HK1'.out.trans_no HK8.out).cell (p := ⟨mg, o' + i, none⟩) hmg (HML.out mg rfl).1
         exact h0.trans hc')
        clear hcw8
        go_upto_region 22 with fail
        go_wp2_with fail
        go_loopw [18] (fun s18 wr => ∃ j3 : Nat, j2 ≤ j3 ∧ j3 < k ∧ s18 = .int .i64 (j3 : Int) ∧ Hid (XnR w8 wr r s F M j3)) (fun s18 _ => (intOf s18).toNat)
        case atStart => exact ⟨k - 1, by omega, by omega, by rw [show ((k - 1 : Nat) : Int) = (k : Int) - 1 by omega], Lib.hid ⟨s, F, by rw [List.drop_of_length_le (by rw [← HKM.out]; omega)]; rfl, HD8.out, Foot.refl _ _, Kp.refl _ _⟩⟩
        case round =>
         obtain ⟨j3, hj23, hj3, rfl, HR⟩ := hrel
         obtain ⟨s3, F3, hrm, hD3, hF3, hk3⟩ := HR.out
         have hmg3 := hk3.lt hmg8
         by_cases hlt3 : j2 < j3
         ·have hjM3 : j3 < M.length := by rw [← HKM.out]; exact hj3
          have hcw3 := (hk3.cell (p := ⟨mg, moff + j3, none⟩) hmg8 hmgF).trans (HMC8.out j3 hjM3)
          obtain ⟨y3, hy3⟩ : ∃ y3, y3 = M[j3] := ⟨_, rfl⟩
          have hgy : M[j3]? = some y3 := by rw [hy3]; exact List.getElem?_eq_getElem _
          rw [← hy3] at hcw3
          have hrr := rRemove_any wr r s3 F3 hD3 y3
          obtain ⟨q3, hq3⟩ : ∃ q, q = rmS s3 y3 := ⟨_, rfl⟩
          have hqc := rm_code s3 y3
          rw [← hq3] at hrr hqc
          have HQ3 := Lib.hid (And.intro hq3 (And.intro hgy hrm))
          have HF3 := Lib.hid (And.intro hF3 hk3)
          clear hq3 hgy hrm hy3 hD3 hF3 hk3 HR
          go_wp2_with fail
          with_reducible refine hrr.mono ?_
          rintro e w9 ⟨rfl, F9, hD9, hF9, hk9⟩
          clear hrr
          obtain ⟨qc, hqe⟩ : ∃ qc, qc = q3.1 := ⟨_, rfl⟩
          rw [← hqe] at hqc ⊢
          have HQE := Lib.hid hqe
          have HN9 := Lib.hid (show RAt w9 r q3.2 F9 ∧ Foot F F9 w8 ∧ Kp F w8 w9 from ⟨hD9, HF3.out.1.trans hF9 HF3.out.2.size, kp_foot HF3.out.2 HF3.out.1 hk9⟩)
          clear hD9 hF9 hk9 hqe
          by_cases hqz : qc = 0
          ·subst hqz
           obtain ⟨j4, rfl⟩ : ∃ j4, j3 = j4 + 1 := ⟨j3 - 1, by omega⟩
           have HNEW := Lib.hid (show XnR w8 w9 r s F M j4 from ⟨q3.2, F9, by
            have := rm_next HQ3.out.2.2 HQ3.out.2.1 (by rw [← HQ3.out.1, ← HQE.out])
            rw [← HQ3.out.1] at this
            exact this, HN9.out⟩)
           clear hcw3 hmg3 hqc
           go_wp2_with fail
           go_roundw
           case rel => exact ⟨j4, by omega, by omega, by first | rfl | (push_cast; congr 1; omega), HNEW⟩
           case measure => first | (simp [intOf]; done) | (simp [intOf]; omega)
          ·have e3 : (qc == (0 : Int)) = false := by rw [beq_eq_false_iff_ne]; exact hqz
           have e4 : (qc != (0 : Int)) = true := by rw [bne, e3]; rfl
           have HFIN := Lib.hid (show OpxP w r P F (openS P s N) (.returned (.tuple #[.pointer none, .int .i64 qc])) w9 from by
            have h1 : (rmS s3 y3).1 ≠ 0 := by rw [← HQ3.out.1, ← HQE.out]; exact hqz
            obtain ⟨i4, hi4⟩ : ∃ i4, j3 = j2 + 1 + i4 := ⟨j3 - (j2 + 1), by omega⟩
            have h2 : rmAll s (M.drop (j2 + 1)).reverse = rmS s3 y3 := by
             have h3 := rm_fail (x := y) (r := M.drop (j2 + 1)) (j := i4 + 1) (s := s) (s' := s3) (y := y3) (by
              rw [← HDR.out, List.drop_drop]
              rw [show j2 + (i4 + 1 + 1) = j3 + 1 by omega]
              exact HQ3.out.2.2) (by
              rw [← HDR.out, List.getElem?_drop, show j2 + (i4 + 1) = j3 by omega]
              exact HQ3.out.2.1) (by omega) h1
             exact h3
            have h4 : end0 P s (st1).segs (y :: M.drop (j2 + 1)) = q3 := by
             show endS P s (st1).segs y (M.drop (j2 + 1)) = q3
             rw [endS_fail h2 h1, HQ3.out.1]
            have h5 : (end0 P s (st1).segs (y :: M.drop (j2 + 1))).1 ≠ 0 := by rw [h4, ← HQE.out]; exact hqz
            rw [openS_no HZ.out h5, h4]
            refine .inr ⟨by rw [← HQE.out]; exact hqz, F9, by rw [HQE.out], HN9.out.1, fun g hg => (HN9.out.2.1 g hg).imp id fun h => Nat.le_trans HKW8.out.size h, HKW8.out.trans_same HN9.out.2.2⟩)
           clear hcw3 hmg3 hqc
           go_wp2_with fail
           go_ret2
           rw [← HNN.out]
           exact HFIN.out
         ·have hj32 : j3 = j2 := by omega
          subst hj32
          have HRM3 := Lib.hid (And.intro hrm (And.intro hD3 (And.intro hF3 hk3)))
          have hcwy : wr.cell? ⟨mg, moff + j3, none⟩ = some (.string y) := by
           have h1 := (hk3.cell (p := ⟨mg, moff + j3, none⟩) hmg8 hmgF).trans (HMC8.out j3 hjM)
           rw [h1, ← HY.out]
          clear hrm hD3 hF3 hk3 HR
          go_upto_region 28 with fail
          skip
          have hrr := rRemove_any wr r s3 F3 HRM3.out.2.1 y
          obtain ⟨q3, hq3⟩ : ∃ q, q = rmS s3 y := ⟨_, rfl⟩
          have hqc := rm_code s3 y
          rw [← hq3] at hrr hqc
          have hend : end0 P s st1.segs (y :: M.drop (j3 + 1)) = q3 := by
           show endS P s st1.segs y (M.drop (j3 + 1)) = q3
           rw [endS_ok HRM3.out.1, HEO.out, hq3]
          have HEND := Lib.hid hend
          clear hq3 hend
          go_wp2_with fail
          with_reducible refine hrr.mono ?_
          rintro e w9 ⟨rfl, F9, hD9, hF9, hk9⟩
          clear hrr
          obtain ⟨qc, hqe⟩ : ∃ qc, qc = q3.1 := ⟨_, rfl⟩
          rw [← hqe] at hqc ⊢
          have HQE := Lib.hid hqe
          have HN9 := Lib.hid (show RAt w9 r q3.2 F9 ∧ Foot F F9 w8 ∧ Kp F w8 w9 from ⟨hD9, HRM3.out.2.2.1.trans hF9 HRM3.out.2.2.2.size, kp_foot HRM3.out.2.2.2 HRM3.out.2.2.1 hk9⟩)
          clear hD9 hF9 hk9 hqe
          by_cases hqz : qc = 0
          ·subst hqz
           have hFG1 : ∀ g, F g → ¬ G1 g := fun g hf hg => by
            rcases HG1.out g hg with h1 | h1
            ·exact HFL.out g hf h1
            ·have := HD5.out.lt g hf
             omega
           have HXM := Lib.hid (show XpM w w9 r x P F F9 G1 q3.2 st1 from ⟨HN9.out.1, HXL8.out.keep HN9.out.2.2 (fun g hg hf => hFG1 g hf hg), fun g hf hg => by
            rcases HN9.out.2.1 g hf with h1 | h1
            ·exact hFG1 g h1 hg
            ·have := HXL8.out.lt g hg
             omega, fun g hg => (HN9.out.2.1 g hg).imp id fun h => Nat.le_trans HKW8.out.size h, HG1n.out, HKW8.out.trans_same HN9.out.2.2⟩)
           have HO := Lib.hid (openS_go (s' := q3.2) HZ.out (by rw [HEND.out, HQE.out]))
           have HNO := Lib.hid (show (∀ z ∈ st1.segs, z.1 ≤ st1.ents.length + 1) ∧ st1.dead = false from by
            have := scan_no s.files P (M.take j3) st0 (fun z hz => by cases hz)
            rw [HSC.out] at this
            exact this)
           have hsegb : st1.segs.length ≤ 1000000 ∧ st1.ents.length ≤ 100000 := by
            have h1 := scan_segs s.files P (M.take j3) st0
            rw [HSC.out, List.length_take] at h1
            have h4 : st1.segs.length ≤ 0 + min j3 M.length := h1
            have h5 := HBS.out j3
            have h6 := HSB.out j3
            rw [HSC.out] at h5
            have h7 : 12 * st1.ents.length ≤ 12 * 0 + sumR s.files (M.take j3) := h5
            omega
           have HSEGB := Lib.hid hsegb
           clear hqc hcwy hmg3 hFG1 hsegb
           go_upto_region 36 with fail
           obtain ⟨st', hst'⟩ : ∃ st', st' = st1 := ⟨_, rfl⟩
           obtain ⟨s', hs'⟩ : ∃ s', s' = q3.2 := ⟨_, rfl⟩
           rw [← hst'] at HO HXM HNO HSEGB
           rw [← hs'] at HO HXM
           clear hst' hs'
           have hM := HXM.out
           obtain ⟨sv, ev, E, hC, hE, hLF, hGl⟩ := hM.xl
           obtain ⟨sa, sc, rfl, hsc, hsr⟩ := hC.segs.rd
           obtain ⟨ea, ec, rfl, hec, _⟩ := hC.ents.rd
           obtain ⟨sn, hsn⟩ : ∃ sn, sn = (st'.segs.map (·.1)).length := ⟨_, rfl⟩
           obtain ⟨en, hen⟩ : ∃ en, en = E.length := ⟨_, rfl⟩
           have hsnb : sn ≤ 1000000 := by rw [hsn, List.length_map]; exact HSEGB.out.1
           have henb : en ≤ 100000 := by
            have h1 := HSEGB.out.2
            rw [hE, List.length_map] at h1
            omega
           have hcF : ∀ W, Kp F9 w9 W → RLogC W x r P (.slice sa sn sc) (.slice ea en ec) (st'.segs.map (·.1)) E 0 false := fun W hW => by
            have h1 := hC.keep hW (fun g hg hf => hM.sep g hf (hLF g hg))
            rw [← hsn, ← hen] at h1
            exact h1
           have HSR := Lib.hid hsr
           have HSN := Lib.hid hsn
           have HEN := Lib.hid hen
           have HE := Lib.hid hE
           have HC := Lib.hid hC
           have HCF := Lib.hid hcF
           have HLF := Lib.hid hLF
           have hl9 := get_lt hC.cell
           clear hM hsr hsn hen hE hC hLF hGl hsc hec hcF
           go_wp2_with fail
           go_loopw [21] (fun s21 wr => ∃ i : Nat, i ≤ sn ∧ s21 = .int .i64 (i : Int) ∧ Hid (XyR w9 wr r s' F9 (st'.segs.map fun x => bnm P x.1) i)) (fun s21 _ => sn - (intOf s21).toNat)
           case atStart => exact ⟨0, by omega, rfl, Lib.hid ⟨s', F9, by simp [syAll], HXM.out.disk, Foot.refl _ _, Kp.refl _ _⟩⟩
           case round =>
            obtain ⟨i, hi, rfl, HR⟩ := hrel
            obtain ⟨s3, F3, hsy, hD3, hF3, hk3⟩ := HR.out
            clear HR
            have hCr := HCF.out wr hk3
            have hlr := get_lt hCr.cell
            have q3r := hCr.cells.2.2.2.1 wr (Kp.refl _ _)
            have q2r := hCr.cells.2.2.1 wr (Kp.refl _ _)
            have q4r := hCr.cells.2.2.2.2.1 wr (Kp.refl _ _)
            have qfr := hCr.cells.2.2.2.2.2.2 wr (Kp.refl _ _) 4
            have HCR := Lib.hid hCr
            have HH := Lib.hid (And.intro hsy (And.intro hD3 (And.intro hF3 hk3)))
            clear hCr
            by_cases hlt9 : i < sn
            ·have hiS : i < st'.segs.length := by have := HSN.out; rw [List.length_map] at this; omega
             obtain ⟨sg, soff, rfl, hsc⟩ := rd_chunk numC_len (by decide) HSR.out (k := i) (by rw [← HSN.out]; exact hlt9)
             have hsgF : ¬ F9 sg := fun hf => HXM.out.sep sg hf (HLF.out sg (.inr (.inl rfl)))
             have hg0 := hsc w9 (Kp.refl _ _) 0 _ rfl
             rw [Nat.add_zero, Nat.mul_one, List.getElem_map] at hg0
             have hsgl := World.block_lt_of_cell? w9 _ hg0
             obtain ⟨zi, hzi⟩ : ∃ zi, zi = (st'.segs[i]'hiS).1 := ⟨_, rfl⟩
             rw [← hzi] at hg0
             have hzb : zi < 1000000 := by
              have h1 := HNO.out.1 (st'.segs[i]'hiS) (List.getElem_mem _)
              have h2 := HSEGB.out.2
              omega
             have hr0 := (hk3.cell (p := ⟨sg, soff + i, none⟩) hsgl hsgF).trans hg0
             have hsgr := hk3.lt hsgl
             have HAN := Lib.hid (show ∃ h : i < (st'.segs.map fun x => bnm P x.1).length, (st'.segs.map fun x => bnm P x.1)[i] = bnm P zi from ⟨by rw [List.length_map]; exact hiS, by rw [List.getElem_map, hzi]⟩)
             have hnmz := rName_bnm P (by omega) zi hzb wr
             have hrsy := fun W (hW : Kp No wr W) => rSync_any W r s3 F3 (hD3.keep_no hW) (bnm P zi)
             have HRSY := Lib.hid hrsy
             clear hsc hg0 hzi hzb hsy hD3 hF3 hk3 hrsy hiS
             go_wp2_with fail
             with_reducible refine hnmz.mono ?_
             rintro e w13 ⟨rfl, hk13⟩
             clear hnmz
             have hc := HRSY.out w13 hk13
             clear HRSY
             obtain ⟨q5, hq5⟩ : ∃ q, q = syS s3 (bnm P zi) := ⟨_, rfl⟩
             have hqc := sy_code s3 (bnm P zi)
             rw [← hq5] at hc hqc
             have HQ5 := Lib.hid hq5
             clear hq5
             go_wp2_with fail
             with_reducible refine hc.mono ?_
             rintro e w14 ⟨rfl, F14, hD14, hF14, hk14⟩
             clear hc
             obtain ⟨qc, hqe⟩ : ∃ qc, qc = q5.1 := ⟨_, rfl⟩
             rw [← hqe] at hqc ⊢
             have HQE5 := Lib.hid hqe
             have HN14 := Lib.hid (show RAt w14 r q5.2 F14 ∧ Foot F9 F14 w9 ∧ Kp F9 w9 w14 from ⟨hD14, HH.out.2.2.1.trans (fun g hg => (hF14 g hg).imp id fun h => Nat.le_trans hk13.size h) HH.out.2.2.2.size, kp_foot (HH.out.2.2.2.trans_no hk13) HH.out.2.2.1 hk14⟩)
             clear hD14 hF14 hk14 hqe hk13
             by_cases hqz : qc = 0
             ·subst hqz
              have HNEW := Lib.hid (show XyR w9 w14 r s' F9 (st'.segs.map fun x => bnm P x.1) (i + 1) from by
               obtain ⟨hAi, hAn⟩ := HAN.out
               refine ⟨q5.2, F14, ?_, HN14.out⟩
               have := syAll_next hAi HH.out.1 (by rw [hAn, ← HQ5.out, ← HQE5.out])
               rw [hAn, ← HQ5.out] at this
               exact this)
              clear hr0 hsgr q3r q2r q4r qfr hqc
              go_wp2_with fail
              go_roundw
              case rel => exact ⟨i + 1, by omega, by push_cast; rfl, HNEW⟩
              case measure => simp [intOf]; omega
             ·have e5 : (qc == (0 : Int)) = false := by rw [beq_eq_false_iff_ne]; exact hqz
              have e6 : (qc != (0 : Int)) = true := by rw [bne, e5]; rfl
              have HFIN := Lib.hid (show OpxP w r P F (openS P s N) (.returned (.tuple #[.pointer none, .int .i64 qc])) w14 from by
               obtain ⟨hAi, hAn⟩ := HAN.out
               have hfl := syAll_fail hAi HH.out.1 (by rw [hAn, ← HQ5.out, ← HQE5.out]; exact hqz)
               rw [hAn, ← HQ5.out] at hfl
               rw [HO.out, hfl]
               exact .inr ⟨by rw [← HQE5.out]; exact hqz, F14, by rw [HQE5.out], HN14.out.1, HXM.out.foot.trans HN14.out.2.1 HXM.out.kp.size, kp_foot HXM.out.kp HXM.out.foot HN14.out.2.2⟩)
              clear hr0 hsgr q3r q2r q4r qfr hqc
              go_wp2_with fail
              go_ret2
              rw [← HNN.out]
              exact HFIN.out
            ·have hin : i = sn := by omega
             have HFIN := Lib.hid (show OpxP w r P F (openS P s N) (.returned (.tuple #[.pointer (some ⟨x, 0, none⟩), .int .i64 0])) (wr.setCell ⟨x, 4, none⟩ (.int .i64 ((en + 1 : Nat) : Int))) from by
              have hcl := set_at HCR.out.cell 4 (.int .i64 ((en + 1 : Nat) : Int))
              have hkx : Kp (One x) wr (wr.setCell ⟨x, 4, none⟩ (.int .i64 ((en + 1 : Nat) : Int))) := (Kp.refl (One x) _).setCell (p := ⟨x, 4, none⟩) (.inl rfl) _
              have hC2 := HCR.out.turn (synced' := en + 1) (dead' := false) hkx (by simpa using hcl)
              have hsyA : syAll s' (st'.segs.map fun x => bnm P x.1) = (0, s3) := by
               have h1 := HH.out.1
               have h2 : sn = (st'.segs.map fun x => bnm P x.1).length := by rw [HSN.out]; simp
               rw [hin, h2, List.take_length] at h1
               exact h1
              have hxF : ∀ g, F3 g → ¬ One x g := fun g hg e => by
               have h1 : g = x := e
               rcases HH.out.2.2.1 g hg with h2 | h2
               ·exact HXM.out.sep g h2 (HLF.out g (.inl h1))
               ·omega
              have hEl : st'.ents.length = en := by rw [HE.out, List.length_map, HEN.out]
              rw [HO.out, hsyA, hEl]
              refine .inl ⟨rfl, x, F3, RLFP x (.slice sa sn sc) (.slice ea en ec) E, rfl, ⟨HH.out.2.1.keep hkx hxF, ⟨_, _, E, ?_, HE.out, fun _ y => y, hC2.lt⟩, fun g hf hg => ?_⟩, HXM.out.foot.trans HH.out.2.2.1 HXM.out.kp.size, fun g hg => HXM.out.new g (HLF.out g (by rw [← HSN.out, ← HEN.out]; exact hg)), ?_⟩
              ·show RLogC _ x r P _ _ (st'.segs.map (·.1)) E (en + 1) st'.dead
               rw [HNO.out.2]
               exact hC2
              ·have hg' : RLFP x (.slice sa (st'.segs.map (·.1)).length sc) (.slice ea E.length ec) E g := by rw [← HSN.out, ← HEN.out]; exact hg
               rcases HH.out.2.2.1 g hf with h1 | h1
               ·exact HXM.out.sep g h1 (HLF.out g hg')
               ·have := HC.out.lt g hg'
                omega
              ·refine (kp_foot HXM.out.kp HXM.out.foot HH.out.2.2.2).trans hkx fun i hi e => ?_
               have h1 : i = x := e
               have h2 := HX0.out
               omega)
             clear hsy hD3 hF3 hk3
             go_wp2_with fail
             go_ret2
             rw [← HNN.out]
             have := HFIN.out
             push_cast at this
             exact this
          ·have e3 : (qc == (0 : Int)) = false := by rw [beq_eq_false_iff_ne]; exact hqz
           have e4 : (qc != (0 : Int)) = true := by rw [bne, e3]; rfl
           have HFIN := Lib.hid (show OpxP w r P F (openS P s N) (.returned (.tuple #[.pointer none, .int .i64 qc])) w9 from by
            have h5 : (end0 P s st1.segs (y :: M.drop (j3 + 1))).1 ≠ 0 := by rw [HEND.out, ← HQE.out]; exact hqz
            rw [openS_no HZ.out h5, HEND.out]
            refine .inr ⟨by rw [← HQE.out]; exact hqz, F9, by rw [HQE.out], HN9.out.1, fun g hg => (HN9.out.2.1 g hg).imp id fun h => Nat.le_trans HKW8.out.size h, HKW8.out.trans_same HN9.out.2.2⟩)
           clear hqc hcwy hmg3
           go_wp2_with fail
           go_ret2
           rw [← HNN.out]
           exact HFIN.out
       ·obtain ⟨st2, hst2⟩ : ∃ st2 : LSt, st2 = { st1 with ents := st1.ents ++ es, segs := st1.segs ++ [(kn, gd)] } := ⟨_, rfl⟩
        have HTK := Lib.hid (show takeS s.files P st1 y = (st2, false) from by
         have h1 := take_part (l := s.files) HYB.out (by rw [HKE.out, ← HDAT.out, ← HGD.out, ← HBN.out]; exact hgb) (by rw [HKE.out, ← HDAT.out, ← HGD.out]; exact hg0)
         rw [HKE.out, ← HDAT.out, ← HGD.out, ← HES.out] at h1
         rw [hst2]
         exact h1)
        have HEO := Lib.hid (show ∀ s', endOne P s' st2.segs y = cuS s' y (gd : Int) from fun s' => by
         have h1 := endOne_ref (l := s.files) (P := P) (st := st1) (x := y) (by
          intro z hz hzy
          have h1 := scan_names s.files P (M.take j2) st0 z (by rw [HSC.out]; exact hz)
          rcases h1 with h1 | h1
          ·cases h1
          ·have h2 := HMD.out
           rw [← List.take_append_drop j2 M, HDR.out, List.nodup_append] at h2
           exact h2.2.2 _ h1 y (List.mem_cons_self ..) hzy
          ) (by rw [HTK.out]) s'
         rw [HTK.out] at h1
         rw [h1, if_neg (by
          rintro (h | h)
          ·exact h HYB.out
          ·rw [HKE.out, ← HDAT.out, ← HGD.out] at h
           exact hg0 h), HKE.out, ← HDAT.out, ← HGD.out])
        have k3 : ((gd : Int) == (0 : Int)) = false := by rw [beq_eq_false_iff_ne]; omega
        have HST2 := Lib.hid hst2
        clear hkx hgb hg0 hst2
        have HZ := Lib.hid (show scanS s.files P st0 (N.filter (isSegN P)) = (st2, y :: M.drop (j2 + 1)) from by
         rw [← HME.out]
         have h1 := scan_stop (r := M.drop (j2 + 1)) HSC.out (by rw [HTK.out])
         rw [← HDR.out, List.take_append_drop, HTK.out] at h1
         rw [h1, HDR.out])
        have HXL8 := Lib.hid (HL1.out.keep_no HK8.out)
        have HD8 := Lib.hid ((HD5.out.keep HK1'.out HFL.out).keep_no HK8.out)
        have HKW8 := Lib.hid (show Kp F w w8 from (Kp.of_no HKW.out).trans (HK1'.out.trans_no HK8.out) fun i hi e => by
         have h1 : i = x := e
         have h2 := HX0.out
         omega)
        have hmgF : ¬ F mg := (HML.out mg rfl).2.2
        have HG1n := Lib.hid (show ∀ g, G1 g → w.heap.size ≤ g from fun g hg => by
         rcases HG1.out g hg with h1 | h1
         ·rw [show g = x from h1, HX0.out]
          exact Nat.le_refl _
         ·exact Nat.le_trans HKW.out.size h1)
        have HMC8 := Lib.hid (show ∀ i (hi : i < M.length), w8.cell? ⟨mg, moff + i, none⟩ = some (.string M[i]) from fun i hi => by
         obtain ⟨g', o', e', _, _, hc'⟩ := HMO.out.rd'.at_ (i := i) (u := .string M[i]) (by simp [hi])
         injection e' with e'
         injection e' with e1 e2
         subst e1
         rw [e2]
         have h0 := (HK1'.out.trans_no HK8.out).cell (p := ⟨mg, o' + i, none⟩) hmg (HML.out mg rfl).1
         exact h0.trans hc')
        clear hcw8
        go_upto_region 22 with fail
        go_wp2_with fail
        go_loopw [18] (fun s18 wr => ∃ j3 : Nat, j2 ≤ j3 ∧ j3 < k ∧ s18 = .int .i64 (j3 : Int) ∧ Hid (XnR w8 wr r s F M j3)) (fun s18 _ => (intOf s18).toNat)
        case atStart => exact ⟨k - 1, by omega, by omega, by rw [show ((k - 1 : Nat) : Int) = (k : Int) - 1 by omega], Lib.hid ⟨s, F, by rw [List.drop_of_length_le (by rw [← HKM.out]; omega)]; rfl, HD8.out, Foot.refl _ _, Kp.refl _ _⟩⟩
        case round =>
         obtain ⟨j3, hj23, hj3, rfl, HR⟩ := hrel
         obtain ⟨s3, F3, hrm, hD3, hF3, hk3⟩ := HR.out
         have hmg3 := hk3.lt hmg8
         by_cases hlt3 : j2 < j3
         ·have hjM3 : j3 < M.length := by rw [← HKM.out]; exact hj3
          have hcw3 := (hk3.cell (p := ⟨mg, moff + j3, none⟩) hmg8 hmgF).trans (HMC8.out j3 hjM3)
          obtain ⟨y3, hy3⟩ : ∃ y3, y3 = M[j3] := ⟨_, rfl⟩
          have hgy : M[j3]? = some y3 := by rw [hy3]; exact List.getElem?_eq_getElem _
          rw [← hy3] at hcw3
          have hrr := rRemove_any wr r s3 F3 hD3 y3
          obtain ⟨q3, hq3⟩ : ∃ q, q = rmS s3 y3 := ⟨_, rfl⟩
          have hqc := rm_code s3 y3
          rw [← hq3] at hrr hqc
          have HQ3 := Lib.hid (And.intro hq3 (And.intro hgy hrm))
          have HF3 := Lib.hid (And.intro hF3 hk3)
          clear hq3 hgy hrm hy3 hD3 hF3 hk3 HR
          go_wp2_with fail
          with_reducible refine hrr.mono ?_
          rintro e w9 ⟨rfl, F9, hD9, hF9, hk9⟩
          clear hrr
          obtain ⟨qc, hqe⟩ : ∃ qc, qc = q3.1 := ⟨_, rfl⟩
          rw [← hqe] at hqc ⊢
          have HQE := Lib.hid hqe
          have HN9 := Lib.hid (show RAt w9 r q3.2 F9 ∧ Foot F F9 w8 ∧ Kp F w8 w9 from ⟨hD9, HF3.out.1.trans hF9 HF3.out.2.size, kp_foot HF3.out.2 HF3.out.1 hk9⟩)
          clear hD9 hF9 hk9 hqe
          by_cases hqz : qc = 0
          ·subst hqz
           obtain ⟨j4, rfl⟩ : ∃ j4, j3 = j4 + 1 := ⟨j3 - 1, by omega⟩
           have HNEW := Lib.hid (show XnR w8 w9 r s F M j4 from ⟨q3.2, F9, by
            have := rm_next HQ3.out.2.2 HQ3.out.2.1 (by rw [← HQ3.out.1, ← HQE.out])
            rw [← HQ3.out.1] at this
            exact this, HN9.out⟩)
           clear hcw3 hmg3 hqc
           go_wp2_with fail
           go_roundw
           case rel => exact ⟨j4, by omega, by omega, by first | rfl | (push_cast; congr 1; omega), HNEW⟩
           case measure => first | (simp [intOf]; done) | (simp [intOf]; omega)
          ·have e3 : (qc == (0 : Int)) = false := by rw [beq_eq_false_iff_ne]; exact hqz
           have e4 : (qc != (0 : Int)) = true := by rw [bne, e3]; rfl
           have HFIN := Lib.hid (show OpxP w r P F (openS P s N) (.returned (.tuple #[.pointer none, .int .i64 qc])) w9 from by
            have h1 : (rmS s3 y3).1 ≠ 0 := by rw [← HQ3.out.1, ← HQE.out]; exact hqz
            obtain ⟨i4, hi4⟩ : ∃ i4, j3 = j2 + 1 + i4 := ⟨j3 - (j2 + 1), by omega⟩
            have h2 : rmAll s (M.drop (j2 + 1)).reverse = rmS s3 y3 := by
             have h3 := rm_fail (x := y) (r := M.drop (j2 + 1)) (j := i4 + 1) (s := s) (s' := s3) (y := y3) (by
              rw [← HDR.out, List.drop_drop]
              rw [show j2 + (i4 + 1 + 1) = j3 + 1 by omega]
              exact HQ3.out.2.2) (by
              rw [← HDR.out, List.getElem?_drop, show j2 + (i4 + 1) = j3 by omega]
              exact HQ3.out.2.1) (by omega) h1
             exact h3
            have h4 : end0 P s (st2).segs (y :: M.drop (j2 + 1)) = q3 := by
             show endS P s (st2).segs y (M.drop (j2 + 1)) = q3
             rw [endS_fail h2 h1, HQ3.out.1]
            have h5 : (end0 P s (st2).segs (y :: M.drop (j2 + 1))).1 ≠ 0 := by rw [h4, ← HQE.out]; exact hqz
            rw [openS_no HZ.out h5, h4]
            refine .inr ⟨by rw [← HQE.out]; exact hqz, F9, by rw [HQE.out], HN9.out.1, fun g hg => (HN9.out.2.1 g hg).imp id fun h => Nat.le_trans HKW8.out.size h, HKW8.out.trans_same HN9.out.2.2⟩)
           clear hcw3 hmg3 hqc
           go_wp2_with fail
           go_ret2
           rw [← HNN.out]
           exact HFIN.out
         ·have hj32 : j3 = j2 := by omega
          subst hj32
          have HRM3 := Lib.hid (And.intro hrm (And.intro hD3 (And.intro hF3 hk3)))
          have hcwy : wr.cell? ⟨mg, moff + j3, none⟩ = some (.string y) := by
           have h1 := (hk3.cell (p := ⟨mg, moff + j3, none⟩) hmg8 hmgF).trans (HMC8.out j3 hjM)
           rw [h1, ← HY.out]
          clear hrm hD3 hF3 hk3 HR
          go_upto_region 28 with fail
          skip
          have hrr := rCut_any wr r s3 F3 HRM3.out.2.1 y (gd : Int)
          obtain ⟨q3, hq3⟩ : ∃ q, q = cuS s3 y (gd : Int) := ⟨_, rfl⟩
          have hqc := cu_code s3 y (gd : Int)
          rw [← hq3] at hrr hqc
          have hend : end0 P s st2.segs (y :: M.drop (j3 + 1)) = q3 := by
           show endS P s st2.segs y (M.drop (j3 + 1)) = q3
           rw [endS_ok HRM3.out.1, HEO.out, hq3]
          have HEND := Lib.hid hend
          clear hq3 hend
          go_wp2_with fail
          with_reducible refine hrr.mono ?_
          rintro e w9o ⟨rfl, F9, hD9, hF9, hk9⟩
          clear hrr
          obtain ⟨qc, hqe⟩ : ∃ qc, qc = q3.1 := ⟨_, rfl⟩
          rw [← hqe] at hqc ⊢
          have HQE := Lib.hid hqe
          have HN9 := Lib.hid (show RAt w9o r q3.2 F9 ∧ Foot F F9 w8 ∧ Kp F w8 w9o from ⟨hD9, HRM3.out.2.2.1.trans hF9 HRM3.out.2.2.2.size, kp_foot HRM3.out.2.2.2 HRM3.out.2.2.1 hk9⟩)
          clear hD9 hF9 hk9 hqe
          have HFG1 := Lib.hid (show ∀ g, F g → ¬ G1 g from fun g hf hg => by
           rcases HG1.out g hg with h1 | h1
           ·exact HFL.out g hf h1
           ·have := HD5.out.lt g hf
            omega)
          have HF7 := Lib.hid (show ∀ g, F g → g < w7.heap.size from fun g hf => Nat.lt_of_lt_of_le (HD5.out.lt g hf) (HK1'.out.trans_no HK7.out).size)
          obtain ⟨sv, ev, E, hC, hE, hLF, hGl⟩ := HXL8.out.keep HN9.out.2.2 (fun g hg hf => HFG1.out g hf hg)
          obtain ⟨sa, sc, rfl, _, _⟩ := hC.segs.rd
          obtain ⟨ea, ec, rfl, _, _⟩ := hC.ents.rd
          have HRW := Lib.hid (show ∃ Q : List Row, (rn = Q.length ∧ Own w9o 23 1 (.slice ra rn rc) rn (Q.flatMap rowC) ∧ (∀ g, (Value.slice ra rn rc).ownBlock = some g → w7.heap.size ≤ g) ∧ True) ∧ (∀ q ∈ Q, EntOk w9o q ∧ ∀ g, q.val.ownBlock = some g → w7.heap.size ≤ g ∧ g < w8.heap.size) ∧ Q.map Row.data = es from by
           obtain ⟨Q, h1, h2, h3⟩ := HROWS.out
           refine ⟨Q, ⟨h1.1, h1.2.1.keep HN9.out.2.2 (fun g hg hf => ?_), h1.2.2.1, trivial⟩, fun q hq => ⟨(h2 q hq).1.keep HN9.out.2.2 (fun g hg hf => ?_), fun g hg => ⟨(h2 q hq).2 g hg, (h2 q hq).1.1.lt g hg⟩⟩, h3⟩
           ·have h4 := h1.2.2.1 g hg
            have h5 := HF7.out g hf
            omega
           ·have h4 := (h2 q hq).2 g hg
            have h5 := HF7.out g hf
            omega)
          have hs89 := HN9.out.2.2.size
          obtain ⟨GR, hGR⟩ : ∃ GR : Nat → Prop, GR = fun k => G1 k ∨ (w7.heap.size ≤ k ∧ k < w8.heap.size) := ⟨_, rfl⟩
          have hrunA : XLRun w9o w9o x r P (.slice sa (st1.segs.map (·.1)).length sc) (.slice ea E.length ec) (st1.segs.map (·.1)) E 0 false GR := ⟨hC, fun k hk => .inl (by rw [hGR]; exact .inl (hLF k hk)), Kp.refl _ _⟩
          obtain ⟨sn, hsn⟩ : ∃ sn, sn = (st1.segs.map (·.1)).length := ⟨_, rfl⟩
          obtain ⟨en, hen⟩ : ∃ en, en = E.length := ⟨_, rfl⟩
          have hsnb : sn ≤ 1000000 := by
           have h1 := scan_segs s.files P (M.take j3) st0
           rw [HSC.out, List.length_take] at h1
           have h4 : st1.segs.length ≤ 0 + min j3 M.length := h1
           rw [hsn, List.length_map]
           omega
          have henb : en ≤ 1000000 := by
           have h1 := HBS.out j3
           have h2 := HSB.out j3
           rw [HSC.out] at h1
           have h4 : 12 * st1.ents.length ≤ 12 * 0 + sumR s.files (M.take j3) := h1
           rw [hE, List.length_map] at h4
           omega
          have hos := hC.segs
          rw [← hsn] at hos
          obtain ⟨a1, c1, w9, hrA, hoA, hkA, hbA⟩ := own_one (T := 51) (E := 3) (sz := 1) (bytes := 8) Tryz.underlying51 infoInt (W := w9o) (v := .slice sa sn sc) (n := sn) hos (news := numC kn) (numC_one kn) rfl (cs := #[.int .i64 (kn : Int)]) rfl (by omega) (by omega)
          have qx3 := hC.cells.2.2.2.1 w9o (Kp.refl _ _)
          rw [← hsn] at qx3
          have hcA := hkA.get hC.cell fun e => (hC.seg_ne (by rw [hsn] at e; exact e)).1 rfl
          have qx3A : w9.cell? ⟨x, 3, none⟩ = some (.slice sa sn sc) := by rw [cell_at hcA, hsn]; rfl
          have qx3f := free_at hcA 3
          have qlA := get_lt hcA
          have hrunB := hrunA.seg (S' := st1.segs.map (·.1) ++ [kn]) (W' := w9) (sv' := .slice a1 (sn + 1) c1) (by rw [← hsn]; exact hkA) (by rw [List.length_append, List.length_singleton, ← hsn, List.flatMap_append, List.flatMap_cons, List.flatMap_nil, List.append_nil]; exact hoA) (by rw [← hsn]; exact hbA)
          obtain ⟨w10, hw10⟩ : ∃ W, W = w9.setCell ⟨x, 3, none⟩ (.slice a1 (sn + 1) c1) := ⟨_, rfl⟩
          rw [← hw10] at hrunB
          have hkB : Kp GR w9o w10 := hrunB.kp
          have hkBo : Kp (fun k => G1 k) w9o w10 := by
           rw [hw10]
           exact ((hkA.mono (T := fun k => G1 k) fun i hi hs => hLF i (.inr (.inl (by rw [← hsn]; exact hs)))).setCell (p := ⟨x, 3, none⟩) (.inl (hLF x (.inl rfl))) _)
          obtain ⟨Q, hQ, hQe, hQd⟩ := HRW.out
          obtain ⟨ra', rc', hrv, _, hrr⟩ := hQ.2.1.rd
          injection hrv with hr1 hr2 hr3
          subst hr1
          have hrn := hQ.1
          have hGr : ∀ g, G1 g → g < w7.heap.size := fun g hg => Nat.lt_of_lt_of_le (HL1.out.lt g hg) HK7.out.size
          have hrr10 : Rd w10 w10.heap.size ra (Q.flatMap rowC) := by
           intro hx0
           obtain ⟨g, off, e, hg, hb, hcq⟩ := hrr hx0
           refine ⟨g, off, e, hkBo.lt hg, Nat.le_refl _, fun j u hu => ?_⟩
           rw [hkBo.cell (p := ⟨g, off + j, none⟩) hg (fun hf => by
            have h1 := hGr g hf
            have h2 := hQ.2.2.1 g (by rw [e]; rfl)
            omega)]
           exact hcq j u hu
          have hoE := hrunB.c.ents
          rw [← hen] at hoE
          obtain ⟨a2, c2, w11, hrB, hoB, hkC, hbB⟩ := app_rows hoE hrr10 (rc := rc) (by omega) (by omega)
          rw [← hrn] at hrB hoB hbB
          have hrunC := hrunB.entN (N := Q) (W' := w11) (ev' := .slice a2 (en + rn) c2) (fun q hq => by
           obtain ⟨h1, h2⟩ := hQe q hq
           refine ⟨h1.keep hkBo fun g hg hf => ?_, fun g hg => ?_⟩
           ·have h3 := hGr g hf
            have h4 := (h2 g hg).1
            omega
           ·left
            rw [hGR]
            exact .inr (h2 g hg)) (by rw [← hen]; exact hkC) (by rw [List.length_append, ← hen, ← hrn]; exact hoB) (by rw [← hen]; exact hbB)
          have hC10 := hrunB.c
          have q2B := hC10.cells.2.2.1 w10 (Kp.refl _ _)
          rw [← hen] at q2B
          have hcC := hkC.get hC10.cell fun e => (hC10.ent_ne (by rw [hen] at e; exact e)).1 rfl
          have q2C : w11.cell? ⟨x, 2, none⟩ = some (.slice ea en ec) := by rw [cell_at hcC, hen]; rfl
          have q2f := free_at hcC 2
          have qlC := get_lt hcC
          have qlB := get_lt hC10.cell
          obtain ⟨w12, hw12⟩ : ∃ W, W = w11.setCell ⟨x, 2, none⟩ (.slice a2 (en + rn) c2) := ⟨_, rfl⟩
          rw [← hw12] at hrunC
          have hst2 : (⟨(E ++ Q).map Row.data, st1.segs ++ [(kn, gd)], st1.synced, st1.dead⟩ : LSt) = { st1 with ents := st1.ents ++ es, segs := st1.segs ++ [(kn, gd)] } := by
           rw [List.map_append, ← hE, hQd]
          have HX12 := Lib.hid (show XL0 w12 x r P { st1 with ents := st1.ents ++ es, segs := st1.segs ++ [(kn, gd)] } (RLFP x (.slice a1 (sn + 1) c1) (.slice a2 (en + rn) c2) (E ++ Q)) from by
           rw [← hst2]
           refine ⟨_, _, E ++ Q, ?_, rfl, fun _ x => x, hrunC.c.lt⟩
           have := hrunC.c
           rw [show (st1.segs ++ [(kn, gd)]).map (·.1) = st1.segs.map (·.1) ++ [kn] by simp]
           exact this)
          have HF12 := Lib.hid hrunC.foot
          have HK12 := Lib.hid hrunC.kp
          have HGR := Lib.hid hGR
          have HA1 := Lib.hid hrA
          have HA2 := Lib.hid hrB
          have HW10 := Lib.hid hw10
          have HW12 := Lib.hid hw12
          clear hrunA hsn hen hos hrA hoA hkA hbA hcA hrunB hw10 hkB hkBo hQ hQe hQd hrr hrn hGr hrr10 hoE hrB hoB hkC hbB hrunC hC10 hcC hw12 hst2 hC hE hLF hGl hGR hr2 hr3
          rw [← HST2.out] at HX12
          have hGRF : ∀ g, F9 g → ¬ GR g := fun g hf hg => by
           rw [HGR.out] at hg
           rcases HN9.out.2.1 g hf with h1 | h1
           ·rcases hg with hg | hg
            ·exact HFG1.out g h1 hg
            ·have := HF7.out g h1
             omega
           ·rcases hg with hg | hg
            ·have := HXL8.out.lt g hg
             omega
            ·omega
          have hGRn : ∀ g, GR g → w.heap.size ≤ g := fun g hg => by
           rw [HGR.out] at hg
           rcases hg with hg | hg
           ·exact HG1n.out g hg
           ·have h1 := Nat.le_trans HKW.out.size (HK1'.out.trans_no HK7.out).size
            omega
          have HK912 := Lib.hid (show Kp F w w12 from (HKW8.out.trans_same HN9.out.2.2).trans HK12.out fun i hi hg => by have := hGRn i hg; omega)
          have HD12 := Lib.hid (show RAt w12 r q3.2 F9 from HN9.out.1.keep HK12.out hGRF)
          have HXX := Lib.hid (show XpM w w12 r x P F F9 (RLFP x (.slice a1 (sn + 1) c1) (.slice a2 (en + rn) c2) (E ++ Q)) q3.2 st2 from ⟨HD12.out, HX12.out, fun g hf hg => by
           rcases HF12.out g hg with h1 | h1
           ·exact hGRF g hf h1
           ·have := HN9.out.1.lt g hf
            omega, fun g hg => (HN9.out.2.1 g hg).imp id fun h => Nat.le_trans HKW8.out.size h, fun g hg => by
           rcases HF12.out g hg with h1 | h1
           ·exact hGRn g h1
           ·have := HKW8.out.size
            omega, HK912.out⟩)
          clear hGRF hGRn
          go_upto_region 33 with (at_builtin; refine wpList_append_run rfl rfl rfl rfl HA1.out ?_)
          rw [← HW10.out]
          go_upto_region 34 with (at_builtin; refine wpList_append_run rfl rfl rfl rfl HA2.out ?_)
          rw [← HW12.out]
          clear qx3 qx3A qx3f qlA q2B q2C q2f qlC qlB
          by_cases hqz : qc = 0
          ·subst hqz
           have HO := Lib.hid (openS_go (s' := q3.2) HZ.out (by rw [HEND.out, HQE.out]))
           have HNO := Lib.hid (show (∀ z ∈ st2.segs, z.1 ≤ st2.ents.length + 1) ∧ st2.dead = false from by
            have h1 := scan_no s.files P (M.take j3) st0 (fun z hz => by cases hz)
            rw [HSC.out] at h1
            have h2 := take_no (l := s.files) (P := P) (st := st1) (y := y) h1.1
            rw [HTK.out] at h2
            exact ⟨h2.1, h2.2.trans h1.2⟩)
           have HSEGB := Lib.hid (show st2.segs.length ≤ 1000000 ∧ st2.ents.length ≤ 100000 from by
            have h0 : M.take k = M := by rw [HKM.out]; exact List.take_length
            have h1 := scan_segs s.files P M st0
            have h5 := HBS.out k
            have h6 := HSB.out k
            have hz2 := HZ.out
            rw [← HME.out] at hz2
            rw [h0] at h5 h6
            rw [hz2] at h1 h5
            have h4 : st2.segs.length ≤ 0 + M.length := h1
            have h7 : 12 * st2.ents.length ≤ 12 * 0 + sumR s.files M := h5
            have h8 := HKM.out
            omega)
           clear hqc hcwy hmg3
           go_upto_region 36 with fail
           obtain ⟨st', hst'⟩ : ∃ st', st' = st2 := ⟨_, rfl⟩
           obtain ⟨s', hs'⟩ : ∃ s', s' = q3.2 := ⟨_, rfl⟩
           obtain ⟨Gx, hGx⟩ : ∃ Gx : Nat → Prop, Gx = RLFP x (.slice a1 (sn + 1) c1) (.slice a2 (en + rn) c2) (E ++ Q) := ⟨_, rfl⟩
           obtain ⟨w9, hw9⟩ : ∃ W, W = w12 := ⟨_, rfl⟩
           have HXM : Hid (XpM w w9 r x P F F9 Gx s' st') := by rw [hw9, hGx, hs', hst']; exact HXX
           rw [← hst'] at HO HNO HSEGB
           rw [← hs'] at HO
           rw [← hw9]
           clear hst' hs' hGx hw9 HXX HD12 HK912 HX12 HF12 HK12
           have hM := HXM.out
           obtain ⟨sv, ev, E, hC, hE, hLF, hGl⟩ := hM.xl
           obtain ⟨sa, sc, rfl, hsc, hsr⟩ := hC.segs.rd
           obtain ⟨ea, ec, rfl, hec, _⟩ := hC.ents.rd
           obtain ⟨sn, hsn⟩ : ∃ sn, sn = (st'.segs.map (·.1)).length := ⟨_, rfl⟩
           obtain ⟨en, hen⟩ : ∃ en, en = E.length := ⟨_, rfl⟩
           have hsnb : sn ≤ 1000000 := by rw [hsn, List.length_map]; exact HSEGB.out.1
           have henb : en ≤ 100000 := by
            have h1 := HSEGB.out.2
            rw [hE, List.length_map] at h1
            omega
           have hcF : ∀ W, Kp F9 w9 W → RLogC W x r P (.slice sa sn sc) (.slice ea en ec) (st'.segs.map (·.1)) E 0 false := fun W hW => by
            have h1 := hC.keep hW (fun g hg hf => hM.sep g hf (hLF g hg))
            rw [← hsn, ← hen] at h1
            exact h1
           have HSR := Lib.hid hsr
           have HSN := Lib.hid hsn
           have HEN := Lib.hid hen
           have HE := Lib.hid hE
           have HC := Lib.hid hC
           have HCF := Lib.hid hcF
           have HLF := Lib.hid hLF
           have hl9 := get_lt hC.cell
           clear hM hsr hsn hen hE hC hLF hGl hsc hec hcF
           go_wp2_with fail
           go_loopw [21] (fun s21 wr => ∃ i : Nat, i ≤ sn ∧ s21 = .int .i64 (i : Int) ∧ Hid (XyR w9 wr r s' F9 (st'.segs.map fun x => bnm P x.1) i)) (fun s21 _ => sn - (intOf s21).toNat)
           case atStart => exact ⟨0, by omega, rfl, Lib.hid ⟨s', F9, by simp [syAll], HXM.out.disk, Foot.refl _ _, Kp.refl _ _⟩⟩
           case round =>
            obtain ⟨i, hi, rfl, HR⟩ := hrel
            obtain ⟨s3, F3, hsy, hD3, hF3, hk3⟩ := HR.out
            clear HR
            have hCr := HCF.out wr hk3
            have hlr := get_lt hCr.cell
            have q3r := hCr.cells.2.2.2.1 wr (Kp.refl _ _)
            have q2r := hCr.cells.2.2.1 wr (Kp.refl _ _)
            have q4r := hCr.cells.2.2.2.2.1 wr (Kp.refl _ _)
            have qfr := hCr.cells.2.2.2.2.2.2 wr (Kp.refl _ _) 4
            have HCR := Lib.hid hCr
            have HH := Lib.hid (And.intro hsy (And.intro hD3 (And.intro hF3 hk3)))
            clear hCr
            by_cases hlt9 : i < sn
            ·have hiS : i < st'.segs.length := by have := HSN.out; rw [List.length_map] at this; omega
             obtain ⟨sg, soff, rfl, hsc⟩ := rd_chunk numC_len (by decide) HSR.out (k := i) (by rw [← HSN.out]; exact hlt9)
             have hsgF : ¬ F9 sg := fun hf => HXM.out.sep sg hf (HLF.out sg (.inr (.inl rfl)))
             have hg0 := hsc w9 (Kp.refl _ _) 0 _ rfl
             rw [Nat.add_zero, Nat.mul_one, List.getElem_map] at hg0
             have hsgl := World.block_lt_of_cell? w9 _ hg0
             obtain ⟨zi, hzi⟩ : ∃ zi, zi = (st'.segs[i]'hiS).1 := ⟨_, rfl⟩
             rw [← hzi] at hg0
             have hzb : zi < 1000000 := by
              have h1 := HNO.out.1 (st'.segs[i]'hiS) (List.getElem_mem _)
              have h2 := HSEGB.out.2
              omega
             have hr0 := (hk3.cell (p := ⟨sg, soff + i, none⟩) hsgl hsgF).trans hg0
             have hsgr := hk3.lt hsgl
             have HAN := Lib.hid (show ∃ h : i < (st'.segs.map fun x => bnm P x.1).length, (st'.segs.map fun x => bnm P x.1)[i] = bnm P zi from ⟨by rw [List.length_map]; exact hiS, by rw [List.getElem_map, hzi]⟩)
             have hnmz := rName_bnm P (by omega) zi hzb wr
             have hrsy := fun W (hW : Kp No wr W) => rSync_any W r s3 F3 (hD3.keep_no hW) (bnm P zi)
             have HRSY := Lib.hid hrsy
             clear hsc hg0 hzi hzb hsy hD3 hF3 hk3 hrsy hiS
             go_wp2_with fail
             with_reducible refine hnmz.mono ?_
             rintro e w13 ⟨rfl, hk13⟩
             clear hnmz
             have hc := HRSY.out w13 hk13
             clear HRSY
             obtain ⟨q5, hq5⟩ : ∃ q, q = syS s3 (bnm P zi) := ⟨_, rfl⟩
             have hqc := sy_code s3 (bnm P zi)
             rw [← hq5] at hc hqc
             have HQ5 := Lib.hid hq5
             clear hq5
             go_wp2_with fail
             with_reducible refine hc.mono ?_
             rintro e w14 ⟨rfl, F14, hD14, hF14, hk14⟩
             clear hc
             obtain ⟨qc, hqe⟩ : ∃ qc, qc = q5.1 := ⟨_, rfl⟩
             rw [← hqe] at hqc ⊢
             have HQE5 := Lib.hid hqe
             have HN14 := Lib.hid (show RAt w14 r q5.2 F14 ∧ Foot F9 F14 w9 ∧ Kp F9 w9 w14 from ⟨hD14, HH.out.2.2.1.trans (fun g hg => (hF14 g hg).imp id fun h => Nat.le_trans hk13.size h) HH.out.2.2.2.size, kp_foot (HH.out.2.2.2.trans_no hk13) HH.out.2.2.1 hk14⟩)
             clear hD14 hF14 hk14 hqe hk13
             by_cases hqz : qc = 0
             ·subst hqz
              have HNEW := Lib.hid (show XyR w9 w14 r s' F9 (st'.segs.map fun x => bnm P x.1) (i + 1) from by
               obtain ⟨hAi, hAn⟩ := HAN.out
               refine ⟨q5.2, F14, ?_, HN14.out⟩
               have := syAll_next hAi HH.out.1 (by rw [hAn, ← HQ5.out, ← HQE5.out])
               rw [hAn, ← HQ5.out] at this
               exact this)
              clear hr0 hsgr q3r q2r q4r qfr hqc
              go_wp2_with fail
              go_roundw
              case rel => exact ⟨i + 1, by omega, by push_cast; rfl, HNEW⟩
              case measure => simp [intOf]; omega
             ·have e5 : (qc == (0 : Int)) = false := by rw [beq_eq_false_iff_ne]; exact hqz
              have e6 : (qc != (0 : Int)) = true := by rw [bne, e5]; rfl
              have HFIN := Lib.hid (show OpxP w r P F (openS P s N) (.returned (.tuple #[.pointer none, .int .i64 qc])) w14 from by
               obtain ⟨hAi, hAn⟩ := HAN.out
               have hfl := syAll_fail hAi HH.out.1 (by rw [hAn, ← HQ5.out, ← HQE5.out]; exact hqz)
               rw [hAn, ← HQ5.out] at hfl
               rw [HO.out, hfl]
               exact .inr ⟨by rw [← HQE5.out]; exact hqz, F14, by rw [HQE5.out], HN14.out.1, HXM.out.foot.trans HN14.out.2.1 HXM.out.kp.size, kp_foot HXM.out.kp HXM.out.foot HN14.out.2.2⟩)
              clear hr0 hsgr q3r q2r q4r qfr hqc
              go_wp2_with fail
              go_ret2
              rw [← HNN.out]
              exact HFIN.out
            ·have hin : i = sn := by omega
             have HFIN := Lib.hid (show OpxP w r P F (openS P s N) (.returned (.tuple #[.pointer (some ⟨x, 0, none⟩), .int .i64 0])) (wr.setCell ⟨x, 4, none⟩ (.int .i64 ((en + 1 : Nat) : Int))) from by
              have hcl := set_at HCR.out.cell 4 (.int .i64 ((en + 1 : Nat) : Int))
              have hkx : Kp (One x) wr (wr.setCell ⟨x, 4, none⟩ (.int .i64 ((en + 1 : Nat) : Int))) := (Kp.refl (One x) _).setCell (p := ⟨x, 4, none⟩) (.inl rfl) _
              have hC2 := HCR.out.turn (synced' := en + 1) (dead' := false) hkx (by simpa using hcl)
              have hsyA : syAll s' (st'.segs.map fun x => bnm P x.1) = (0, s3) := by
               have h1 := HH.out.1
               have h2 : sn = (st'.segs.map fun x => bnm P x.1).length := by rw [HSN.out]; simp
               rw [hin, h2, List.take_length] at h1
               exact h1
              have hxF : ∀ g, F3 g → ¬ One x g := fun g hg e => by
               have h1 : g = x := e
               rcases HH.out.2.2.1 g hg with h2 | h2
               ·exact HXM.out.sep g h2 (HLF.out g (.inl h1))
               ·omega
              have hEl : st'.ents.length = en := by rw [HE.out, List.length_map, HEN.out]
              rw [HO.out, hsyA, hEl]
              refine .inl ⟨rfl, x, F3, RLFP x (.slice sa sn sc) (.slice ea en ec) E, rfl, ⟨HH.out.2.1.keep hkx hxF, ⟨_, _, E, ?_, HE.out, fun _ y => y, hC2.lt⟩, fun g hf hg => ?_⟩, HXM.out.foot.trans HH.out.2.2.1 HXM.out.kp.size, fun g hg => HXM.out.new g (HLF.out g (by rw [← HSN.out, ← HEN.out]; exact hg)), ?_⟩
              ·show RLogC _ x r P _ _ (st'.segs.map (·.1)) E (en + 1) st'.dead
               rw [HNO.out.2]
               exact hC2
              ·have hg' : RLFP x (.slice sa (st'.segs.map (·.1)).length sc) (.slice ea E.length ec) E g := by rw [← HSN.out, ← HEN.out]; exact hg
               rcases HH.out.2.2.1 g hf with h1 | h1
               ·exact HXM.out.sep g h1 (HLF.out g hg')
               ·have := HC.out.lt g hg'
                omega
              ·refine (kp_foot HXM.out.kp HXM.out.foot HH.out.2.2.2).trans hkx fun i hi e => ?_
               have h1 : i = x := e
               have h2 := HX0.out
               omega)
             clear hsy hD3 hF3 hk3
             go_wp2_with fail
             go_ret2
             rw [← HNN.out]
             have := HFIN.out
             push_cast at this
             exact this
          ·have e3 : (qc == (0 : Int)) = false := by rw [beq_eq_false_iff_ne]; exact hqz
           have e4 : (qc != (0 : Int)) = true := by rw [bne, e3]; rfl
           have HFIN := Lib.hid (show OpxP w r P F (openS P s N) (.returned (.tuple #[.pointer none, .int .i64 qc])) w12 from by
            have h5 : (end0 P s st2.segs (y :: M.drop (j3 + 1))).1 ≠ 0 := by rw [HEND.out, ← HQE.out]; exact hqz
            rw [openS_no HZ.out h5, HEND.out]
            refine .inr ⟨by rw [← HQE.out]; exact hqz, F9, by rw [HQE.out], HD12.out, fun g hg => (HN9.out.2.1 g hg).imp id fun h => Nat.le_trans HKW8.out.size h, HK912.out⟩)
           clear hqc hcwy hmg3
           go_wp2_with fail
           go_ret2
           rw [← HNN.out]
           exact HFIN.out
     ·have HTK := Lib.hid (show takeS s.files P st1 y = (st1, false) from take_nothing (.inl (fun h => hkx (((HKY.out _).1 h).trans HNX.out.symm))))
      have HEO := Lib.hid (show ∀ s', endOne P s' st1.segs y = rmS s' y from fun s' => by
       have h1 := endOne_ref (l := s.files) (P := P) (st := st1) (x := y) (by
        intro z hz hzy
        have h1 := scan_names s.files P (M.take j2) st0 z (by rw [HSC.out]; exact hz)
        rcases h1 with h1 | h1
        ·cases h1
        ·have h2 := HMD.out
         rw [← List.take_append_drop j2 M, HDR.out, List.nodup_append] at h2
         exact h2.2.2 _ h1 y (List.mem_cons_self ..) hzy
        ) (by rw [HTK.out]) s'
       rw [HTK.out] at h1
       rw [h1, if_pos (.inl (fun h => hkx (((HKY.out _).1 h).trans HNX.out.symm)))])
      have k1 : ((kn : Int) == (nx : Int)) = false := by rw [beq_eq_false_iff_ne]; omega
      have k2 : ((kn : Int) != (nx : Int)) = true := by rw [bne, k1]; rfl
      clear hkx
      have HZ := Lib.hid (show scanS s.files P st0 (N.filter (isSegN P)) = (st1, y :: M.drop (j2 + 1)) from by
       rw [← HME.out]
       have h1 := scan_stop (r := M.drop (j2 + 1)) HSC.out (by rw [HTK.out])
       rw [← HDR.out, List.take_append_drop, HTK.out] at h1
       rw [h1, HDR.out])
      have HXL8 := Lib.hid (HL1.out.keep_no HK8.out)
      have HD8 := Lib.hid ((HD5.out.keep HK1'.out HFL.out).keep_no HK8.out)
      have HKW8 := Lib.hid (show Kp F w w8 from (Kp.of_no HKW.out).trans (HK1'.out.trans_no HK8.out) fun i hi e => by
       have h1 : i = x := e
       have h2 := HX0.out
       omega)
      have hmgF : ¬ F mg := (HML.out mg rfl).2.2
      have HG1n := Lib.hid (show ∀ g, G1 g → w.heap.size ≤ g from fun g hg => by
       rcases HG1.out g hg with h1 | h1
       ·rw [show g = x from h1, HX0.out]
        exact Nat.le_refl _
       ·exact Nat.le_trans HKW.out.size h1)
      have HMC8 := Lib.hid (show ∀ i (hi : i < M.length), w8.cell? ⟨mg, moff + i, none⟩ = some (.string M[i]) from fun i hi => by
       obtain ⟨g', o', e', _, _, hc'⟩ := HMO.out.rd'.at_ (i := i) (u := .string M[i]) (by simp [hi])
       injection e' with e'
       injection e' with e1 e2
       subst e1
       rw [e2]
       have h0 := (HK1'.out.trans_no HK8.out).cell (p := ⟨mg, o' + i, none⟩) hmg (HML.out mg rfl).1
       exact h0.trans hc')
      clear hcw8
      go_upto_region 22 with fail
      go_wp2_with fail
      go_loopw [18] (fun s18 wr => ∃ j3 : Nat, j2 ≤ j3 ∧ j3 < k ∧ s18 = .int .i64 (j3 : Int) ∧ Hid (XnR w8 wr r s F M j3)) (fun s18 _ => (intOf s18).toNat)
      case atStart => exact ⟨k - 1, by omega, by omega, by rw [show ((k - 1 : Nat) : Int) = (k : Int) - 1 by omega], Lib.hid ⟨s, F, by rw [List.drop_of_length_le (by rw [← HKM.out]; omega)]; rfl, HD8.out, Foot.refl _ _, Kp.refl _ _⟩⟩
      case round =>
       obtain ⟨j3, hj23, hj3, rfl, HR⟩ := hrel
       obtain ⟨s3, F3, hrm, hD3, hF3, hk3⟩ := HR.out
       have hmg3 := hk3.lt hmg8
       by_cases hlt3 : j2 < j3
       ·have hjM3 : j3 < M.length := by rw [← HKM.out]; exact hj3
        have hcw3 := (hk3.cell (p := ⟨mg, moff + j3, none⟩) hmg8 hmgF).trans (HMC8.out j3 hjM3)
        obtain ⟨y3, hy3⟩ : ∃ y3, y3 = M[j3] := ⟨_, rfl⟩
        have hgy : M[j3]? = some y3 := by rw [hy3]; exact List.getElem?_eq_getElem _
        rw [← hy3] at hcw3
        have hrr := rRemove_any wr r s3 F3 hD3 y3
        obtain ⟨q3, hq3⟩ : ∃ q, q = rmS s3 y3 := ⟨_, rfl⟩
        have hqc := rm_code s3 y3
        rw [← hq3] at hrr hqc
        have HQ3 := Lib.hid (And.intro hq3 (And.intro hgy hrm))
        have HF3 := Lib.hid (And.intro hF3 hk3)
        clear hq3 hgy hrm hy3 hD3 hF3 hk3 HR
        go_wp2_with fail
        with_reducible refine hrr.mono ?_
        rintro e w9 ⟨rfl, F9, hD9, hF9, hk9⟩
        clear hrr
        obtain ⟨qc, hqe⟩ : ∃ qc, qc = q3.1 := ⟨_, rfl⟩
        rw [← hqe] at hqc ⊢
        have HQE := Lib.hid hqe
        have HN9 := Lib.hid (show RAt w9 r q3.2 F9 ∧ Foot F F9 w8 ∧ Kp F w8 w9 from ⟨hD9, HF3.out.1.trans hF9 HF3.out.2.size, kp_foot HF3.out.2 HF3.out.1 hk9⟩)
        clear hD9 hF9 hk9 hqe
        by_cases hqz : qc = 0
        ·subst hqz
         obtain ⟨j4, rfl⟩ : ∃ j4, j3 = j4 + 1 := ⟨j3 - 1, by omega⟩
         have HNEW := Lib.hid (show XnR w8 w9 r s F M j4 from ⟨q3.2, F9, by
          have := rm_next HQ3.out.2.2 HQ3.out.2.1 (by rw [← HQ3.out.1, ← HQE.out])
          rw [← HQ3.out.1] at this
          exact this, HN9.out⟩)
         clear hcw3 hmg3 hqc
         go_wp2_with fail
         go_roundw
         case rel => exact ⟨j4, by omega, by omega, by first | rfl | (push_cast; congr 1; omega), HNEW⟩
         case measure => first | (simp [intOf]; done) | (simp [intOf]; omega)
        ·have e3 : (qc == (0 : Int)) = false := by rw [beq_eq_false_iff_ne]; exact hqz
         have e4 : (qc != (0 : Int)) = true := by rw [bne, e3]; rfl
         have HFIN := Lib.hid (show OpxP w r P F (openS P s N) (.returned (.tuple #[.pointer none, .int .i64 qc])) w9 from by
          have h1 : (rmS s3 y3).1 ≠ 0 := by rw [← HQ3.out.1, ← HQE.out]; exact hqz
          obtain ⟨i4, hi4⟩ : ∃ i4, j3 = j2 + 1 + i4 := ⟨j3 - (j2 + 1), by omega⟩
          have h2 : rmAll s (M.drop (j2 + 1)).reverse = rmS s3 y3 := by
           have h3 := rm_fail (x := y) (r := M.drop (j2 + 1)) (j := i4 + 1) (s := s) (s' := s3) (y := y3) (by
            rw [← HDR.out, List.drop_drop]
            rw [show j2 + (i4 + 1 + 1) = j3 + 1 by omega]
            exact HQ3.out.2.2) (by
            rw [← HDR.out, List.getElem?_drop, show j2 + (i4 + 1) = j3 by omega]
            exact HQ3.out.2.1) (by omega) h1
           exact h3
          have h4 : end0 P s (st1).segs (y :: M.drop (j2 + 1)) = q3 := by
           show endS P s (st1).segs y (M.drop (j2 + 1)) = q3
           rw [endS_fail h2 h1, HQ3.out.1]
          have h5 : (end0 P s (st1).segs (y :: M.drop (j2 + 1))).1 ≠ 0 := by rw [h4, ← HQE.out]; exact hqz
          rw [openS_no HZ.out h5, h4]
          refine .inr ⟨by rw [← HQE.out]; exact hqz, F9, by rw [HQE.out], HN9.out.1, fun g hg => (HN9.out.2.1 g hg).imp id fun h => Nat.le_trans HKW8.out.size h, HKW8.out.trans_same HN9.out.2.2⟩)
         clear hcw3 hmg3 hqc
         go_wp2_with fail
         go_ret2
         rw [← HNN.out]
         exact HFIN.out
       ·have hj32 : j3 = j2 := by omega
        subst hj32
        have HRM3 := Lib.hid (And.intro hrm (And.intro hD3 (And.intro hF3 hk3)))
        have hcwy : wr.cell? ⟨mg, moff + j3, none⟩ = some (.string y) := by
         have h1 := (hk3.cell (p := ⟨mg, moff + j3, none⟩) hmg8 hmgF).trans (HMC8.out j3 hjM)
         rw [h1, ← HY.out]
        clear hrm hD3 hF3 hk3 HR
        go_upto_region 28 with fail
        skip
        have hrr := rRemove_any wr r s3 F3 HRM3.out.2.1 y
        obtain ⟨q3, hq3⟩ : ∃ q, q = rmS s3 y := ⟨_, rfl⟩
        have hqc := rm_code s3 y
        rw [← hq3] at hrr hqc
        have hend : end0 P s st1.segs (y :: M.drop (j3 + 1)) = q3 := by
         show endS P s st1.segs y (M.drop (j3 + 1)) = q3
         rw [endS_ok HRM3.out.1, HEO.out, hq3]
        have HEND := Lib.hid hend
        clear hq3 hend
        go_wp2_with fail
        with_reducible refine hrr.mono ?_
        rintro e w9 ⟨rfl, F9, hD9, hF9, hk9⟩
        clear hrr
        obtain ⟨qc, hqe⟩ : ∃ qc, qc = q3.1 := ⟨_, rfl⟩
        rw [← hqe] at hqc ⊢
        have HQE := Lib.hid hqe
        have HN9 := Lib.hid (show RAt w9 r q3.2 F9 ∧ Foot F F9 w8 ∧ Kp F w8 w9 from ⟨hD9, HRM3.out.2.2.1.trans hF9 HRM3.out.2.2.2.size, kp_foot HRM3.out.2.2.2 HRM3.out.2.2.1 hk9⟩)
        clear hD9 hF9 hk9 hqe
        by_cases hqz : qc = 0
        ·subst hqz
         have hFG1 : ∀ g, F g → ¬ G1 g := fun g hf hg => by
          rcases HG1.out g hg with h1 | h1
          ·exact HFL.out g hf h1
          ·have := HD5.out.lt g hf
           omega
         have HXM := Lib.hid (show XpM w w9 r x P F F9 G1 q3.2 st1 from ⟨HN9.out.1, HXL8.out.keep HN9.out.2.2 (fun g hg hf => hFG1 g hf hg), fun g hf hg => by
          rcases HN9.out.2.1 g hf with h1 | h1
          ·exact hFG1 g h1 hg
          ·have := HXL8.out.lt g hg
           omega, fun g hg => (HN9.out.2.1 g hg).imp id fun h => Nat.le_trans HKW8.out.size h, HG1n.out, HKW8.out.trans_same HN9.out.2.2⟩)
         have HO := Lib.hid (openS_go (s' := q3.2) HZ.out (by rw [HEND.out, HQE.out]))
         have HNO := Lib.hid (show (∀ z ∈ st1.segs, z.1 ≤ st1.ents.length + 1) ∧ st1.dead = false from by
          have := scan_no s.files P (M.take j3) st0 (fun z hz => by cases hz)
          rw [HSC.out] at this
          exact this)
         have hsegb : st1.segs.length ≤ 1000000 ∧ st1.ents.length ≤ 100000 := by
          have h1 := scan_segs s.files P (M.take j3) st0
          rw [HSC.out, List.length_take] at h1
          have h4 : st1.segs.length ≤ 0 + min j3 M.length := h1
          have h5 := HBS.out j3
          have h6 := HSB.out j3
          rw [HSC.out] at h5
          have h7 : 12 * st1.ents.length ≤ 12 * 0 + sumR s.files (M.take j3) := h5
          omega
         have HSEGB := Lib.hid hsegb
         clear hqc hcwy hmg3 hFG1 hsegb
         go_upto_region 36 with fail
         obtain ⟨st', hst'⟩ : ∃ st', st' = st1 := ⟨_, rfl⟩
         obtain ⟨s', hs'⟩ : ∃ s', s' = q3.2 := ⟨_, rfl⟩
         rw [← hst'] at HO HXM HNO HSEGB
         rw [← hs'] at HO HXM
         clear hst' hs'
         have hM := HXM.out
         obtain ⟨sv, ev, E, hC, hE, hLF, hGl⟩ := hM.xl
         obtain ⟨sa, sc, rfl, hsc, hsr⟩ := hC.segs.rd
         obtain ⟨ea, ec, rfl, hec, _⟩ := hC.ents.rd
         obtain ⟨sn, hsn⟩ : ∃ sn, sn = (st'.segs.map (·.1)).length := ⟨_, rfl⟩
         obtain ⟨en, hen⟩ : ∃ en, en = E.length := ⟨_, rfl⟩
         have hsnb : sn ≤ 1000000 := by rw [hsn, List.length_map]; exact HSEGB.out.1
         have henb : en ≤ 100000 := by
          have h1 := HSEGB.out.2
          rw [hE, List.length_map] at h1
          omega
         have hcF : ∀ W, Kp F9 w9 W → RLogC W x r P (.slice sa sn sc) (.slice ea en ec) (st'.segs.map (·.1)) E 0 false := fun W hW => by
          have h1 := hC.keep hW (fun g hg hf => hM.sep g hf (hLF g hg))
          rw [← hsn, ← hen] at h1
          exact h1
         have HSR := Lib.hid hsr
         have HSN := Lib.hid hsn
         have HEN := Lib.hid hen
         have HE := Lib.hid hE
         have HC := Lib.hid hC
         have HCF := Lib.hid hcF
         have HLF := Lib.hid hLF
         have hl9 := get_lt hC.cell
         clear hM hsr hsn hen hE hC hLF hGl hsc hec hcF
         go_wp2_with fail
         go_loopw [21] (fun s21 wr => ∃ i : Nat, i ≤ sn ∧ s21 = .int .i64 (i : Int) ∧ Hid (XyR w9 wr r s' F9 (st'.segs.map fun x => bnm P x.1) i)) (fun s21 _ => sn - (intOf s21).toNat)
         case atStart => exact ⟨0, by omega, rfl, Lib.hid ⟨s', F9, by simp [syAll], HXM.out.disk, Foot.refl _ _, Kp.refl _ _⟩⟩
         case round =>
          obtain ⟨i, hi, rfl, HR⟩ := hrel
          obtain ⟨s3, F3, hsy, hD3, hF3, hk3⟩ := HR.out
          clear HR
          have hCr := HCF.out wr hk3
          have hlr := get_lt hCr.cell
          have q3r := hCr.cells.2.2.2.1 wr (Kp.refl _ _)
          have q2r := hCr.cells.2.2.1 wr (Kp.refl _ _)
          have q4r := hCr.cells.2.2.2.2.1 wr (Kp.refl _ _)
          have qfr := hCr.cells.2.2.2.2.2.2 wr (Kp.refl _ _) 4
          have HCR := Lib.hid hCr
          have HH := Lib.hid (And.intro hsy (And.intro hD3 (And.intro hF3 hk3)))
          clear hCr
          by_cases hlt9 : i < sn
          ·have hiS : i < st'.segs.length := by have := HSN.out; rw [List.length_map] at this; omega
           obtain ⟨sg, soff, rfl, hsc⟩ := rd_chunk numC_len (by decide) HSR.out (k := i) (by rw [← HSN.out]; exact hlt9)
           have hsgF : ¬ F9 sg := fun hf => HXM.out.sep sg hf (HLF.out sg (.inr (.inl rfl)))
           have hg0 := hsc w9 (Kp.refl _ _) 0 _ rfl
           rw [Nat.add_zero, Nat.mul_one, List.getElem_map] at hg0
           have hsgl := World.block_lt_of_cell? w9 _ hg0
           obtain ⟨zi, hzi⟩ : ∃ zi, zi = (st'.segs[i]'hiS).1 := ⟨_, rfl⟩
           rw [← hzi] at hg0
           have hzb : zi < 1000000 := by
            have h1 := HNO.out.1 (st'.segs[i]'hiS) (List.getElem_mem _)
            have h2 := HSEGB.out.2
            omega
           have hr0 := (hk3.cell (p := ⟨sg, soff + i, none⟩) hsgl hsgF).trans hg0
           have hsgr := hk3.lt hsgl
           have HAN := Lib.hid (show ∃ h : i < (st'.segs.map fun x => bnm P x.1).length, (st'.segs.map fun x => bnm P x.1)[i] = bnm P zi from ⟨by rw [List.length_map]; exact hiS, by rw [List.getElem_map, hzi]⟩)
           have hnmz := rName_bnm P (by omega) zi hzb wr
           have hrsy := fun W (hW : Kp No wr W) => rSync_any W r s3 F3 (hD3.keep_no hW) (bnm P zi)
           have HRSY := Lib.hid hrsy
           clear hsc hg0 hzi hzb hsy hD3 hF3 hk3 hrsy hiS
           go_wp2_with fail
           with_reducible refine hnmz.mono ?_
           rintro e w13 ⟨rfl, hk13⟩
           clear hnmz
           have hc := HRSY.out w13 hk13
           clear HRSY
           obtain ⟨q5, hq5⟩ : ∃ q, q = syS s3 (bnm P zi) := ⟨_, rfl⟩
           have hqc := sy_code s3 (bnm P zi)
           rw [← hq5] at hc hqc
           have HQ5 := Lib.hid hq5
           clear hq5
           go_wp2_with fail
           with_reducible refine hc.mono ?_
           rintro e w14 ⟨rfl, F14, hD14, hF14, hk14⟩
           clear hc
           obtain ⟨qc, hqe⟩ : ∃ qc, qc = q5.1 := ⟨_, rfl⟩
           rw [← hqe] at hqc ⊢
           have HQE5 := Lib.hid hqe
           have HN14 := Lib.hid (show RAt w14 r q5.2 F14 ∧ Foot F9 F14 w9 ∧ Kp F9 w9 w14 from ⟨hD14, HH.out.2.2.1.trans (fun g hg => (hF14 g hg).imp id fun h => Nat.le_trans hk13.size h) HH.out.2.2.2.size, kp_foot (HH.out.2.2.2.trans_no hk13) HH.out.2.2.1 hk14⟩)
           clear hD14 hF14 hk14 hqe hk13
           by_cases hqz : qc = 0
           ·subst hqz
            have HNEW := Lib.hid (show XyR w9 w14 r s' F9 (st'.segs.map fun x => bnm P x.1) (i + 1) from by
             obtain ⟨hAi, hAn⟩ := HAN.out
             refine ⟨q5.2, F14, ?_, HN14.out⟩
             have := syAll_next hAi HH.out.1 (by rw [hAn, ← HQ5.out, ← HQE5.out])
             rw [hAn, ← HQ5.out] at this
             exact this)
            clear hr0 hsgr q3r q2r q4r qfr hqc
            go_wp2_with fail
            go_roundw
            case rel => exact ⟨i + 1, by omega, by push_cast; rfl, HNEW⟩
            case measure => simp [intOf]; omega
           ·have e5 : (qc == (0 : Int)) = false := by rw [beq_eq_false_iff_ne]; exact hqz
            have e6 : (qc != (0 : Int)) = true := by rw [bne, e5]; rfl
            have HFIN := Lib.hid (show OpxP w r P F (openS P s N) (.returned (.tuple #[.pointer none, .int .i64 qc])) w14 from by
             obtain ⟨hAi, hAn⟩ := HAN.out
             have hfl := syAll_fail hAi HH.out.1 (by rw [hAn, ← HQ5.out, ← HQE5.out]; exact hqz)
             rw [hAn, ← HQ5.out] at hfl
             rw [HO.out, hfl]
             exact .inr ⟨by rw [← HQE5.out]; exact hqz, F14, by rw [HQE5.out], HN14.out.1, HXM.out.foot.trans HN14.out.2.1 HXM.out.kp.size, kp_foot HXM.out.kp HXM.out.foot HN14.out.2.2⟩)
            clear hr0 hsgr q3r q2r q4r qfr hqc
            go_wp2_with fail
            go_ret2
            rw [← HNN.out]
            exact HFIN.out
          ·have hin : i = sn := by omega
           have HFIN := Lib.hid (show OpxP w r P F (openS P s N) (.returned (.tuple #[.pointer (some ⟨x, 0, none⟩), .int .i64 0])) (wr.setCell ⟨x, 4, none⟩ (.int .i64 ((en + 1 : Nat) : Int))) from by
            have hcl := set_at HCR.out.cell 4 (.int .i64 ((en + 1 : Nat) : Int))
            have hkx : Kp (One x) wr (wr.setCell ⟨x, 4, none⟩ (.int .i64 ((en + 1 : Nat) : Int))) := (Kp.refl (One x) _).setCell (p := ⟨x, 4, none⟩) (.inl rfl) _
            have hC2 := HCR.out.turn (synced' := en + 1) (dead' := false) hkx (by simpa using hcl)
            have hsyA : syAll s' (st'.segs.map fun x => bnm P x.1) = (0, s3) := by
             have h1 := HH.out.1
             have h2 : sn = (st'.segs.map fun x => bnm P x.1).length := by rw [HSN.out]; simp
             rw [hin, h2, List.take_length] at h1
             exact h1
            have hxF : ∀ g, F3 g → ¬ One x g := fun g hg e => by
             have h1 : g = x := e
             rcases HH.out.2.2.1 g hg with h2 | h2
             ·exact HXM.out.sep g h2 (HLF.out g (.inl h1))
             ·omega
            have hEl : st'.ents.length = en := by rw [HE.out, List.length_map, HEN.out]
            rw [HO.out, hsyA, hEl]
            refine .inl ⟨rfl, x, F3, RLFP x (.slice sa sn sc) (.slice ea en ec) E, rfl, ⟨HH.out.2.1.keep hkx hxF, ⟨_, _, E, ?_, HE.out, fun _ y => y, hC2.lt⟩, fun g hf hg => ?_⟩, HXM.out.foot.trans HH.out.2.2.1 HXM.out.kp.size, fun g hg => HXM.out.new g (HLF.out g (by rw [← HSN.out, ← HEN.out]; exact hg)), ?_⟩
            ·show RLogC _ x r P _ _ (st'.segs.map (·.1)) E (en + 1) st'.dead
             rw [HNO.out.2]
             exact hC2
            ·have hg' : RLFP x (.slice sa (st'.segs.map (·.1)).length sc) (.slice ea E.length ec) E g := by rw [← HSN.out, ← HEN.out]; exact hg
             rcases HH.out.2.2.1 g hf with h1 | h1
             ·exact HXM.out.sep g h1 (HLF.out g hg')
             ·have := HC.out.lt g hg'
              omega
            ·refine (kp_foot HXM.out.kp HXM.out.foot HH.out.2.2.2).trans hkx fun i hi e => ?_
             have h1 : i = x := e
             have h2 := HX0.out
             omega)
           clear hsy hD3 hF3 hk3
           go_wp2_with fail
           go_ret2
           rw [← HNN.out]
           have := HFIN.out
           push_cast at this
           exact this
        ·have e3 : (qc == (0 : Int)) = false := by rw [beq_eq_false_iff_ne]; exact hqz
         have e4 : (qc != (0 : Int)) = true := by rw [bne, e3]; rfl
         have HFIN := Lib.hid (show OpxP w r P F (openS P s N) (.returned (.tuple #[.pointer none, .int .i64 qc])) w9 from by
          have h5 : (end0 P s st1.segs (y :: M.drop (j3 + 1))).1 ≠ 0 := by rw [HEND.out, ← HQE.out]; exact hqz
          rw [openS_no HZ.out h5, HEND.out]
          refine .inr ⟨by rw [← HQE.out]; exact hqz, F9, by rw [HQE.out], HN9.out.1, fun g hg => (HN9.out.2.1 g hg).imp id fun h => Nat.le_trans HKW8.out.size h, HKW8.out.trans_same HN9.out.2.2⟩)
         clear hqc hcwy hmg3
         go_wp2_with fail
         go_ret2
         rw [← HNN.out]
         exact HFIN.out
    ·have hjk : j2 = k := by omega
     have hz : scanS s.files P st0 (N.filter (isSegN P)) = (st1, []) := by
      rw [← HME.out]
      rw [hjk, HKM.out, List.take_length] at hsc
      exact hsc
     have HO := Lib.hid (openS_go (s' := s) hz rfl)
     have HXM := Lib.hid (show XpM w wr r x P F F G1 s st1 from ⟨HD5.out.keep hk1 HFL.out, hL1, fun g hg hg2 => by
      rcases hG1 g hg2 with h1 | h1
      ·exact HFL.out g hg h1
      ·have := HD5.out.lt g hg
       omega, Foot.refl _ _, fun g hg => by
      rcases hG1 g hg with h1 | h1
      ·rw [show g = x from h1, HX0.out]
       exact Nat.le_refl _
      ·exact Nat.le_trans HKW.out.size h1, (Kp.of_no HKW.out).trans hk1 fun i hi e => by
      have h1 : i = x := e
      have h2 := HX0.out
      omega⟩)
     have HNO := Lib.hid (show (∀ z ∈ st1.segs, z.1 ≤ st1.ents.length + 1) ∧ st1.dead = false from by
      have := scan_no s.files P (M.take j2) st0 (fun z hz => by cases hz)
      rw [hsc] at this
      exact this)
     have HSEGB := Lib.hid (show st1.segs.length ≤ 1000000 ∧ st1.ents.length ≤ 100000 from by
      have h1 := scan_segs s.files P (M.take j2) st0
      rw [hsc, List.length_take] at h1
      have h4 : st1.segs.length ≤ 0 + min j2 M.length := h1
      have h5 := HBS.out j2
      have h6 := HSB.out j2
      rw [hsc] at h5
      have h7 : 12 * st1.ents.length ≤ 12 * 0 + sumR s.files (M.take j2) := h5
      omega)
     clear hsc hnxe hL1 hG1 hk1 hz
     go_upto_region 36 with fail
     obtain ⟨st', hst'⟩ : ∃ st', st' = st1 := ⟨_, rfl⟩
     obtain ⟨s', hs'⟩ : ∃ s', s' = s := ⟨_, rfl⟩
     obtain ⟨F9, hF9⟩ : ∃ F9 : Nat → Prop, F9 = F := ⟨_, rfl⟩
     obtain ⟨w9, hw9⟩ : ∃ W, W = wr := ⟨_, rfl⟩
     have HXM : Hid (XpM w w9 r x P F F9 G1 s' st') := by rw [hw9, hF9, hs', hst']; exact HXM
     rw [← hst'] at HO HNO HSEGB
     rw [show syAll s = syAll s' from by rw [hs']] at HO
     rw [← hw9]
     clear hst' hs' hF9 hw9 hlt hj2 hjk
     have hM := HXM.out
     obtain ⟨sv, ev, E, hC, hE, hLF, hGl⟩ := hM.xl
     obtain ⟨sa, sc, rfl, hsc, hsr⟩ := hC.segs.rd
     obtain ⟨ea, ec, rfl, hec, _⟩ := hC.ents.rd
     obtain ⟨sn, hsn⟩ : ∃ sn, sn = (st'.segs.map (·.1)).length := ⟨_, rfl⟩
     obtain ⟨en, hen⟩ : ∃ en, en = E.length := ⟨_, rfl⟩
     have hsnb : sn ≤ 1000000 := by rw [hsn, List.length_map]; exact HSEGB.out.1
     have henb : en ≤ 100000 := by
      have h1 := HSEGB.out.2
      rw [hE, List.length_map] at h1
      omega
     have hcF : ∀ W, Kp F9 w9 W → RLogC W x r P (.slice sa sn sc) (.slice ea en ec) (st'.segs.map (·.1)) E 0 false := fun W hW => by
      have h1 := hC.keep hW (fun g hg hf => hM.sep g hf (hLF g hg))
      rw [← hsn, ← hen] at h1
      exact h1
     have HSR := Lib.hid hsr
     have HSN := Lib.hid hsn
     have HEN := Lib.hid hen
     have HE := Lib.hid hE
     have HC := Lib.hid hC
     have HCF := Lib.hid hcF
     have HLF := Lib.hid hLF
     have hl9 := get_lt hC.cell
     clear hM hsr hsn hen hE hC hLF hGl hsc hec hcF
     go_wp2_with fail
     go_loopw [21] (fun s21 wr => ∃ i : Nat, i ≤ sn ∧ s21 = .int .i64 (i : Int) ∧ Hid (XyR w9 wr r s' F9 (st'.segs.map fun x => bnm P x.1) i)) (fun s21 _ => sn - (intOf s21).toNat)
     case atStart => exact ⟨0, by omega, rfl, Lib.hid ⟨s', F9, by simp [syAll], HXM.out.disk, Foot.refl _ _, Kp.refl _ _⟩⟩
     case round =>
      obtain ⟨i, hi, rfl, HR⟩ := hrel
      obtain ⟨s3, F3, hsy, hD3, hF3, hk3⟩ := HR.out
      clear HR
      have hCr := HCF.out wr hk3
      have hlr := get_lt hCr.cell
      have q3r := hCr.cells.2.2.2.1 wr (Kp.refl _ _)
      have q2r := hCr.cells.2.2.1 wr (Kp.refl _ _)
      have q4r := hCr.cells.2.2.2.2.1 wr (Kp.refl _ _)
      have qfr := hCr.cells.2.2.2.2.2.2 wr (Kp.refl _ _) 4
      have HCR := Lib.hid hCr
      have HH := Lib.hid (And.intro hsy (And.intro hD3 (And.intro hF3 hk3)))
      clear hCr
      by_cases hlt9 : i < sn
      ·have hiS : i < st'.segs.length := by have := HSN.out; rw [List.length_map] at this; omega
       obtain ⟨sg, soff, rfl, hsc⟩ := rd_chunk numC_len (by decide) HSR.out (k := i) (by rw [← HSN.out]; exact hlt9)
       have hsgF : ¬ F9 sg := fun hf => HXM.out.sep sg hf (HLF.out sg (.inr (.inl rfl)))
       have hg0 := hsc w9 (Kp.refl _ _) 0 _ rfl
       rw [Nat.add_zero, Nat.mul_one, List.getElem_map] at hg0
       have hsgl := World.block_lt_of_cell? w9 _ hg0
       obtain ⟨zi, hzi⟩ : ∃ zi, zi = (st'.segs[i]'hiS).1 := ⟨_, rfl⟩
       rw [← hzi] at hg0
       have hzb : zi < 1000000 := by
        have h1 := HNO.out.1 (st'.segs[i]'hiS) (List.getElem_mem _)
        have h2 := HSEGB.out.2
        omega
       have hr0 := (hk3.cell (p := ⟨sg, soff + i, none⟩) hsgl hsgF).trans hg0
       have hsgr := hk3.lt hsgl
       have HAN := Lib.hid (show ∃ h : i < (st'.segs.map fun x => bnm P x.1).length, (st'.segs.map fun x => bnm P x.1)[i] = bnm P zi from ⟨by rw [List.length_map]; exact hiS, by rw [List.getElem_map, hzi]⟩)
       have hnmz := rName_bnm P (by omega) zi hzb wr
       have hrsy := fun W (hW : Kp No wr W) => rSync_any W r s3 F3 (hD3.keep_no hW) (bnm P zi)
       have HRSY := Lib.hid hrsy
       clear hsc hg0 hzi hzb hsy hD3 hF3 hk3 hrsy hiS
       go_wp2_with fail
       with_reducible refine hnmz.mono ?_
       rintro e w13 ⟨rfl, hk13⟩
       clear hnmz
       have hc := HRSY.out w13 hk13
       clear HRSY
       obtain ⟨q5, hq5⟩ : ∃ q, q = syS s3 (bnm P zi) := ⟨_, rfl⟩
       have hqc := sy_code s3 (bnm P zi)
       rw [← hq5] at hc hqc
       have HQ5 := Lib.hid hq5
       clear hq5
       go_wp2_with fail
       with_reducible refine hc.mono ?_
       rintro e w14 ⟨rfl, F14, hD14, hF14, hk14⟩
       clear hc
       obtain ⟨qc, hqe⟩ : ∃ qc, qc = q5.1 := ⟨_, rfl⟩
       rw [← hqe] at hqc ⊢
       have HQE5 := Lib.hid hqe
       have HN14 := Lib.hid (show RAt w14 r q5.2 F14 ∧ Foot F9 F14 w9 ∧ Kp F9 w9 w14 from ⟨hD14, HH.out.2.2.1.trans (fun g hg => (hF14 g hg).imp id fun h => Nat.le_trans hk13.size h) HH.out.2.2.2.size, kp_foot (HH.out.2.2.2.trans_no hk13) HH.out.2.2.1 hk14⟩)
       clear hD14 hF14 hk14 hqe hk13
       by_cases hqz : qc = 0
       ·subst hqz
        have HNEW := Lib.hid (show XyR w9 w14 r s' F9 (st'.segs.map fun x => bnm P x.1) (i + 1) from by
         obtain ⟨hAi, hAn⟩ := HAN.out
         refine ⟨q5.2, F14, ?_, HN14.out⟩
         have := syAll_next hAi HH.out.1 (by rw [hAn, ← HQ5.out, ← HQE5.out])
         rw [hAn, ← HQ5.out] at this
         exact this)
        clear hr0 hsgr q3r q2r q4r qfr hqc
        go_wp2_with fail
        go_roundw
        case rel => exact ⟨i + 1, by omega, by push_cast; rfl, HNEW⟩
        case measure => simp [intOf]; omega
       ·have e5 : (qc == (0 : Int)) = false := by rw [beq_eq_false_iff_ne]; exact hqz
        have e6 : (qc != (0 : Int)) = true := by rw [bne, e5]; rfl
        have HFIN := Lib.hid (show OpxP w r P F (openS P s N) (.returned (.tuple #[.pointer none, .int .i64 qc])) w14 from by
         obtain ⟨hAi, hAn⟩ := HAN.out
         have hfl := syAll_fail hAi HH.out.1 (by rw [hAn, ← HQ5.out, ← HQE5.out]; exact hqz)
         rw [hAn, ← HQ5.out] at hfl
         rw [HO.out, hfl]
         exact .inr ⟨by rw [← HQE5.out]; exact hqz, F14, by rw [HQE5.out], HN14.out.1, HXM.out.foot.trans HN14.out.2.1 HXM.out.kp.size, kp_foot HXM.out.kp HXM.out.foot HN14.out.2.2⟩)
        clear hr0 hsgr q3r q2r q4r qfr hqc
        go_wp2_with fail
        go_ret2
        rw [← HNN.out]
        exact HFIN.out
      ·have hin : i = sn := by omega
       have HFIN := Lib.hid (show OpxP w r P F (openS P s N) (.returned (.tuple #[.pointer (some ⟨x, 0, none⟩), .int .i64 0])) (wr.setCell ⟨x, 4, none⟩ (.int .i64 ((en + 1 : Nat) : Int))) from by
        have hcl := set_at HCR.out.cell 4 (.int .i64 ((en + 1 : Nat) : Int))
        have hkx : Kp (One x) wr (wr.setCell ⟨x, 4, none⟩ (.int .i64 ((en + 1 : Nat) : Int))) := (Kp.refl (One x) _).setCell (p := ⟨x, 4, none⟩) (.inl rfl) _
        have hC2 := HCR.out.turn (synced' := en + 1) (dead' := false) hkx (by simpa using hcl)
        have hsyA : syAll s' (st'.segs.map fun x => bnm P x.1) = (0, s3) := by
         have h1 := HH.out.1
         have h2 : sn = (st'.segs.map fun x => bnm P x.1).length := by rw [HSN.out]; simp
         rw [hin, h2, List.take_length] at h1
         exact h1
        have hxF : ∀ g, F3 g → ¬ One x g := fun g hg e => by
         have h1 : g = x := e
         rcases HH.out.2.2.1 g hg with h2 | h2
         ·exact HXM.out.sep g h2 (HLF.out g (.inl h1))
         ·omega
        have hEl : st'.ents.length = en := by rw [HE.out, List.length_map, HEN.out]
        rw [HO.out, hsyA, hEl]
        refine .inl ⟨rfl, x, F3, RLFP x (.slice sa sn sc) (.slice ea en ec) E, rfl, ⟨HH.out.2.1.keep hkx hxF, ⟨_, _, E, ?_, HE.out, fun _ y => y, hC2.lt⟩, fun g hf hg => ?_⟩, HXM.out.foot.trans HH.out.2.2.1 HXM.out.kp.size, fun g hg => HXM.out.new g (HLF.out g (by rw [← HSN.out, ← HEN.out]; exact hg)), ?_⟩
        ·show RLogC _ x r P _ _ (st'.segs.map (·.1)) E (en + 1) st'.dead
         rw [HNO.out.2]
         exact hC2
        ·have hg' : RLFP x (.slice sa (st'.segs.map (·.1)).length sc) (.slice ea E.length ec) E g := by rw [← HSN.out, ← HEN.out]; exact hg
         rcases HH.out.2.2.1 g hf with h1 | h1
         ·exact HXM.out.sep g h1 (HLF.out g hg')
         ·have := HC.out.lt g hg'
          omega
        ·refine (kp_foot HXM.out.kp HXM.out.foot HH.out.2.2.2).trans hkx fun i hi e => ?_
         have h1 : i = x := e
         have h2 := HX0.out
         omega)
       clear hsy hD3 hF3 hk3
       go_wp2_with fail
       go_ret2
       rw [← HNN.out]
       have := HFIN.out
       push_cast at this
       exact this
end Go.Proofs.YtdibkdgafidjgaaGreatDoor

