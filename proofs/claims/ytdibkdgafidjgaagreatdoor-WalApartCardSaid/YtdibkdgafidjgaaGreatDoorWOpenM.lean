/-
  wal's Open.
-/
import Derived.Test.YtdibkdgafidjgaaGreatDoorWb3
import Derived.Test.YtdibkdgafidjgaaGreatDoorWTakesM
import Derived.Test.YtdibkdgafidjgaaGreatDoorWb7
namespace Go.Proofs.YtdibkdgafidjgaaGreatDoor
open Go.RowKit Go.Mer
theorem take_segs (l : Files) (P : ByteArray) (st : LSt) (x : ByteArray) : (takeS l P st x).1.segs.length ≤ st.segs.length + 1 := by
 unfold takeS
 split
 ·simp only
  split
  ·rw [List.length_append, List.length_singleton]
   exact Nat.le_refl _
  ·omega
 ·simp only
  omega
theorem scan_segs (l : Files) (P : ByteArray) : ∀ (N : List ByteArray) (st : LSt), (scanS l P st N).1.segs.length ≤ st.segs.length + N.length
 | [], st => by simp [scanS]
 | x :: r, st => by
  rw [scanS]
  have h1 := take_segs l P st x
  rw [List.length_cons]
  split
  ·have := scan_segs l P r (takeS l P st x).1
   omega
  ·simp only
   omega
theorem syAll_append (A B : List ByteArray) : ∀ s : DSt, syAll s (A ++ B) = if (syAll s A).1 = 0 then syAll (syAll s A).2 B else syAll s A := by
 induction A with
 | nil => intro s; simp [syAll]
 | cons x A ih =>
  intro s
  rw [List.cons_append, syAll, syAll]
  by_cases h : (syS s x).1 = 0
  ·rw [if_pos h, if_pos h]
   exact ih _
  ·rw [if_neg h, if_neg h, if_neg h]
def OpnP (w : World) (d : Nat) (P : ByteArray) (F : Nat → Prop) (q : Int × DSt × LSt) (e : Ending) (w' : World) : Prop :=
 (q.1 = 0 ∧ ∃ l F' G', e = .returned (.tuple #[.pointer (some ⟨l, 0, none⟩), .int .i64 0]) ∧ WAt w' d l P q.2.1 q.2.2 F' G' ∧ Foot F F' w ∧ (∀ k, G' k → w.heap.size ≤ k) ∧ Kp F w w') ∨
 (q.1 ≠ 0 ∧ ∃ F', e = .returned (.tuple #[.pointer none, .int .i64 q.1]) ∧ DiskAt w' d q.2.1 F' ∧ Foot F F' w ∧ Kp F w w')
def strC (x : ByteArray) : List Value := [.string x]
theorem strC_len (x : ByteArray) : (strC x).length = 1 := rfl
theorem strC_one (x : ByteArray) : ∀ u ∈ strC x, u.oneCell' = true := by
 intro u hu
 simp only [strC, List.mem_cons, List.not_mem_nil, or_false] at hu
 subst hu
 rfl
theorem strC_map (l : List ByteArray) : l.flatMap strC = l.map Value.string := by
 induction l with
 | nil => rfl
 | cons x r ih => rw [List.flatMap_cons, List.map_cons, ih]; rfl
theorem infoStrW : (Tryz.prog.info? 9).map (fun i => ((i.zero.map fun z => z.cells.size), i.size, i.bytes)) = some (some 1, 1, 16) := by kernel_rfl
theorem filt_step {N : List ByteArray} {j : Nat} (hj : j < N.length) (P : ByteArray) : (N.take (j + 1)).filter (isSegN P) = if isSegN P N[j] = true then (N.take j).filter (isSegN P) ++ [N[j]] else (N.take j).filter (isSegN P) := by
 rw [List.take_succ_eq_append_getElem hj, List.filter_append, List.filter_cons, List.filter_nil]
 split
 ·rfl
 ·rw [List.append_nil]
def OpR (w wr : World) (l d : Nat) (P : ByteArray) (fs : Files) (M : List ByteArray) (j : Nat) : Prop :=
 ∃ st1 G1, scanS fs P st0 (M.take j) = (st1, []) ∧ LogAt wr l d P st1 G1 ∧ Foot (One l) G1 w ∧ Kp (One l) w wr
theorem log0 {w : World} {l d : Nat} {P : ByteArray} (h : w.heap[l]? = some (.cells #[.pointer (some ⟨d, 0, none⟩), .string P, .slice none 0 0, .slice none 0 0, .int .i64 0, .bool false] 86 (0, 0))) : LogAt w l d P st0 (One l) :=
 ⟨.slice none 0 0, .slice none 0 0, [], ⟨h, Own.nil _ _ _, Own.nil _ _ _, fun _ h => (by cases h)⟩, rfl, (fun k hk => by
  rcases hk with h | h | h | ⟨_, h, _⟩
  ·exact h
  ·cases h
  ·cases h
  ·cases h), (fun k hk => by
  rw [show k = l from hk]
  exact get_lt h)⟩
theorem ends_code (P : ByteArray) (s : DSt) (segs : List (Nat × Nat)) (x : ByteArray) (r : List ByteArray) : 0 ≤ (endS P s segs x r).1 ∧ (endS P s segs x r).1 < 100 := by
 have h1 : ∀ (A : List ByteArray) (s : DSt), 0 ≤ (rmAll s A).1 ∧ (rmAll s A).1 < 100 := by
  intro A
  induction A with
  | nil => intro s; exact ⟨Int.le_refl 0, by show (0 : Int) < 100; decide⟩
  | cons y A ih =>
   intro s
   rw [rmAll]
   split
   ·exact ih _
   ·exact rm_code s y
 unfold endS
 split
 ·unfold endOne
  split
  ·exact rm_code _ _
  ·split
   ·exact cu_code _ _ _
   ·exact rm_code _ _
 ·exact h1 _ _
theorem openS_go {P : ByteArray} {s s' : DSt} {N : List ByteArray} {st' : LSt} {rest : List ByteArray} (hz : scanS s.files P st0 (N.filter (isSegN P)) = (st', rest)) (hq : end0 P s st'.segs rest = (0, s')) :
  openS P s N = ((syAll s' (st'.segs.map fun x => bnm P x.1)).1, (syAll s' (st'.segs.map fun x => bnm P x.1)).2, { st' with synced := st'.ents.length }) := by
 unfold openS
 rw [hz]
 simp only
 rw [hq]
 rfl
theorem openS_no {P : ByteArray} {s : DSt} {N : List ByteArray} {st' : LSt} {rest : List ByteArray} (hz : scanS s.files P st0 (N.filter (isSegN P)) = (st', rest)) (hq : (end0 P s st'.segs rest).1 ≠ 0) :
  openS P s N = ((end0 P s st'.segs rest).1, (end0 P s st'.segs rest).2, st') := by
 unfold openS
 rw [hz]
 simp only
 rw [if_neg hq]
structure OpM (w wx : World) (d l b0 : Nat) (P : ByteArray) (F Fx Gx : Nat → Prop) (s' : DSt) (st' : LSt) : Prop where
 at_ : WAt wx d l P s' st' Fx Gx
 foot : Foot F Fx w
 new : ∀ k, Gx k → b0 + 1 < k
 kp : Kp F w wx
 ptr : wx.cell? ⟨b0, 0, none⟩ = some (.pointer (some ⟨l, 0, none⟩))
 ptrf : wx.frozen? ⟨b0, 0, none⟩ = false
 err : wx.cell? ⟨b0 + 1, 0, none⟩ = some (.int .i64 0)
 errf : wx.frozen? ⟨b0 + 1, 0, none⟩ = false
 b0w : b0 = w.heap.size
 ll : b0 + 1 < l
 size : b0 + 1 < wx.heap.size
theorem OpM.no {w wx wy : World} {d l b0 : Nat} {P : ByteArray} {F Fx Gx : Nat → Prop} {s' : DSt} {st' : LSt} (h : OpM w wx d l b0 P F Fx Gx s' st') (hk : Kp No wx wy) : OpM w wy d l b0 P F Fx Gx s' st' :=
 ⟨h.at_.no hk, h.foot, h.new, h.kp.trans_no hk, (hk.cell (p := ⟨b0, 0, none⟩) (by have := h.size; show b0 < _; omega) (fun x => x)).trans h.ptr, (hk.frozen (p := ⟨b0, 0, none⟩) (by have := h.size; show b0 < _; omega) (fun x => x)).trans h.ptrf,
  (hk.cell (p := ⟨b0 + 1, 0, none⟩) h.size (fun x => x)).trans h.err, (hk.frozen (p := ⟨b0 + 1, 0, none⟩) h.size (fun x => x)).trans h.errf, h.b0w, h.ll, hk.lt h.size⟩
theorem open_leaves {w wx : World} {d l b0 : Nat} {P : ByteArray} {F Fx Gx : Nat → Prop} {s' : DSt} {st' : LSt} (h : OpM w wx d l b0 P F Fx Gx s' st') (kn : Nat) (tmps : Array Value) (h4 : tmps.getD 4 undef = .pointer (some ⟨b0, 0, none⟩)) (h5 : tmps.getD 5 undef = .pointer (some ⟨b0 + 1, 0, none⟩)) (R : Ending → World → Prop)
  (hR : ∀ w'', Kp (fun i => i = b0 ∨ i = b0 + 1) wx w'' → R (.returned (.tuple #[.pointer none, .int .i64 (kn : Int)])) w'') :
  Leaves Tryz.prog Tryz.f20 tmps R [{ target := .fn (.func 53) #[.pointer (some ⟨b0 + 1, 0, none⟩), .pointer (some ⟨b0, 0, none⟩)], args := #[] }] (.panicking (failP (kn : Int))) wx := by
 have hs := h.size
 refine leaves_cons (f := 53) (args := #[.pointer (some ⟨b0 + 1, 0, none⟩), .pointer (some ⟨b0, 0, none⟩)]) (by simp) (by simp [go_sem]) ?_
 refine (show CallsD Tryz.prog 53 #[.pointer (some ⟨b0 + 1, 0, none⟩), .pointer (some ⟨b0, 0, none⟩)] (.panicking (failP (kn : Int))) wx _ from close_panic (b0 + 1) 0 kn ⟨b0, 0, none⟩ (.int .i64 0) (.pointer (some ⟨l, 0, none⟩)) [] wx h.err h.errf hs h.ptr h.ptrf (by show b0 < _; omega) (by show ¬ b0 = b0 + 1; omega)).mono ?_
 rintro e u' w'' ⟨rfl, rfl, o, rfl⟩
 have hk4 : Kp (fun i => i = b0 + 1) wx ((wx.setCell ⟨b0 + 1, 0, none⟩ (.int .i64 (kn : Int))).alloc o) := ((Kp.refl (fun i => i = b0 + 1) wx).setCell (p := ⟨b0 + 1, 0, none⟩) (.inl rfl) _).alloc _
 have hno : Kp No (wx.setCell ⟨b0 + 1, 0, none⟩ (.int .i64 (kn : Int))) ((wx.setCell ⟨b0 + 1, 0, none⟩ (.int .i64 (kn : Int))).alloc o) := (Kp.refl _ _).alloc _
 have q1 : ((wx.setCell ⟨b0 + 1, 0, none⟩ (.int .i64 (kn : Int))).alloc o).cell? ⟨b0 + 1, 0, none⟩ = some (.int .i64 (kn : Int)) := by
  rw [hno.cell (p := ⟨b0 + 1, 0, none⟩) (by simpa using hs) (fun x => x)]
  simp [go_sem, h.err]
 have q0 : ((wx.setCell ⟨b0 + 1, 0, none⟩ (.int .i64 (kn : Int))).alloc o).cell? ⟨b0, 0, none⟩ = some (.pointer (some ⟨l, 0, none⟩)) := (hk4.cell (p := ⟨b0, 0, none⟩) (by show b0 < _; omega) (by show ¬ b0 = b0 + 1; omega)).trans h.ptr
 obtain ⟨w4, hw4⟩ : ∃ W, W = (wx.setCell ⟨b0 + 1, 0, none⟩ (.int .i64 (kn : Int))).alloc o := ⟨_, rfl⟩
 rw [← hw4] at q0 q1 hk4 ⊢
 refine ⟨.tuple #[.pointer none, .int .i64 (kn : Int)], ?_, hR _ ?_⟩
 ·have h4' : tmps[4]?.getD undef = .pointer (some ⟨b0, 0, none⟩) := by rw [← h4, Array.getD_eq_getD_getElem?]
  have h5' : tmps[5]?.getD undef = .pointer (some ⟨b0 + 1, 0, none⟩) := by rw [← h5, Array.getD_eq_getD_getElem?]
  have hr0 : (w4.setCell ⟨b0, 0, none⟩ (.pointer none)).cell? ⟨b0, 0, none⟩ = some (.pointer none) := by simp [go_sem, q0]
  have hr1 : (w4.setCell ⟨b0, 0, none⟩ (.pointer none)).cell? ⟨b0 + 1, 0, none⟩ = some (.int .i64 (kn : Int)) := by
   have hk := (Kp.refl (One b0) w4).setCell (p := ⟨b0, 0, none⟩) (.inl rfl) (.pointer none)
   rw [hk.cell (p := ⟨b0 + 1, 0, none⟩) (World.block_lt_of_cell? w4 _ q1) (by show ¬ b0 + 1 = b0; omega)]
   exact q1
  simp [results, Tryz.results20, go_sem, h4', h5', hr0, hr1]
 ·exact (hk4.mono fun _ _ x => .inr x).setCell (p := ⟨b0, 0, none⟩) (.inl (.inl rfl)) _
theorem open_done {wx : World} {l b0 : Nat} (hp : wx.cell? ⟨b0, 0, none⟩ = some (.pointer (some ⟨l, 0, none⟩))) (he : wx.cell? ⟨b0 + 1, 0, none⟩ = some (.int .i64 0)) (tmps : Array Value) (h4 : tmps.getD 4 undef = .pointer (some ⟨b0, 0, none⟩)) (h5 : tmps.getD 5 undef = .pointer (some ⟨b0 + 1, 0, none⟩)) (R : Ending → World → Prop)
  (hR : R (.returned (.tuple #[.pointer (some ⟨l, 0, none⟩), .int .i64 0])) wx) :
  Leaves Tryz.prog Tryz.f20 tmps R [{ target := .fn (.func 53) #[.pointer (some ⟨b0 + 1, 0, none⟩), .pointer (some ⟨b0, 0, none⟩)], args := #[] }] .returning wx := by
 refine leaves_cons (f := 53) (args := #[.pointer (some ⟨b0 + 1, 0, none⟩), .pointer (some ⟨b0, 0, none⟩)]) (by simp) (by simp [go_sem]) ?_
 refine (close_idle ⟨b0 + 1, 0, none⟩ ⟨b0, 0, none⟩ wx).mono ?_
 rintro e u' w'' ⟨rfl, rfl, rfl⟩
 refine ⟨.tuple #[.pointer (some ⟨l, 0, none⟩), .int .i64 0], ?_, hR⟩
 have h4' : tmps[4]?.getD undef = .pointer (some ⟨b0, 0, none⟩) := by rw [← h4, Array.getD_eq_getD_getElem?]
 have h5' : tmps[5]?.getD undef = .pointer (some ⟨b0 + 1, 0, none⟩) := by rw [← h5, Array.getD_eq_getD_getElem?]
 simp [results, Tryz.results20, go_sem, h4', h5', hp, he]
def SyR (wx wr : World) (d : Nat) (s' : DSt) (Fx : Nat → Prop) (A : List ByteArray) (i : Nat) : Prop :=
 ∃ s3 F3, syAll s' (A.take i) = (0, s3) ∧ DiskAt wr d s3 F3 ∧ Foot Fx F3 wx ∧ Kp Fx wx wr
theorem syAll_next {s' s3 : DSt} {A : List ByteArray} {i : Nat} (hi : i < A.length) (h : syAll s' (A.take i) = (0, s3)) (h0 : (syS s3 A[i]).1 = 0) : syAll s' (A.take (i + 1)) = (0, (syS s3 A[i]).2) := by
 rw [List.take_succ_eq_append_getElem hi, syAll_append, h, if_pos rfl]
 simp only [syAll, h0, if_true]
theorem syAll_fail {s' s3 : DSt} {A : List ByteArray} {i : Nat} (hi : i < A.length) (h : syAll s' (A.take i) = (0, s3)) (h0 : (syS s3 A[i]).1 ≠ 0) : syAll s' A = syS s3 A[i] := by
 have e : A = A.take i ++ (A[i] :: A.drop (i + 1)) := by rw [← List.drop_eq_getElem_cons hi, List.take_append_drop]
 conv => lhs; rw [e]
 rw [syAll_append, h, if_pos rfl, syAll, if_neg h0]
set_option maxRecDepth 100000 in
set_option maxHeartbeats 4000000 in
theorem open_any (w : World) (d : Nat) (P : ByteArray) (s : DSt) (F : Nat → Prop) (hD : DiskAt w d s F) (hok : FilesOk s.files) (hpow : Pow w) (hpF : ¬ F 1) (hP1 : 1 ≤ P.size) (hP2 : P.size ≤ 50) (hroom : s.room ≤ 1048576) :
  Calls Tryz.prog 20 #[.pointer (some ⟨d, 0, none⟩), .string P] w (OpnP w d P F (openS P s (nmS s.files))) := by
 have hmf : ∀ (fn : Fn) (first cap : Array Value) (w : World), (Instr.makeFunc fn first cap).run Tryz.prog w = .ok (.func fn first cap) w := fun _ _ _ _ => rfl
 have e1 : decide ((P.size : Int) < 1) = false := by rw [decide_eq_false_iff_not]; omega
 have e2 : decide ((50 : Int) < (P.size : Int)) = false := by rw [decide_eq_false_iff_not]; omega
 have HD := Lib.hid hD
 have HOK := Lib.hid hok
 have HPW := Lib.hid hpow
 have HPF := Lib.hid hpF
 have HRM := Lib.hid hroom
 clear hD hok hpow hpF hroom
 go_enter_defers Tryz.func20, Tryz.ntmps20
 go_upto_region 6 with fail
 obtain ⟨b0, hb0⟩ : ∃ b0, b0 = w.heap.size := ⟨_, rfl⟩
 rw [← hb0]
 obtain ⟨W3, hW3⟩ : ∃ W, W = ((w.alloc (.cells #[.pointer (some ⟨b0 + 1 + 1, 0, none⟩)] 30)).alloc (.cells #[.int .i64 0] 35)).alloc (.cells #[.pointer (some ⟨d, 0, none⟩), .string P, .slice none 0 0, .slice none 0 0, .int .i64 0, .bool false] 86) := ⟨_, rfl⟩
 rw [← hW3]
 have k3 : Kp No w W3 := by rw [hW3]; exact (((Kp.refl No w).alloc _).alloc _).alloc _
 have hs3 : W3.heap.size = b0 + 1 + 1 + 1 := by rw [hW3, hb0]; simp
 have h3l : W3.heap[b0 + 1 + 1]? = some (.cells #[.pointer (some ⟨d, 0, none⟩), .string P, .slice none 0 0, .slice none 0 0, .int .i64 0, .bool false] 86 (0, 0)) := by
  rw [hW3, hb0]
  have := heap_alloc_new ((w.alloc (.cells #[.pointer (some ⟨w.heap.size + 1 + 1, 0, none⟩)] 30)).alloc (.cells #[.int .i64 0] 35)) (.cells #[.pointer (some ⟨d, 0, none⟩), .string P, .slice none 0 0, .slice none 0 0, .int .i64 0, .bool false] 86 (0, 0))
  simpa using this
 have h3a : W3.cell? ⟨b0, 0, none⟩ = some (.pointer (some ⟨b0 + 1 + 1, 0, none⟩)) := by rw [hW3, hb0]; simp [go_sem]
 have h3e : W3.cell? ⟨b0 + 1, 0, none⟩ = some (.int .i64 0) := by rw [hW3, hb0]; simp [go_sem]
 have h3af : W3.frozen? ⟨b0, 0, none⟩ = false := by rw [hW3, hb0]; simp [go_sem]
 have h3ef : W3.frozen? ⟨b0 + 1, 0, none⟩ = false := by rw [hW3, hb0]; simp [go_sem]
 obtain ⟨l, hl⟩ : ∃ l, l = b0 + 1 + 1 := ⟨_, rfl⟩
 rw [← hl] at h3l h3a hs3 ⊢
 have hL3 := log0 h3l
 have HL3 := Lib.hid hL3
 have HK3 := Lib.hid k3
 have HB0 := Lib.hid hb0
 have HLL := Lib.hid hl
 have HS3 := Lib.hid hs3
 have H3A := Lib.hid (And.intro h3a (And.intro h3af (And.intro h3e h3ef)))
 have hnm := names_wal W3 d s F (HD.out.keep_no k3) HOK.out
 obtain ⟨N, hN⟩ : ∃ N, N = nmS s.files := ⟨_, rfl⟩
 rw [← hN] at hnm ⊢
 obtain ⟨n, hn⟩ : ∃ n, n = N.length := ⟨_, rfl⟩
 rw [← hn] at hnm
 have hnb : n ≤ 4096 := by rw [hn, hN, nm_len]; exact HD.out.few.1
 have hNs : ∀ x ∈ N, x.size ≤ 64 := fun x hx => by rw [hN] at hx; exact (HOK.out.size hx).2
 have hNd : N.Nodup := by rw [hN]; exact nm_nodup HD.out.few.2.1
 have HNS := Lib.hid hNs
 have HND := Lib.hid hNd
 have HNN := Lib.hid hN
 have HN := Lib.hid hn
 clear hW3 k3 hs3 h3l hL3 hb0 hl hNs hNd hN hn h3a h3e h3af h3ef
 go_wp2_with fail
 with_reducible refine hnm.mono ?_
 rintro e w1 ⟨na, nc, rfl, hnr, hk1⟩
 clear hnm
 have HNR := Lib.hid hnr
 have HK1 := Lib.hid hk1
 clear hnr hk1
 go_wp2_with fail
 rename World => w4
 go_loopw [6, 33] (fun s6 s33 wr => ∃ (j : Nat) (a : Option Addr) (k c : Nat), j ≤ n ∧ k ≤ j ∧ s6 = .slice a k c ∧ s33 = .int .i64 (j : Int) ∧ Hid (RowRel 9 1 strC w4 wr (.slice a k c) k ((N.take j).filter (isSegN P)))) (fun _ s33 _ => n - (intOf s33).toNat)
 case atStart => exact ⟨0, none, 0, 0, by omega, by omega, rfl, rfl, Lib.hid (by simpa using RowRel.nil 9 1 strC w4)⟩
 case round =>
  obtain ⟨j, a, k, c, hj, hkj, rfl, rfl, HR⟩ := hrel
  have hkr := HR.out.2.2.2
  by_cases hlt : j < n
  ·have hjN : j < N.length := by rw [← HN.out]; exact hlt
   obtain ⟨ng, noff, rfl, hng, _, hnc⟩ := HNR.out.at_ (i := j) (u := .string N[j]) (by simp [hjN])
   have hcw := (hkr.cell (p := ⟨ng, noff + j, none⟩) hng (fun x => x)).trans hnc
   have hngr := hkr.lt hng
   obtain ⟨x, hx⟩ : ∃ x, x = N[j] := ⟨_, rfl⟩
   have hfs := filt_step hjN P
   have hxs := HNS.out N[j] (List.getElem_mem hjN)
   rw [← hx] at hcw hfs hxs
   have hsg := isSeg_any x P wr (by omega)
   have HFS := Lib.hid hfs
   have HSG := Lib.hid hsg
   clear hfs hsg hnc hx hjN hxs
   go_wp2_with fail
   have hc := HSG.out
   with_reducible refine hc.mono ?_
   rintro e w5 ⟨rfl, hk5⟩
   clear hc HSG
   obtain ⟨bs, hbs⟩ : ∃ bs, bs = isSegN P x := ⟨_, rfl⟩
   rw [show (segNo P.data.toList x.data.toList).isSome = bs from hbs.symm]
   rw [← hbs] at HFS
   have hr5 := HR.out.keep hk5
   clear hbs
   cases bs with
   | true =>
    have hk5' : Kp No w5 (w5.alloc (.cells #[.string x] 9)) := (Kp.refl _ _).alloc _
    obtain ⟨a', c', W', hrun, ho, hkp⟩ := RowRel.app (P := Tryz.prog) (T := 70) Tryz.underlying70 infoStrW strC_one (hr5.keep hk5') [x] (one_src (f := strC) strC_len (x := x) (heap_alloc_new w5 _) rfl) rfl (by simp only [maxLen]; omega) (by omega)
    have HX := Lib.hid hrun
    have HNEW := Lib.hid (show RowRel 9 1 strC w4 W' (.slice a' (k + 1) c') (k + 1) ((N.take (j + 1)).filter (isSegN P)) from by rw [HFS.out, if_pos rfl]; exact ho)
    clear hrun ho hkp hk5 hk5' hr5 hkr hcw
    go_wp2_with (at_builtin; refine wpList_append_run rfl rfl rfl rfl HX.out ?_)
    go_roundw
    case rel => exact ⟨j + 1, a', k + 1, c', by omega, by omega, rfl, by push_cast; rfl, HNEW⟩
    case measure => simp [intOf]; omega
   | false =>
    have HNEW := Lib.hid (show RowRel 9 1 strC w4 w5 (.slice a k c) k ((N.take (j + 1)).filter (isSegN P)) from by rw [HFS.out, if_neg (by decide)]; exact hr5)
    clear hk5 hr5 hkr hcw
    go_wp2_with fail
    go_roundw
    case rel => exact ⟨j + 1, a, k, c, by omega, by omega, rfl, by push_cast; rfl, HNEW⟩
    case measure => simp [intOf]; omega
  ·have hjn : j = n := by omega
   go_upto_region 12 with fail
   have hM := HR.out
   rw [hjn, show N.take n = N from by rw [HN.out]; exact List.take_length] at hM
   obtain ⟨M, hMe⟩ : ∃ M, M = N.filter (isSegN P) := ⟨_, rfl⟩
   rw [← hMe] at hM
   have hkM : k = M.length := hM.1
   have hMo : Own wr 9 1 (.slice a k c) k (M.map Value.string) := by have := hM.2.1; rwa [strC_map] at this
   have hkk : Kp No W3 wr := HK1.out.trans_same hkr
   have hkw : Kp No w wr := HK3.out.trans_same hkk
   have h0 := HB0.out
   have hll := HLL.out
   have hs3 := HS3.out
   have hMl : ∀ g, (Value.slice a k c).ownBlock = some g → g ≠ l ∧ g < wr.heap.size ∧ ¬ F g := fun g hg => by
    have h1 := hM.2.2.1 g hg
    have h2 := HK1.out.size
    exact ⟨by omega, hMo.lt g hg, fun hf => by have := HD.out.lt g hf; omega⟩
   have hMs : ∀ x ∈ M, x.size ≤ 64 := fun x hx => by rw [hMe] at hx; exact HNS.out x (List.mem_filter.1 hx).1
   have hMd : M.Nodup := by rw [hMe]; exact HND.out.filter _
   have hfl : ∀ g, F g → ¬ One l g := fun g hg (e : g = l) => by have := HD.out.lt g hg; omega
   have hbs := fun j => scan_few s.files P (M.take j) st0
   have hsb : ∀ j, sumR s.files (M.take j) ≤ 1048576 := fun j => by
    have h1 := sumR_le HD.out.few.2.1 (N := M.take j) (hMd.sublist (List.take_sublist j M))
    have h2 := HD.out.few.2.2
    have h3 := HRM.out
    omega
   have hk4 : k ≤ 4096 := by omega
   have h5c : ∀ (W : World), Kp (One l) wr W → W.cell? ⟨b0, 0, none⟩ = some (.pointer (some ⟨l, 0, none⟩)) ∧ W.frozen? ⟨b0, 0, none⟩ = false ∧ W.cell? ⟨b0 + 1, 0, none⟩ = some (.int .i64 0) ∧ W.frozen? ⟨b0 + 1, 0, none⟩ = false := fun W hW => by
    have hk : Kp (One l) W3 W := (Kp.of_no hkk).trans_same hW
    exact ⟨(hk.cell (p := ⟨b0, 0, none⟩) (by show b0 < _; omega) (fun e : b0 = l => by omega)).trans H3A.out.1, (hk.frozen (p := ⟨b0, 0, none⟩) (by show b0 < _; omega) (fun e : b0 = l => by omega)).trans H3A.out.2.1,
     (hk.cell (p := ⟨b0 + 1, 0, none⟩) (by show b0 + 1 < _; omega) (fun e : b0 + 1 = l => by omega)).trans H3A.out.2.2.1, (hk.frozen (p := ⟨b0 + 1, 0, none⟩) (by show b0 + 1 < _; omega) (fun e : b0 + 1 = l => by omega)).trans H3A.out.2.2.2⟩
   have H5C := Lib.hid h5c
   have HME := Lib.hid hMe
   have HKM := Lib.hid hkM
   have HMO := Lib.hid hMo
   have HML := Lib.hid hMl
   have HMS := Lib.hid hMs
   have HMD := Lib.hid hMd
   have HFL := Lib.hid hfl
   have HBS := Lib.hid hbs
   have HSB := Lib.hid hsb
   have HD5 := Lib.hid (HD.out.keep_no hkw)
   have HL5 := Lib.hid (HL3.out.keep_no hkk)
   have HP5 := Lib.hid (HPW.out.keep hkw)
   have HKW := Lib.hid hkw
   have hlw : l < wr.heap.size := by have := hkk.size; omega
   clear hM hMe hkM hMo hkk hkw h0 hll hs3 hMl hMs hMd hfl hbs hsb h5c hkr hlt hjn hj HR
   go_wp2_with fail
   rename World => w5
   go_loopw [47] (fun s47 wr => ∃ j2 : Nat, j2 ≤ k ∧ s47 = .int .i64 (j2 : Int) ∧ Hid (OpR w5 wr l d P s.files M j2)) (fun s47 _ => k - (intOf s47).toNat)
   case atStart => exact ⟨0, by omega, rfl, Lib.hid ⟨st0, One l, by simp [scanS], HL5.out, Foot.refl _ _, Kp.refl _ _⟩⟩
   case round =>
    obtain ⟨j2, hj2, rfl, HR⟩ := hrel
    obtain ⟨st1, G1, hsc, hL1, hG1, hk1⟩ := HR.out
    clear HR
    by_cases hlt : j2 < k
    ·have hjM : j2 < M.length := by rw [← HKM.out]; exact hlt
     obtain ⟨a9, c9, hv9, _, hrd9⟩ := HMO.out.rd
     injection hv9 with hv91 _ hv93
     subst hv91
     subst hv93
     obtain ⟨mg, moff, rfl, hmg, _, hmc⟩ := hrd9.at_ (i := j2) (u := .string M[j2]) (by simp [hjM])
     have hmgl : ¬ One l mg := (HML.out mg rfl).1
     have hcw := (hk1.cell (p := ⟨mg, moff + j2, none⟩) hmg hmgl).trans hmc
     have hmgr := hk1.lt hmg
     have htk1 : M.take (j2 + 1) = M.take j2 ++ [M[j2]] := List.take_succ_eq_append_getElem hjM
     have hdr1 : M.drop j2 = M[j2] :: M.drop (j2 + 1) := List.drop_eq_getElem_cons hjM
     obtain ⟨x, hx⟩ : ∃ x, x = M[j2] := ⟨_, rfl⟩
     rw [← hx] at hcw htk1 hdr1
     have hcp := (H5C.out wr hk1).1
     have hb0r : b0 < wr.heap.size := World.block_lt_of_cell? wr _ hcp
     have hkc : k ≤ c := by
      obtain ⟨_, a', cap, hv, h1', _⟩ := HMO.out
      injection hv with _ _ e
      all_goals omega
     have hgp : ¬ One l 1 := fun e : 1 = l => by
      have h1 := HPW.out.lt
      have h2 := HLL.out
      have h3 := HB0.out
      omega
     have htk := takes_any wr l d P s st1 F G1 (HD5.out.keep hk1 HFL.out) hL1 (HP5.out.keepS hk1 hgp) hP2 (by
      have h1 := HBS.out j2
      have h2 := HSB.out j2
      rw [hsc] at h1
      have h4 : 12 * st1.ents.length ≤ 12 * 0 + sumR s.files (M.take j2) := h1
      omega) (by
      have h1 := scan_segs s.files P (M.take j2) st0
      rw [hsc, List.length_take] at h1
      have h4 : st1.segs.length ≤ 0 + min j2 M.length := h1
      omega) x
     have HTK := Lib.hid htk
     have HSC := Lib.hid hsc
     have HG1 := Lib.hid hG1
     have HK1' := Lib.hid hk1
     have HT1 := Lib.hid htk1
     have HDR := Lib.hid hdr1
     clear htk hsc hG1 hk1 hL1 hmc hx htk1 hdr1 hmgl hgp hrd9
     go_wp2_with fail
     have hc := HTK.out
     with_reducible refine hc.mono ?_
     rintro e w6 ⟨rfl, G2, hL2, hG2, hk2⟩
     clear hc HTK
     have hk26 : Kp (One l) w5 w6 := kp_foot HK1'.out HG1.out hk2
     have hG26 : Foot (One l) G2 w5 := HG1.out.trans hG2 HK1'.out.size
     obtain ⟨tk, htkv⟩ : ∃ tk, tk = takeS s.files P st1 x := ⟨_, rfl⟩
     rw [← htkv] at hL2 ⊢
     obtain ⟨tb, htb⟩ : ∃ tb, tb = tk.2 := ⟨_, rfl⟩
     rw [← htb]
     have HL2 := Lib.hid hL2
     have HK26 := Lib.hid hk26
     have HG26 := Lib.hid hG26
     have HTV := Lib.hid htkv
     have HTB := Lib.hid htb
     clear hL2 hG2 hk2 hk26 hG26 htkv htb
     cases tb with
     | true =>
      have HNEW := Lib.hid (show OpR w5 w6 l d P s.files M (j2 + 1) from ⟨tk.1, G2, by rw [HT1.out, HTV.out]; exact scan_step HSC.out (by rw [← HTV.out]; exact HTB.out.symm), HL2.out, HG26.out, HK26.out⟩)
      clear hcw hmgr hcp hb0r
      go_wp2_with fail
      go_roundw
      case rel => exact ⟨j2 + 1, by omega, by push_cast; rfl, HNEW⟩
      case measure => simp [intOf]; omega
     | false =>
      have hz : scanS s.files P st0 M = (tk.1, x :: M.drop (j2 + 1)) := by
       have h1 := scan_stop (r := M.drop (j2 + 1)) HSC.out (by rw [← HTV.out]; exact HTB.out.symm)
       rw [← HDR.out, List.take_append_drop, ← HTV.out] at h1
       rw [h1, HDR.out]
      have hrl : k - j2 = (M.drop (j2 + 1)).length + 1 := by rw [List.length_drop, ← HKM.out]; omega
      have hFG2 : ∀ g, F g → ¬ G2 g := fun g hf hg => by
       rcases HG26.out g hg with h1 | h1
       ·exact HFL.out g hf h1
       ·have h2 := HD5.out.lt g hf
        omega
      have hen := fun n1 => ends_any (w6.drewN n1) l d P s tk.1 F G2 ((HD5.out.keep HK26.out HFL.out).keep_no ((Kp.refl No w6).drewN n1)) (HL2.out.keep_no ((Kp.refl No w6).drewN n1)) hFG2 x (M.drop (j2 + 1)) (some ⟨mg, moff + j2, none⟩) (c - j2) (fun W hW => by
       have h1 : Rd w5 w5.heap.size (some ⟨mg, moff, none⟩) (M.map Value.string) := HMO.out.rd'
       have h2 := h1.drop j2
       rw [← List.map_drop, HDR.out] at h2
       simp only [Option.map_some, add_lit'] at h2
       have h3 : Kp (Both (One l) F) w5 W := (HK26.out.mono (T := Both (One l) F) fun _ _ y => .inl y).trans (T := F) hW.of_drewN (fun i _ hi => .inr hi)
       intro hx0
       obtain ⟨g7, o7, e7, hg7, hb7, hc7⟩ := h2 hx0
       injection e7 with e7
       injection e7 with e71 e72
       subst e71
       refine ⟨mg, o7, by rw [e72], Nat.lt_of_lt_of_le hmg h3.size, Nat.le_refl _, fun j u hu => ?_⟩
       rw [h3.cell (p := ⟨mg, o7 + j, none⟩) hmg (fun hb => hb.elim (HML.out mg rfl).1 (HML.out mg rfl).2.2)]
       exact hc7 j u hu) (by rw [List.length_drop, ← HKM.out]; omega)
      rw [← hrl] at hen
      have hcp6 : ∀ W, Kp No w6 W → W.cell? ⟨b0, 0, none⟩ = some (.pointer (some ⟨l, 0, none⟩)) := fun W hW => (H5C.out W (HK26.out.trans_no hW)).1
      have hj2c : j2 ≤ c := by omega
      have hj2c2 : ¬ c = j2 := by omega
      have HEN := Lib.hid hen
      have HZ := Lib.hid hz
      have HFG2 := Lib.hid hFG2
      clear hen hrl hz hFG2 hcw hmgr hcp hb0r
      go_upto_region 16 with fail
      refine wp_region_fin (Kp No w6) [0,0,0,0,2] [0,1,2,3] 4 [] (by kernel_rfl) (by kernel_rfl) (fun _ n h => h.drewN n) (Kp.refl _ _) ?_
      repeat (first
       | (apply wpOrd_skip rfl (by decide) rfl; (focus (go_simp; rfl)))
       | (apply wpOrd_pure rfl rfl rfl; (focus (intro _ _; go_simp; (try go_ints); rfl)); (focus (go_simp; rfl)))
       | (apply wpOrd_read rfl rfl rfl; (focus (intro _; go_simp; (try go_ints); rfl)); (focus (go_simp; rfl))))
      refine fin_now (fun n1 => ?_)
      refine wpSeq_step rfl ?_
      have hc := HEN.out n1
      go_wp2_with fail
      with_reducible refine hc.mono ?_
      rintro e w7 ⟨⟨F7, hD7, hF7, hK7⟩, hgp⟩
      clear hc HEN
      obtain ⟨q, hq⟩ : ∃ q, q = endS P s tk.1.segs x (M.drop (j2 + 1)) := ⟨_, rfl⟩
      rw [← hq] at hD7 hgp
      have h0 := HB0.out
      have hllb := HLL.out
      have hk67 : Kp F w6 w7 := hK7.of_drewN
      have hkb : Kp (Both (One l) F) w5 w7 := (HK26.out.mono (T := Both (One l) F) fun _ _ y => .inl y).trans (T := F) hk67 (fun i _ hi => .inr hi)
      have hb0F : ¬ F b0 ∧ ¬ F (b0 + 1) := ⟨fun hf => by have := HD.out.lt _ hf; omega, fun hf => by have := HD.out.lt _ hf; omega⟩
      have h6c := H5C.out w6 HK26.out
      have hb06 : b0 < w6.heap.size := World.block_lt_of_cell? w6 _ h6c.1
      have hb16 : b0 + 1 < w6.heap.size := World.block_lt_of_cell? w6 _ h6c.2.2.1
      have hl6 : LogAt w7 l d P tk.1 G2 := HL2.out.keep hk67 fun g hg hf => HFG2.out g hf hg
      have hM7 : OpM w w7 d l b0 P F F7 G2 q.2 tk.1 := by
       refine ⟨⟨hD7, hl6, fun g hg hg2 => ?_⟩, fun g hg => (hF7 g hg).imp id fun h => ?_, fun g hg => ?_, ?_, (hk67.cell (p := ⟨b0, 0, none⟩) hb06 hb0F.1).trans h6c.1, (hk67.frozen (p := ⟨b0, 0, none⟩) hb06 hb0F.1).trans h6c.2.1,
        (hk67.cell (p := ⟨b0 + 1, 0, none⟩) hb16 hb0F.2).trans h6c.2.2.1, (hk67.frozen (p := ⟨b0 + 1, 0, none⟩) hb16 hb0F.2).trans h6c.2.2.2, h0, by omega, hk67.lt hb16⟩
       ·rcases hF7 g hg with h1 | h1
        ·exact HFG2.out g h1 hg2
        ·have := HL2.out.lt g hg2
         have h2 : w6.heap.size ≤ g := h1
         omega
       ·exact Nat.le_trans (Nat.le_trans HKW.out.size HK26.out.size) h
       ·rcases HG26.out g hg with h1 | h1
        ·rw [show g = l from h1]; omega
        ·have h2 := hb0F
         have h3 := HKW.out.size
         have h4 : l < w5.heap.size := hlw
         omega
       ·refine (Kp.of_no HKW.out).trans hkb fun i hi hb => ?_
        rcases hb with hb | hb
        ·rw [show i = l from hb] at hi
         omega
        ·exact hb
      have hF7n : ∀ g, F7 g → ¬ (g = b0 ∨ g = b0 + 1) := fun g hg hb => by
       rcases hF7 g hg with h1 | h1
       ·have := HD.out.lt g h1
        omega
       ·have h2 : w6.heap.size ≤ g := h1
        omega
      have HFX := Lib.hid hF7n
      have HM7 := Lib.hid hM7
      have HQ := Lib.hid hq
      clear hD7 hF7 hK7 hq h0 hllb hk67 hkb hb0F h6c hb06 hb16 hl6 hM7 hcp6
      rcases hgp with ⟨hz0, rfl⟩ | ⟨hz0, rfl⟩
      ·have hzm : scanS s.files P st0 (N.filter (isSegN P)) = (tk.1, x :: M.drop (j2 + 1)) := by rw [← HME.out]; exact HZ.out
       have hq7 : end0 P s tk.1.segs (x :: M.drop (j2 + 1)) = (0, q.2) := by
        show endS P s tk.1.segs x (M.drop (j2 + 1)) = (0, q.2)
        rw [← HQ.out, ← hz0]
       have HO := Lib.hid (openS_go hzm hq7)
       clear hzm hq7
       go_wp2_with fail
       refine upto_done ?_
       obtain ⟨st', hst'⟩ : ∃ st', st' = tk.1 := ⟨_, rfl⟩
       obtain ⟨s', hs'⟩ : ∃ s', s' = q.2 := ⟨_, rfl⟩
       rw [← hst', ← hs'] at HO HM7
       clear hst' hs' hz0 HQ HZ HTV HTB HDR HSC HG1 HK1' HT1 HL2 HK26 HG26 HFG2 HSB HBS HMS HMD HMO
       go_upto_region 18 with fail
       obtain ⟨sv, ev, E, hC, hE, hLF, hGl⟩ := HM7.out.at_.log
       obtain ⟨sa, sc, rfl, hsc, hsr⟩ := hC.segs.rd
       obtain ⟨ea, ec, rfl, hec, _⟩ := hC.ents.rd
       obtain ⟨sn, hsn⟩ : ∃ sn, sn = st'.segs.length := ⟨_, rfl⟩
       obtain ⟨en, hen⟩ : ∃ en, en = E.length := ⟨_, rfl⟩
       have hsnb : (sn : Int) ≤ 9223372036854775807 := by
        obtain ⟨_, a', cap', hv', q1, q2, _⟩ := hC.segs
        simp only [maxLen] at q2
        rw [hsn]
        omega
       obtain ⟨_, _, c2, _, _, _, _⟩ := hC.cells
       have hll7 := get_lt hC.cell
       have c2w := c2 w7 (Kp.refl _ _)
       rw [← hsn] at c2w
       have hcp := HM7.out.ptr
       have hs7 := HM7.out.size
       have hb07 : b0 < w7.heap.size := by omega
       have hGF : ∀ g, LFP l (.slice sa st'.segs.length sc) (.slice ea E.length ec) E g → ¬ _ := fun g hg hf => HM7.out.at_.sep g hf (hLF g hg)
       have HC := Lib.hid hC
       have HE := Lib.hid hE
       have HSR := Lib.hid hsr
       have HSN := Lib.hid hsn
       have HEN := Lib.hid hen
       have HGF := Lib.hid hGF
       have HLF := Lib.hid hLF
       clear hC hE hLF hGl hsr hsn hen c2 hsc hec hGF
       go_wp2_with fail
       rename World => w7
       go_loopw [67] (fun s67 wr => ∃ i : Nat, i ≤ sn ∧ s67 = .int .i64 (i : Int) ∧ Hid (SyR w7 wr d s' _ (st'.segs.map fun x => bnm P x.1) i)) (fun s67 _ => sn - (intOf s67).toNat)
       case atStart => exact ⟨0, by omega, rfl, Lib.hid ⟨s', _, by simp [syAll], HM7.out.at_.disk, Foot.refl _ _, Kp.refl _ _⟩⟩
       case round =>
        obtain ⟨i, hi, rfl, HR⟩ := hrel
        obtain ⟨s3, F3, hsy, hD3, hF3, hk3⟩ := HR.out
        clear HR
        have hlr := hk3.lt hll7
        have hM := HM7.out
        have hF03 : ∀ g, F3 g → ¬ (g = b0 ∨ g = b0 + 1) := fun g hg hb => by
         rcases hF3 g hg with h1 | h1
         ·exact HFX.out g h1 hb
         ·omega
        have hFX0 := fun h => HFX.out b0 h (.inl rfl)
        have hFX1 := fun h => HFX.out (b0 + 1) h (.inr rfl)
        have hcpr := (hk3.cell (p := ⟨b0, 0, none⟩) hb07 hFX0).trans hM.ptr
        have hcpf := (hk3.frozen (p := ⟨b0, 0, none⟩) hb07 hFX0).trans hM.ptrf
        have hcer := (hk3.cell (p := ⟨b0 + 1, 0, none⟩) hs7 hFX1).trans hM.err
        have hcef := (hk3.frozen (p := ⟨b0 + 1, 0, none⟩) hs7 hFX1).trans hM.errf
        have hbr := hk3.lt hb07
        have hbr1 := hk3.lt hs7
        have HH := Lib.hid (And.intro hsy (And.intro hD3 (And.intro hF3 (And.intro hk3 hF03))))
        clear hsy hD3 hF3 hF03 hM
        by_cases hlt : i < sn
        ·obtain ⟨sg, soff, rfl, hsc⟩ := rd_chunk (segC_len P) (by decide) HSR.out (k := i) (by rw [← HSN.out]; exact hlt)
         have hsgF : ¬ _ := fun hf => HGF.out sg (.inr (.inl rfl)) hf
         have hg0 := hsc w7 (Kp.refl _ _) 0 _ rfl
         have hg1 := hsc w7 (Kp.refl _ _) 1 _ rfl
         rw [Nat.add_zero] at hg0
         have hsgl := World.block_lt_of_cell? w7 _ hg0
         have hr0 := (hk3.cell (p := ⟨sg, soff + i * 2, none⟩) hsgl hsgF).trans hg0
         have hr1 := (hk3.cell (p := ⟨sg, soff + i * 2 + 1, none⟩) hsgl hsgF).trans hg1
         have hAi : i < (st'.segs.map fun x => bnm P x.1).length := by rw [List.length_map, ← HSN.out]; exact hlt
         obtain ⟨nm, hnm⟩ : ∃ nm, nm = bnm P (st'.segs[i]'(by rw [← HSN.out]; exact hlt)).1 := ⟨_, rfl⟩
         have hAn : (st'.segs.map fun x => bnm P x.1)[i] = nm := by rw [List.getElem_map, hnm]
         obtain ⟨zb, hzb⟩ : ∃ zb, zb = (st'.segs[i]'(by rw [← HSN.out]; exact hlt)).2 := ⟨_, rfl⟩
         rw [← hnm] at hr0
         rw [← hzb] at hr1
         have hsgr := hk3.lt hsgl
         have HAN := Lib.hid (show ∃ h : i < (st'.segs.map fun x => bnm P x.1).length, (st'.segs.map fun x => bnm P x.1)[i] = nm from ⟨hAi, hAn⟩)
         clear hsc hg0 hg1 hAn hAi hnm hzb hk3
         go_upto_region 21 with fail
         obtain ⟨w8, hw8⟩ : ∃ W, W = wr.alloc (.cells #[.string nm, .int .i64 (zb : Int)] 90) := ⟨_, rfl⟩
         have hk8 : Kp No wr w8 := by rw [hw8]; exact (Kp.refl _ _).alloc _
         have h8c : w8.cell? ⟨wr.heap.size, 0, none⟩ = some (.string nm) := by rw [hw8]; simp [go_sem]
         rw [← hw8]
         clear hw8 hr0 hr1 hsgr
         have hsy3 := Sync_any w8 d s3 F3 (HH.out.2.1.keep_no hk8) nm
         obtain ⟨q3, hq3⟩ : ∃ q, q = syS s3 nm := ⟨_, rfl⟩
         have hqc := sy_code s3 nm
         rw [← hq3] at hsy3 hqc
         have HQ3 := Lib.hid hq3
         clear hq3
         have hl8 := hk8.lt hlr
         go_wp2_with fail
         with_reducible refine hsy3.mono ?_
         rintro e w9 ⟨rfl, F9, hD9, hF9, hk9⟩
         clear hsy3
         obtain ⟨qc, hqe⟩ : ∃ qc, qc = q3.1 := ⟨_, rfl⟩
         rw [← hqe] at hqc ⊢
         have hg := gate_any qc hqc.1 hqc.2 w9
         have hk39 : Kp _ w7 w9 := kp_foot (HH.out.2.2.2.1.trans_no hk8) HH.out.2.2.1 hk9
         have hF39 : Foot _ F9 w7 := HH.out.2.2.1.trans (fun g hg => (hF9 g hg).imp id fun h => Nat.le_trans hk8.size h) HH.out.2.2.2.1.size
         have HN9 := Lib.hid (And.intro hD9 (And.intro hF39 hk39))
         have HQE := Lib.hid hqe
         clear hD9 hF9 hk9 hqe hF39 hk39
         go_wp2_with fail
         with_reducible refine hg.mono ?_
         rintro e w' ⟨hgp, rfl⟩
         clear hg
         rcases hgp with ⟨hz, rfl⟩ | ⟨hz, rfl⟩
         ·have HNEW := Lib.hid (show SyR w7 w9 d s' _ (st'.segs.map fun x => bnm P x.1) (i + 1) from by
           obtain ⟨hAi, hAn⟩ := HAN.out
           refine ⟨q3.2, F9, ?_, HN9.out⟩
           have := syAll_next hAi HH.out.1 (by rw [hAn, ← HQ3.out, ← HQE.out]; exact hz)
           rw [hAn, ← HQ3.out] at this
           exact this)
          clear hcpr hcpf hcer hcef hbr hbr1
          go_wp2_with fail
          go_roundw
          case rel => exact ⟨i + 1, by omega, by push_cast; rfl, HNEW⟩
          case measure => simp [intOf]; omega
         ·have hM := HM7.out
          have hh := HN9.out
          obtain ⟨hAi, hAn⟩ := HAN.out
          have hfl := syAll_fail hAi HH.out.1 (by rw [hAn, ← HQ3.out, ← HQE.out]; exact hz)
          rw [hAn, ← HQ3.out] at hfl
          obtain ⟨kn, hkn⟩ := Int.eq_ofNat_of_zero_le hqc.1
          have hF9n : ∀ g, F9 g → ¬ (g = b0 ∨ g = b0 + 1) := fun g hg hb => by
           rcases hh.2.1 g hg with h1 | h1
           ·exact HFX.out g h1 hb
           ·omega
          have hM9 : OpM w w9 d l b0 P F F9 _ q3.2 st' := ⟨⟨hh.1, hM.at_.log.keep hh.2.2 (fun g hg hf => hM.at_.sep g hf hg), fun g hf hg => by
            rcases hh.2.1 g hf with h1 | h1
            ·exact hM.at_.sep g h1 hg
            ·have := hM.at_.log.lt g hg
             omega⟩, hM.foot.trans hh.2.1 hM.kp.size, hM.new, kp_foot hM.kp hM.foot hh.2.2,
           (hh.2.2.cell (p := ⟨b0, 0, none⟩) hb07 hFX0).trans hM.ptr, (hh.2.2.frozen (p := ⟨b0, 0, none⟩) hb07 hFX0).trans hM.ptrf, (hh.2.2.cell (p := ⟨b0 + 1, 0, none⟩) hs7 hFX1).trans hM.err, (hh.2.2.frozen (p := ⟨b0 + 1, 0, none⟩) hs7 hFX1).trans hM.errf, hM.b0w, hM.ll, hh.2.2.lt hs7⟩
          rw [hkn] at hz ⊢
          refine open_leaves hM9 kn _ rfl rfl _ fun w'' hw'' => ?_
          rw [← HNN.out, HO.out]
          refine .inr ⟨?_, F9, ?_, ?_, hM9.foot, ?_⟩
          ·rw [hfl, ← HQE.out, hkn]
           exact hz
          ·rw [hfl, ← HQE.out, hkn]
          ·rw [hfl]
           exact hM9.at_.disk.keep hw'' fun g hg hb => hF9n g hg hb
          ·refine hM9.kp.trans hw'' fun i hi hb => ?_
           have h2 := hM9.b0w
           omega
        ·have hin : i = sn := by omega
         have hC9 := HC.out.keep HH.out.2.2.2.1 (fun g hg hf => HGF.out g hg hf)
         obtain ⟨_, _, _, d3, d4, _, dfr⟩ := hC9.cells
         rw [← HEN.out] at d3
         have dp : ∀ W, Kp No wr W → W.cell? ⟨b0, 0, none⟩ = some (.pointer (some ⟨l, 0, none⟩)) := fun W hW => (hW.cell (p := ⟨b0, 0, none⟩) hbr (fun x => x)).trans hcpr
         have HC9 := Lib.hid hC9
         have HD4 := Lib.hid (And.intro d4 dfr)
         clear hC9 d4 dfr hk3
         go_upto_region 23 with fail
         refine wp_region_fin (Kp No wr) [0,0,0,0,0,1,0,0,2] [0,1,2,3,4,5,6,7] 8 [] (by kernel_rfl) (by kernel_rfl) (fun _ n h => h.drewN n) (Kp.refl _ _) ?_
         repeat (first
          | (apply wpOrd_skip rfl (by decide) rfl; (focus (go_simp; rfl)))
          | (apply wpOrd_pure rfl rfl rfl; (focus (intro _ _; go_simp; (try go_ints); rfl)); (focus (go_simp; rfl)))
          | (apply wpOrd_read rfl rfl rfl; (focus (intro _; go_simp; (try go_ints); rfl)); (focus (go_simp; rfl))))
         refine fin_now (fun n1 => ?_)
         refine wpSeq_step rfl ?_
         obtain ⟨w9, hw9⟩ : ∃ W, W = wr.drewN n1 := ⟨_, rfl⟩
         have hk9 : Kp No wr w9 := by rw [hw9]; exact (Kp.refl No wr).drewN n1
         rw [← hw9]
         have d49 := HD4.out.1 w9 hk9
         have df9 := HD4.out.2 w9 hk9 4
         have hl9 := hk9.lt hlr
         have hC10 := HC9.out.keep_no hk9
         have hcl := set_at hC10.cell 4 (.int .i64 (en : Int))
         obtain ⟨w10, hw10⟩ : ∃ W, W = w9.setCell ⟨l, 4, none⟩ (.int .i64 (en : Int)) := ⟨_, rfl⟩
         have hkl : Kp (One l) w9 w10 := by rw [hw10]; exact (Kp.refl (One l) _).setCell (p := ⟨l, 4, none⟩) (.inl rfl) _
         have hC11 : LogC w10 l d P _ _ st'.segs E en st'.dead := hC10.turn hkl (by rw [hw10]; simpa using hcl)
         have hlb : l ≠ b0 ∧ l ≠ b0 + 1 := by have := HM7.out.ll; omega
         have hkall : Kp (One l) wr w10 := (Kp.of_no hk9).trans_same hkl
         have p10 := (hkall.cell (p := ⟨b0, 0, none⟩) hbr (fun e => hlb.1 e.symm)).trans hcpr
         have p10f := (hkall.frozen (p := ⟨b0, 0, none⟩) hbr (fun e => hlb.1 e.symm)).trans hcpf
         have e10 := (hkall.cell (p := ⟨b0 + 1, 0, none⟩) hbr1 (fun e => hlb.2 e.symm)).trans hcer
         have e10f := (hkall.frozen (p := ⟨b0 + 1, 0, none⟩) hbr1 (fun e => hlb.2 e.symm)).trans hcef
         have hbr10 := hkall.lt hbr
         have hbr110 := hkall.lt hbr1
         have HC11 := Lib.hid hC11
         have HKL := Lib.hid hkall
         have HW10 := Lib.hid hw10
         clear hw9 hC10 hcl hC11 hkl hw10 hkall dp d3
         go_wp2_with fail
         refine upto_done ?_
         rw [← HW10.out]
         clear d49 df9 hcpr hcpf hcer hcef
         go_wp2_with fail
         obtain ⟨w11, hw11⟩ : ∃ W, W = (w10.setCell ⟨b0, 0, none⟩ (.pointer (some ⟨l, 0, none⟩))).setCell ⟨b0 + 1, 0, none⟩ (.int .i64 0) := ⟨_, rfl⟩
         have hk11 : Kp (fun i => i = b0 ∨ i = b0 + 1) w10 w11 := by
          rw [hw11]
          exact ((Kp.refl (fun i => i = b0 ∨ i = b0 + 1) w10).setCell (p := ⟨b0, 0, none⟩) (.inl (.inl rfl)) _).setCell (p := ⟨b0 + 1, 0, none⟩) (.inl (.inr rfl)) _
         have p11 : w11.cell? ⟨b0, 0, none⟩ = some (.pointer (some ⟨l, 0, none⟩)) := by
          have hk : Kp (One (b0 + 1)) (w10.setCell ⟨b0, 0, none⟩ (.pointer (some ⟨l, 0, none⟩))) w11 := by rw [hw11]; exact (Kp.refl (One (b0 + 1)) _).setCell (p := ⟨b0 + 1, 0, none⟩) (.inl rfl) _
          rw [hk.cell (p := ⟨b0, 0, none⟩) (by simpa [World.setCell] using hbr10) (by show ¬ b0 = b0 + 1; omega)]
          simp [go_sem, p10]
         have e11 : w11.cell? ⟨b0 + 1, 0, none⟩ = some (.int .i64 0) := by
          have hk : Kp (One b0) w10 (w10.setCell ⟨b0, 0, none⟩ (.pointer (some ⟨l, 0, none⟩))) := (Kp.refl (One b0) _).setCell (p := ⟨b0, 0, none⟩) (.inl rfl) _
          have h2 := (hk.cell (p := ⟨b0 + 1, 0, none⟩) hbr110 (by show ¬ b0 + 1 = b0; omega)).trans e10
          rw [hw11]
          simp [go_sem, h2]
         rw [← hw11]
         have hM := HM7.out
         have hlF : ¬ F3 l := fun h => by
          rcases HH.out.2.2.1 l h with h1 | h1
          ·exact HGF.out l (.inl rfl) h1
          ·omega
         have hsyA : syAll s' (st'.segs.map fun x => bnm P x.1) = (0, s3) := by
          have h1 := HH.out.1
          rw [hin, HSN.out, ← List.length_map (f := fun x : Nat × Nat => bnm P x.1), List.take_length] at h1
          exact h1
         have hlnew := fun g hg => hM.new g (HLF.out g hg)
         have hC12 := HC11.out.keep hk11 (fun g hg hb => by have := hlnew g hg; omega)
         have hEl : st'.ents.length = en := by rw [HE.out, List.length_map, HEN.out]
         have h0 := hM.b0w
         refine open_done p11 e11 _ rfl rfl _ ?_
         rw [← HNN.out, HO.out, hsyA, hEl]
         refine .inl ⟨rfl, l, F3, LFP l _ _ E, rfl, ⟨(HH.out.2.1.keep HKL.out fun g hg (e : g = l) => hlF (e ▸ hg)).keep hk11 fun g hg hb => HH.out.2.2.2.2 g hg hb, ⟨_, _, E, hC12, HE.out, fun _ x => x, hC12.lt⟩, fun g hf hg => ?_⟩, hM.foot.trans HH.out.2.2.1 hM.kp.size, fun g hg => ?_, ?_⟩
         ·rcases HH.out.2.2.1 g hf with h1 | h1
          ·exact HGF.out g hg h1
          ·have := HC.out.lt g hg
           omega
         ·have := hlnew g hg
          omega
         ·refine ((kp_foot hM.kp hM.foot HH.out.2.2.2.1).trans HKL.out fun i hi (e : i = l) => ?_).trans hk11 fun i hi hb => ?_
          ·have := hM.ll
           omega
          ·omega
      ·have hzm : scanS s.files P st0 (N.filter (isSegN P)) = (tk.1, x :: M.drop (j2 + 1)) := by rw [← HME.out]; exact HZ.out
       have hq7 : (end0 P s tk.1.segs (x :: M.drop (j2 + 1))).1 ≠ 0 := by
        show (endS P s tk.1.segs x (M.drop (j2 + 1))).1 ≠ 0
        rw [← HQ.out]
        exact hz0
       have hop := openS_no hzm hq7
       rw [show end0 P s tk.1.segs (x :: M.drop (j2 + 1)) = q from HQ.out.symm] at hop
       have HO := Lib.hid hop
       clear hzm hq7 hop
       obtain ⟨kn, hkn⟩ := Int.eq_ofNat_of_zero_le (show 0 ≤ q.1 by rw [HQ.out]; exact (ends_code P s tk.1.segs x _).1)
       have hM7 := HM7.out
       rw [hkn] at hz0 ⊢
       refine open_leaves hM7 kn _ rfl rfl _ fun w'' hw'' => ?_
       rw [← HNN.out, HO.out]
       refine .inr ⟨by rw [hkn]; exact hz0, F7, by rw [hkn], hM7.at_.disk.keep hw'' fun g hg hb => ?_, hM7.foot, ?_⟩
       ·have h1 := hM7.at_.disk.lt g hg
        have h2 := hM7.b0w
        rcases hM7.foot g hg with h3 | h3
        ·have := HD.out.lt g h3
         omega
        ·have hF7 := hF7n g hg
         omega
       ·refine hM7.kp.trans hw'' fun i hi hb => ?_
        have h2 := hM7.b0w
        omega
    ·have hjk : j2 = k := by omega
     have hz : scanS s.files P st0 (N.filter (isSegN P)) = (st1, []) := by
      rw [← HME.out]
      rw [hjk, HKM.out, List.take_length] at hsc
      exact hsc
     have HO := Lib.hid (openS_go (s' := s) hz rfl)
     have h0 := HB0.out
     have hllb := HLL.out
     have hbw := World.block_lt_of_cell? wr _ (H5C.out wr hk1).2.2.1
     have hM7 : OpM w wr d l b0 P F F G1 s st1 := by
      have h6c := H5C.out wr hk1
      refine ⟨⟨HD5.out.keep hk1 HFL.out, hL1, fun g hg hg2 => ?_⟩, Foot.refl _ _, fun g hg => ?_, ?_, h6c.1, h6c.2.1, h6c.2.2.1, h6c.2.2.2, h0, by omega, hbw⟩
      ·rcases hG1 g hg2 with h1 | h1
       ·exact HFL.out g hg h1
       ·have := HD5.out.lt g hg
        omega
      ·rcases hG1 g hg with h1 | h1
       ·rw [show g = l from h1]; omega
       ·have h3 := HKW.out.size
        have h4 : l < w5.heap.size := hlw
        omega
      ·refine (Kp.of_no HKW.out).trans hk1 fun i hi hb => ?_
       rw [show i = l from hb] at hi
       omega
     have HM7 := Lib.hid hM7
     obtain ⟨st', hst'⟩ : ∃ st', st' = st1 := ⟨_, rfl⟩
     obtain ⟨s', hs'⟩ : ∃ s', s' = s := ⟨_, rfl⟩
     have hFX : ∀ g, F g → ¬ (g = b0 ∨ g = b0 + 1) := fun g hg hb => by have := HD.out.lt g hg; omega
     have HFX := Lib.hid hFX
     rw [← hst'] at HO HM7
     rw [← hs'] at HM7
     rw [show syAll s = syAll s' from by rw [hs']] at HO
     clear hst' hs' hsc hL1 hG1 hk1 hM7 hbw h0 hllb hz hFX HSB HBS HMS HMD HMO
     go_upto_region 18 with fail
     obtain ⟨w7, hw7⟩ : ∃ W, W = wr := ⟨_, rfl⟩
     rw [← hw7] at HM7 ⊢
     clear hw7 hlt hj2 hjk
     obtain ⟨sv, ev, E, hC, hE, hLF, hGl⟩ := HM7.out.at_.log
     obtain ⟨sa, sc, rfl, hsc, hsr⟩ := hC.segs.rd
     obtain ⟨ea, ec, rfl, hec, _⟩ := hC.ents.rd
     obtain ⟨sn, hsn⟩ : ∃ sn, sn = st'.segs.length := ⟨_, rfl⟩
     obtain ⟨en, hen⟩ : ∃ en, en = E.length := ⟨_, rfl⟩
     have hsnb : (sn : Int) ≤ 9223372036854775807 := by
      obtain ⟨_, a', cap', hv', q1, q2, _⟩ := hC.segs
      simp only [maxLen] at q2
      rw [hsn]
      omega
     obtain ⟨_, _, c2, _, _, _, _⟩ := hC.cells
     have hll7 := get_lt hC.cell
     have c2w := c2 w7 (Kp.refl _ _)
     rw [← hsn] at c2w
     have hcp := HM7.out.ptr
     have hs7 := HM7.out.size
     have hb07 : b0 < w7.heap.size := by omega
     have hGF : ∀ g, LFP l (.slice sa st'.segs.length sc) (.slice ea E.length ec) E g → ¬ _ := fun g hg hf => HM7.out.at_.sep g hf (hLF g hg)
     have HC := Lib.hid hC
     have HE := Lib.hid hE
     have HSR := Lib.hid hsr
     have HSN := Lib.hid hsn
     have HEN := Lib.hid hen
     have HGF := Lib.hid hGF
     have HLF := Lib.hid hLF
     clear hC hE hLF hGl hsr hsn hen c2 hsc hec hGF
     go_wp2_with fail
     rename World => w7
     go_loopw [67] (fun s67 wr => ∃ i : Nat, i ≤ sn ∧ s67 = .int .i64 (i : Int) ∧ Hid (SyR w7 wr d s' _ (st'.segs.map fun x => bnm P x.1) i)) (fun s67 _ => sn - (intOf s67).toNat)
     case atStart => exact ⟨0, by omega, rfl, Lib.hid ⟨s', _, by simp [syAll], HM7.out.at_.disk, Foot.refl _ _, Kp.refl _ _⟩⟩
     case round =>
      obtain ⟨i, hi, rfl, HR⟩ := hrel
      obtain ⟨s3, F3, hsy, hD3, hF3, hk3⟩ := HR.out
      clear HR
      have hlr := hk3.lt hll7
      have hM := HM7.out
      have hF03 : ∀ g, F3 g → ¬ (g = b0 ∨ g = b0 + 1) := fun g hg hb => by
       rcases hF3 g hg with h1 | h1
       ·exact HFX.out g h1 hb
       ·omega
      have hFX0 := fun h => HFX.out b0 h (.inl rfl)
      have hFX1 := fun h => HFX.out (b0 + 1) h (.inr rfl)
      have hcpr := (hk3.cell (p := ⟨b0, 0, none⟩) hb07 hFX0).trans hM.ptr
      have hcpf := (hk3.frozen (p := ⟨b0, 0, none⟩) hb07 hFX0).trans hM.ptrf
      have hcer := (hk3.cell (p := ⟨b0 + 1, 0, none⟩) hs7 hFX1).trans hM.err
      have hcef := (hk3.frozen (p := ⟨b0 + 1, 0, none⟩) hs7 hFX1).trans hM.errf
      have hbr := hk3.lt hb07
      have hbr1 := hk3.lt hs7
      have HH := Lib.hid (And.intro hsy (And.intro hD3 (And.intro hF3 (And.intro hk3 hF03))))
      clear hsy hD3 hF3 hF03 hM
      by_cases hlt : i < sn
      ·obtain ⟨sg, soff, rfl, hsc⟩ := rd_chunk (segC_len P) (by decide) HSR.out (k := i) (by rw [← HSN.out]; exact hlt)
       have hsgF : ¬ _ := fun hf => HGF.out sg (.inr (.inl rfl)) hf
       have hg0 := hsc w7 (Kp.refl _ _) 0 _ rfl
       have hg1 := hsc w7 (Kp.refl _ _) 1 _ rfl
       rw [Nat.add_zero] at hg0
       have hsgl := World.block_lt_of_cell? w7 _ hg0
       have hr0 := (hk3.cell (p := ⟨sg, soff + i * 2, none⟩) hsgl hsgF).trans hg0
       have hr1 := (hk3.cell (p := ⟨sg, soff + i * 2 + 1, none⟩) hsgl hsgF).trans hg1
       have hAi : i < (st'.segs.map fun x => bnm P x.1).length := by rw [List.length_map, ← HSN.out]; exact hlt
       obtain ⟨nm, hnm⟩ : ∃ nm, nm = bnm P (st'.segs[i]'(by rw [← HSN.out]; exact hlt)).1 := ⟨_, rfl⟩
       have hAn : (st'.segs.map fun x => bnm P x.1)[i] = nm := by rw [List.getElem_map, hnm]
       obtain ⟨zb, hzb⟩ : ∃ zb, zb = (st'.segs[i]'(by rw [← HSN.out]; exact hlt)).2 := ⟨_, rfl⟩
       rw [← hnm] at hr0
       rw [← hzb] at hr1
       have hsgr := hk3.lt hsgl
       have HAN := Lib.hid (show ∃ h : i < (st'.segs.map fun x => bnm P x.1).length, (st'.segs.map fun x => bnm P x.1)[i] = nm from ⟨hAi, hAn⟩)
       clear hsc hg0 hg1 hAn hAi hnm hzb hk3
       go_upto_region 21 with fail
       obtain ⟨w8, hw8⟩ : ∃ W, W = wr.alloc (.cells #[.string nm, .int .i64 (zb : Int)] 90) := ⟨_, rfl⟩
       have hk8 : Kp No wr w8 := by rw [hw8]; exact (Kp.refl _ _).alloc _
       have h8c : w8.cell? ⟨wr.heap.size, 0, none⟩ = some (.string nm) := by rw [hw8]; simp [go_sem]
       rw [← hw8]
       clear hw8 hr0 hr1 hsgr
       have hsy3 := Sync_any w8 d s3 F3 (HH.out.2.1.keep_no hk8) nm
       obtain ⟨q3, hq3⟩ : ∃ q, q = syS s3 nm := ⟨_, rfl⟩
       have hqc := sy_code s3 nm
       rw [← hq3] at hsy3 hqc
       have HQ3 := Lib.hid hq3
       clear hq3
       have hl8 := hk8.lt hlr
       go_wp2_with fail
       with_reducible refine hsy3.mono ?_
       rintro e w9 ⟨rfl, F9, hD9, hF9, hk9⟩
       clear hsy3
       obtain ⟨qc, hqe⟩ : ∃ qc, qc = q3.1 := ⟨_, rfl⟩
       rw [← hqe] at hqc ⊢
       have hg := gate_any qc hqc.1 hqc.2 w9
       have hk39 : Kp _ w7 w9 := kp_foot (HH.out.2.2.2.1.trans_no hk8) HH.out.2.2.1 hk9
       have hF39 : Foot _ F9 w7 := HH.out.2.2.1.trans (fun g hg => (hF9 g hg).imp id fun h => Nat.le_trans hk8.size h) HH.out.2.2.2.1.size
       have HN9 := Lib.hid (And.intro hD9 (And.intro hF39 hk39))
       have HQE := Lib.hid hqe
       clear hD9 hF9 hk9 hqe hF39 hk39
       go_wp2_with fail
       with_reducible refine hg.mono ?_
       rintro e w' ⟨hgp, rfl⟩
       clear hg
       rcases hgp with ⟨hz, rfl⟩ | ⟨hz, rfl⟩
       ·have HNEW := Lib.hid (show SyR w7 w9 d s' _ (st'.segs.map fun x => bnm P x.1) (i + 1) from by
         obtain ⟨hAi, hAn⟩ := HAN.out
         refine ⟨q3.2, F9, ?_, HN9.out⟩
         have := syAll_next hAi HH.out.1 (by rw [hAn, ← HQ3.out, ← HQE.out]; exact hz)
         rw [hAn, ← HQ3.out] at this
         exact this)
        clear hcpr hcpf hcer hcef hbr hbr1
        go_wp2_with fail
        go_roundw
        case rel => exact ⟨i + 1, by omega, by push_cast; rfl, HNEW⟩
        case measure => simp [intOf]; omega
       ·have hM := HM7.out
        have hh := HN9.out
        obtain ⟨hAi, hAn⟩ := HAN.out
        have hfl := syAll_fail hAi HH.out.1 (by rw [hAn, ← HQ3.out, ← HQE.out]; exact hz)
        rw [hAn, ← HQ3.out] at hfl
        obtain ⟨kn, hkn⟩ := Int.eq_ofNat_of_zero_le hqc.1
        have hF9n : ∀ g, F9 g → ¬ (g = b0 ∨ g = b0 + 1) := fun g hg hb => by
         rcases hh.2.1 g hg with h1 | h1
         ·exact HFX.out g h1 hb
         ·omega
        have hM9 : OpM w w9 d l b0 P F F9 _ q3.2 st' := ⟨⟨hh.1, hM.at_.log.keep hh.2.2 (fun g hg hf => hM.at_.sep g hf hg), fun g hf hg => by
          rcases hh.2.1 g hf with h1 | h1
          ·exact hM.at_.sep g h1 hg
          ·have := hM.at_.log.lt g hg
           omega⟩, hM.foot.trans hh.2.1 hM.kp.size, hM.new, kp_foot hM.kp hM.foot hh.2.2,
         (hh.2.2.cell (p := ⟨b0, 0, none⟩) hb07 hFX0).trans hM.ptr, (hh.2.2.frozen (p := ⟨b0, 0, none⟩) hb07 hFX0).trans hM.ptrf, (hh.2.2.cell (p := ⟨b0 + 1, 0, none⟩) hs7 hFX1).trans hM.err, (hh.2.2.frozen (p := ⟨b0 + 1, 0, none⟩) hs7 hFX1).trans hM.errf, hM.b0w, hM.ll, hh.2.2.lt hs7⟩
        rw [hkn] at hz ⊢
        refine open_leaves hM9 kn _ rfl rfl _ fun w'' hw'' => ?_
        rw [← HNN.out, HO.out]
        refine .inr ⟨?_, F9, ?_, ?_, hM9.foot, ?_⟩
        ·rw [hfl, ← HQE.out, hkn]
         exact hz
        ·rw [hfl, ← HQE.out, hkn]
        ·rw [hfl]
         exact hM9.at_.disk.keep hw'' fun g hg hb => hF9n g hg hb
        ·refine hM9.kp.trans hw'' fun i hi hb => ?_
         have h2 := hM9.b0w
         omega
      ·have hin : i = sn := by omega
       have hC9 := HC.out.keep HH.out.2.2.2.1 (fun g hg hf => HGF.out g hg hf)
       obtain ⟨_, _, _, d3, d4, _, dfr⟩ := hC9.cells
       rw [← HEN.out] at d3
       have dp : ∀ W, Kp No wr W → W.cell? ⟨b0, 0, none⟩ = some (.pointer (some ⟨l, 0, none⟩)) := fun W hW => (hW.cell (p := ⟨b0, 0, none⟩) hbr (fun x => x)).trans hcpr
       have HC9 := Lib.hid hC9
       have HD4 := Lib.hid (And.intro d4 dfr)
       clear hC9 d4 dfr hk3
       go_upto_region 23 with fail
       refine wp_region_fin (Kp No wr) [0,0,0,0,0,1,0,0,2] [0,1,2,3,4,5,6,7] 8 [] (by kernel_rfl) (by kernel_rfl) (fun _ n h => h.drewN n) (Kp.refl _ _) ?_
       repeat (first
        | (apply wpOrd_skip rfl (by decide) rfl; (focus (go_simp; rfl)))
        | (apply wpOrd_pure rfl rfl rfl; (focus (intro _ _; go_simp; (try go_ints); rfl)); (focus (go_simp; rfl)))
        | (apply wpOrd_read rfl rfl rfl; (focus (intro _; go_simp; (try go_ints); rfl)); (focus (go_simp; rfl))))
       refine fin_now (fun n1 => ?_)
       refine wpSeq_step rfl ?_
       obtain ⟨w9, hw9⟩ : ∃ W, W = wr.drewN n1 := ⟨_, rfl⟩
       have hk9 : Kp No wr w9 := by rw [hw9]; exact (Kp.refl No wr).drewN n1
       rw [← hw9]
       have d49 := HD4.out.1 w9 hk9
       have df9 := HD4.out.2 w9 hk9 4
       have hl9 := hk9.lt hlr
       have hC10 := HC9.out.keep_no hk9
       have hcl := set_at hC10.cell 4 (.int .i64 (en : Int))
       obtain ⟨w10, hw10⟩ : ∃ W, W = w9.setCell ⟨l, 4, none⟩ (.int .i64 (en : Int)) := ⟨_, rfl⟩
       have hkl : Kp (One l) w9 w10 := by rw [hw10]; exact (Kp.refl (One l) _).setCell (p := ⟨l, 4, none⟩) (.inl rfl) _
       have hC11 : LogC w10 l d P _ _ st'.segs E en st'.dead := hC10.turn hkl (by rw [hw10]; simpa using hcl)
       have hlb : l ≠ b0 ∧ l ≠ b0 + 1 := by have := HM7.out.ll; omega
       have hkall : Kp (One l) wr w10 := (Kp.of_no hk9).trans_same hkl
       have p10 := (hkall.cell (p := ⟨b0, 0, none⟩) hbr (fun e => hlb.1 e.symm)).trans hcpr
       have p10f := (hkall.frozen (p := ⟨b0, 0, none⟩) hbr (fun e => hlb.1 e.symm)).trans hcpf
       have e10 := (hkall.cell (p := ⟨b0 + 1, 0, none⟩) hbr1 (fun e => hlb.2 e.symm)).trans hcer
       have e10f := (hkall.frozen (p := ⟨b0 + 1, 0, none⟩) hbr1 (fun e => hlb.2 e.symm)).trans hcef
       have hbr10 := hkall.lt hbr
       have hbr110 := hkall.lt hbr1
       have HC11 := Lib.hid hC11
       have HKL := Lib.hid hkall
       have HW10 := Lib.hid hw10
       clear hw9 hC10 hcl hC11 hkl hw10 hkall dp d3
       go_wp2_with fail
       refine upto_done ?_
       rw [← HW10.out]
       clear d49 df9 hcpr hcpf hcer hcef
       go_wp2_with fail
       obtain ⟨w11, hw11⟩ : ∃ W, W = (w10.setCell ⟨b0, 0, none⟩ (.pointer (some ⟨l, 0, none⟩))).setCell ⟨b0 + 1, 0, none⟩ (.int .i64 0) := ⟨_, rfl⟩
       have hk11 : Kp (fun i => i = b0 ∨ i = b0 + 1) w10 w11 := by
        rw [hw11]
        exact ((Kp.refl (fun i => i = b0 ∨ i = b0 + 1) w10).setCell (p := ⟨b0, 0, none⟩) (.inl (.inl rfl)) _).setCell (p := ⟨b0 + 1, 0, none⟩) (.inl (.inr rfl)) _
       have p11 : w11.cell? ⟨b0, 0, none⟩ = some (.pointer (some ⟨l, 0, none⟩)) := by
        have hk : Kp (One (b0 + 1)) (w10.setCell ⟨b0, 0, none⟩ (.pointer (some ⟨l, 0, none⟩))) w11 := by rw [hw11]; exact (Kp.refl (One (b0 + 1)) _).setCell (p := ⟨b0 + 1, 0, none⟩) (.inl rfl) _
        rw [hk.cell (p := ⟨b0, 0, none⟩) (by simpa [World.setCell] using hbr10) (by show ¬ b0 = b0 + 1; omega)]
        simp [go_sem, p10]
       have e11 : w11.cell? ⟨b0 + 1, 0, none⟩ = some (.int .i64 0) := by
        have hk : Kp (One b0) w10 (w10.setCell ⟨b0, 0, none⟩ (.pointer (some ⟨l, 0, none⟩))) := (Kp.refl (One b0) _).setCell (p := ⟨b0, 0, none⟩) (.inl rfl) _
        have h2 := (hk.cell (p := ⟨b0 + 1, 0, none⟩) hbr110 (by show ¬ b0 + 1 = b0; omega)).trans e10
        rw [hw11]
        simp [go_sem, h2]
       rw [← hw11]
       have hM := HM7.out
       have hlF : ¬ F3 l := fun h => by
        rcases HH.out.2.2.1 l h with h1 | h1
        ·exact HGF.out l (.inl rfl) h1
        ·omega
       have hsyA : syAll s' (st'.segs.map fun x => bnm P x.1) = (0, s3) := by
        have h1 := HH.out.1
        rw [hin, HSN.out, ← List.length_map (f := fun x : Nat × Nat => bnm P x.1), List.take_length] at h1
        exact h1
       have hlnew := fun g hg => hM.new g (HLF.out g hg)
       have hC12 := HC11.out.keep hk11 (fun g hg hb => by have := hlnew g hg; omega)
       have hEl : st'.ents.length = en := by rw [HE.out, List.length_map, HEN.out]
       have h0 := hM.b0w
       refine open_done p11 e11 _ rfl rfl _ ?_
       rw [← HNN.out, HO.out, hsyA, hEl]
       refine .inl ⟨rfl, l, F3, LFP l _ _ E, rfl, ⟨(HH.out.2.1.keep HKL.out fun g hg (e : g = l) => hlF (e ▸ hg)).keep hk11 fun g hg hb => HH.out.2.2.2.2 g hg hb, ⟨_, _, E, hC12, HE.out, fun _ x => x, hC12.lt⟩, fun g hf hg => ?_⟩, hM.foot.trans HH.out.2.2.1 hM.kp.size, fun g hg => ?_, ?_⟩
       ·rcases HH.out.2.2.1 g hf with h1 | h1
        ·exact HGF.out g hg h1
        ·have := HC.out.lt g hg
         omega
       ·have := hlnew g hg
        omega
       ·refine ((kp_foot hM.kp hM.foot HH.out.2.2.2.1).trans HKL.out fun i hi (e : i = l) => ?_).trans hk11 fun i hi hb => ?_
        ·have := hM.ll
         omega
        ·omega
end Go.Proofs.YtdibkdgafidjgaaGreatDoor

