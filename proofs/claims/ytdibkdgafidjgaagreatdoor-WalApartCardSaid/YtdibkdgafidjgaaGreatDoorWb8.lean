/-
  Texts laid together: WScan, WRr, WRrNum, WRead.
-/
import Derived.Test.YtdibkdgafidjgaaGreatDoorWa8
import Derived.Test.YtdibkdgafidjgaaGreatDoorWb6
import Derived.Test.YtdibkdgafidjgaaGreatDoorWb5
import Derived.Deep.CutBlock
namespace Go.Proofs.YtdibkdgafidjgaaGreatDoor
open Go.RowKit Go.Mer
def scanG : Nat → List UInt8 → List (List UInt8)
 | 0, _ => []
 | f + 1, b =>
  match deF b with
  | none => []
  | some (p, n) => p :: scanG f (b.drop n)
def scanL (b : List UInt8) : List (List UInt8) := scanG b.length b
theorem scanG_fuel : ∀ (m f g : Nat) (b : List UInt8), b.length ≤ m → b.length ≤ f → b.length ≤ g → scanG f b = scanG g b := by
 intro m
 induction m with
 | zero =>
  intro f g b hm hf hg
  obtain rfl : b = [] := List.eq_nil_of_length_eq_zero (by omega)
  cases f <;> cases g <;> simp [scanG, deF_nil]
 | succ m ih =>
  intro f g b hm hf hg
  cases f with
  | zero =>
   obtain rfl : b = [] := List.eq_nil_of_length_eq_zero (by omega)
   cases g <;> simp [scanG, deF_nil]
  | succ f =>
   cases g with
   | zero =>
    obtain rfl : b = [] := List.eq_nil_of_length_eq_zero (by omega)
    simp [scanG, deF_nil]
   | succ g =>
    rw [scanG, scanG]
    cases hd : deF b with
    | none => rfl
    | some x =>
     obtain ⟨p, n⟩ := x
     obtain ⟨h1, h2, _⟩ := deF_some hd
     simp only
     rw [ih f g (b.drop n) (by rw [List.length_drop]; omega) (by rw [List.length_drop]; omega) (by rw [List.length_drop]; omega)]
theorem scanL_none {b : List UInt8} (h : deF b = none) : scanL b = [] := by
 unfold scanL
 cases hl : b.length with
 | zero => rfl
 | succ f => rw [scanG, h]
theorem scanL_some {b p : List UInt8} {n : Nat} (h : deF b = some (p, n)) : scanL b = p :: scanL (b.drop n) := by
 obtain ⟨h1, h2, _⟩ := deF_some h
 unfold scanL
 cases hl : b.length with
 | zero => omega
 | succ f =>
  rw [scanG, h]
  simp only
  rw [scanG_fuel f f (b.drop n).length (b.drop n) (by rw [List.length_drop]; omega) (by rw [List.length_drop]; omega) (Nat.le_refl _)]
def RowsP (w wr : World) (a : Option Addr) (n c : Nat) (D : List (List UInt8)) : Prop :=
 ∃ Q : List Row, RowRel 23 1 rowC w wr (.slice a n c) n Q ∧ (∀ q ∈ Q, EntOk wr q ∧ ∀ g, q.val.ownBlock = some g → w.heap.size ≤ g) ∧ Q.map Row.data = D
theorem RowsP.keep {w wr W : World} {a : Option Addr} {n c : Nat} {D : List (List UInt8)} (h : RowsP w wr a n c D) (hk : Kp No wr W) : RowsP w W a n c D := by
 obtain ⟨Q, h1, h2, h3⟩ := h
 exact ⟨Q, h1.keep hk, fun q hq => ⟨(h2 q hq).1.keep hk fun _ _ x => x, (h2 q hq).2⟩, h3⟩
theorem RowsP.nil (w : World) : RowsP w w none 0 0 [] := ⟨[], RowRel.nil _ _ _ w, fun _ h => (by cases h), rfl⟩
theorem RowsP.len {w wr : World} {a : Option Addr} {n c : Nat} {D : List (List UInt8)} (h : RowsP w wr a n c D) : n = D.length := by
 obtain ⟨Q, h1, _, h3⟩ := h
 rw [h1.1, ← h3, List.length_map]
theorem RowsP.kp {w wr : World} {a : Option Addr} {n c : Nat} {D : List (List UInt8)} (h : RowsP w wr a n c D) : Kp No w wr := by
 obtain ⟨Q, h1, _, h3⟩ := h
 exact h1.2.2.2
theorem RowsP.back {w w2 wr : World} {a : Option Addr} {n c : Nat} {D : List (List UInt8)} (h : RowsP w2 wr a n c D) (hk : Kp No w w2) : RowsP w wr a n c D := by
 obtain ⟨Q, h1, h2, h3⟩ := h
 exact ⟨Q, ⟨h1.1, h1.2.1, fun g hg => Nat.le_trans hk.size (h1.2.2.1 g hg), hk.trans_same h1.2.2.2⟩, fun q hq => ⟨(h2 q hq).1, fun g hg => Nat.le_trans hk.size ((h2 q hq).2 g hg)⟩, h3⟩
theorem RowsP.app {w wr : World} {a : Option Addr} {n c : Nat} {D : List (List UInt8)} (h : RowsP w wr a n c D) (hn : n ≤ 1100000000) {ra : Option Addr} {rc : Nat} {p : List UInt8} (hr : Own wr 5 1 (.slice ra p.length rc) p.length (u8s p)) (hf : ∀ g, (Value.slice ra p.length rc).ownBlock = some g → w.heap.size ≤ g) (hp : p.length ≤ 1000000000) :
  ∃ a' c' W', (Builtin.append_ #[22, 22] 22 #[.slice a n c, .slice (some ⟨wr.heap.size, 0, none⟩) 1 1]).run Tryz.prog (wr.alloc (.cells #[.slice ra p.length rc] 23)) = .ok (.slice a' (n + 1) c') W' ∧ RowsP w W' a' (n + 1) c' (D ++ [p]) ∧ Kp (fun k => (Value.slice a n c).ownBlock = some k) wr W' := by
 obtain ⟨Q, h1, h2, h3⟩ := h
 have hk : Kp No wr (wr.alloc (.cells #[.slice ra p.length rc] 23)) := (Kp.refl _ _).alloc _
 have hrc : p.length ≤ rc := by
  obtain ⟨_, a', cap, hv, h1', _⟩ := hr
  injection hv with _ _ e
  omega
 obtain ⟨a', c', W', hrun, ho, hkp⟩ := RowRel.app (P := Tryz.prog) (T := 22) Tryz.underlying22 infoRowB rowC_one (h1.keep hk) [⟨ra, rc, p⟩] (one_src (f := rowC) rowC_len (x := ⟨ra, rc, p⟩) (heap_alloc_new wr _) rfl) rfl (by simp only [maxLen]; omega) (by omega)
 have hall : Kp (fun k => (Value.slice a n c).ownBlock = some k) wr W' := (Kp.of_no hk).trans_same hkp
 have hty : ∀ k, (Value.slice a n c).ownBlock = some k → ∃ cur, wr.heap[k]? = some (.cells cur 23 (0, 0)) := fun k hk' => h1.2.1.type k hk'
 have hrow : ∀ q : Row, EntOk wr q → EntOk W' q := fun q hq => hq.keep hall fun g hg hs => by
  obtain ⟨cur, hc⟩ := hq.1.type g hg
  obtain ⟨cur', hc'⟩ := hty g hs
  exact ne_of_type hc hc' (by decide) rfl
 refine ⟨a', c', W', hrun, ⟨Q ++ [⟨ra, rc, p⟩], ho, fun q hq => ?_, by rw [List.map_append, h3]; rfl⟩, hall⟩
 rcases List.mem_append.1 hq with hq | hq
 ·exact ⟨hrow q (h2 q hq).1, (h2 q hq).2⟩
 ·rw [List.mem_singleton] at hq
  subst hq
  exact ⟨hrow _ ⟨hr, hrc, hp⟩, hf⟩
def ScR (w wr : World) (b : List UInt8) (a : Option Addr) (n c at_ : Nat) : Prop :=
 ∃ D, RowsP w wr a n c D ∧ at_ ≤ b.length ∧ D.length ≤ at_ ∧ scanL b = D ++ scanL (b.drop at_)
def ScP (w : World) (b : List UInt8) (e : Ending) (w' : World) : Prop := ∃ a n c k, e = .returned (.tuple #[.slice a n c, .int .i64 k]) ∧ RowsP w w' a n c (scanL b)
set_option maxRecDepth 100000 in
set_option maxHeartbeats 2000000 in
theorem Scan_any (w : World) (a : Option Addr) (bc : Nat) (b : List UInt8) (hR : Rd w w.heap.size a (u8s b)) (hbc : b.length ≤ bc) (hm : b.length ≤ 1073741824) : Calls Tryz.prog 98 #[.slice a b.length bc] w (ScP w b) := by
 obtain ⟨n, hn⟩ : ∃ n, n = b.length := ⟨_, rfl⟩
 rw [← hn] at hbc hm ⊢
 have HR := Lib.hid hR
 have HN := Lib.hid hn
 clear hR hn
 go_enter Tryz.func98, Tryz.ntmps98
 go_wp2_with fail
 rename World => w0
 go_loopw [4, 5] (fun s4 s5 wr => ∃ (ra : Option Addr) (k rc t : Nat), t ≤ n ∧ s4 = .slice ra k rc ∧ s5 = .int .i64 (t : Int) ∧ Hid (ScR w0 wr b ra k rc t)) (fun _ s5 _ => n - (intOf s5).toNat)
 case atStart => exact ⟨none, 0, 0, 0, by omega, rfl, rfl, Lib.hid ⟨[], RowsP.nil _, by omega, by simp, by simp⟩⟩
 case round =>
  obtain ⟨ra, k, rc, t, ht, rfl, rfl, HS⟩ := hrel
  obtain ⟨D, hrows, _, hDl, hsc⟩ := HS.out
  clear HS
  have hkl := hrows.len
  have hk0 := hrows.kp
  by_cases hlt : t < n
  ·have hd := rDecode_any wr (a.map (·.add t)) (bc - t) (b.drop t) (by
    have := ((HR.out.keep hk0 fun _ _ x => x).mono hk0.size (Nat.le_refl _)).drop t
    simp only [u8s, ← List.map_drop] at this
    exact this) (by rw [List.length_drop, ← HN.out]; omega) (by rw [List.length_drop, ← HN.out]; omega)
   rw [List.length_drop, ← HN.out] at hd
   obtain ⟨g, off, rfl, _, _, _⟩ := HR.out.byte (i := t) (by rw [← HN.out]; exact hlt)
   simp only [Option.map_some, add_lit'] at hd
   have hbt : ¬ bc = t := by omega
   have HROWS := Lib.hid hrows
   have HSC := Lib.hid hsc
   have HKL := Lib.hid hkl
   have HD := Lib.hid hd
   have HDL := Lib.hid hDl
   clear hrows hsc hkl hd hk0 hDl
   go_wp2_with fail
   have hc := HD.out
   with_reducible refine hc.mono ?_
   rintro e w1 hde
   clear hc
   rcases hde with ⟨hno, kk, hkk, rfl, hk1⟩ | ⟨p, nn, pa, pc, hso, rfl, hop, hfp, hk1⟩
   ·have e1 : (kk == (0 : Int)) = false := by rw [beq_eq_false_iff_ne]; exact hkk
    have e2 : (kk != (0 : Int)) = true := by rw [bne, e1]; rfl
    have HNO := Lib.hid hno
    have HK1 := Lib.hid hk1
    clear hno hk1
    go_wp2_with fail
    go_ret2
    refine ⟨ra, k, rc, _, rfl, ?_⟩
    rw [HSC.out, scanL_none HNO.out, List.append_nil]
    exact HROWS.out.keep HK1.out
   ·obtain ⟨hn1, hn2, hn3, _⟩ := deF_some hso
    rw [List.length_drop, ← HN.out] at hn2
    obtain ⟨pl, hpl⟩ : ∃ pl, pl = p.length := ⟨_, rfl⟩
    rw [← hpl] at hn1 hn3 ⊢
    have hr1 := HROWS.out.keep hk1
    have hk0 := HROWS.out.kp
    obtain ⟨a', c', W', hrun, hrw, hkw⟩ := hr1.app (by have := HDL.out; have := HKL.out; omega) hop (fun g hg => Nat.le_trans hk0.size (hfp g hg)) (by omega)
    rw [← hpl] at hrun
    have HPL := Lib.hid hpl
    clear hpl
    obtain ⟨t2, ht2⟩ : ∃ t2, t2 = t + nn := ⟨_, rfl⟩
    have htt : t < t2 := by omega
    have ht2n : t2 ≤ n := by omega
    have hnew : ScR w0 W' b a' (k + 1) c' t2 := ⟨D ++ [p], hrw, by rw [← HN.out]; omega, by have := HDL.out; rw [List.length_append, List.length_singleton]; omega, by rw [HSC.out, scanL_some hso, List.drop_drop, ht2, List.append_assoc]; rfl⟩
    have HX := Lib.hid hrun
    have HNEW := Lib.hid hnew
    have hw2 : wrap64 ((t : Int) + (nn : Int)) = (t2 : Int) := by rw [IntWalk.wrap64_in _ (by omega), ht2]; push_cast; rfl
    clear hrun hnew hrw hkw hr1 hop hfp hk1 hso ht2 hn1 hn2 hn3
    go_wp2_with (at_builtin; refine wpList_append_run rfl rfl rfl rfl HX.out ?_)
    go_roundw
    case rel => exact ⟨a', k + 1, c', t2, ht2n, rfl, by rw [hw2], HNEW⟩
    case measure =>
     rw [hw2]
     clear hw2
     simp [intOf]
     omega
  ·have htn : t = n := by omega
   have hdr : b.drop t = [] := List.drop_of_length_le (by rw [htn, HN.out]; exact Nat.le_refl _)
   have HFIN := Lib.hid (show scanL b = D by rw [hsc, hdr, scanL_none deF_nil, List.append_nil])
   have HROWS := Lib.hid hrows
   clear hrows hsc hkl hk0 hDl hdr
   go_wp2_with fail
   go_ret2
   refine ⟨ra, k, rc, _, rfl, ?_⟩
   rw [HFIN.out]
   exact HROWS.out
end Go.Proofs.YtdibkdgafidjgaaGreatDoor
namespace Go.Proofs.YtdibkdgafidjgaaGreatDoor
open Go.RowKit Go.Mer
def RrP (w : World) (b : Nat) (l : List UInt8) (bad : Bool) (w' : World) : Prop :=
 ∃ a c, w'.heap[b]? = some (.cells #[.slice a l.length c, .bool bad] 154 (0, 0)) ∧ Rd w' w'.heap.size a (u8s l) ∧ l.length ≤ c ∧ w.heap.size ≤ b ∧ (∀ g o, 0 < l.length → a = some ⟨g, o, none⟩ → g ≠ b) ∧ Kp No w w'
theorem rr_cut {w w0 : World} {b g off c : Nat} {l : List UInt8} (hb : w0.heap[b]? = some (.cells #[.slice (some ⟨g, off, none⟩) l.length c, .bool false] 154 (0, 0))) (hR : Rd w0 w0.heap.size (some ⟨g, off, none⟩) (u8s l)) (hc : l.length ≤ c) (hwb : w.heap.size ≤ b) (hne : ∀ q o, 0 < l.length → (some ⟨g, off, none⟩ : Option Addr) = some ⟨q, o, none⟩ → q ≠ b) (hk : Kp No w w0) (k : Nat) (a' : Option Addr) (c' : Nat) (ha : a' = some ⟨g, off + k, none⟩ ∨ l.length ≤ k) (hc' : c' = c - k) :
  RrP w b (l.drop k) false (w0.setCell ⟨b, 0, none⟩ (.slice a' ((l.length - k : Nat) : Nat) c')) := by
 refine ⟨a', c', ?_, ?_, ?_, hwb, fun q o hp h => ?_, hk.setCell (.inr hwb) _⟩
 ·rw [List.length_drop]
  exact set_at hb 0 _
 ·rcases Nat.lt_or_ge k l.length with hlt | hge
  ·rcases ha with rfl | ha
   ·have h := hR.drop k
    rw [Option.map_some, add_lit'] at h
    simp only [u8s, ← List.map_drop] at h
    exact rd_keepAt h ((Kp.refl (fun j => j = b) w0).setCell (p := ⟨b, 0, none⟩) (.inl rfl) _) fun _ j o hj hjb => hne j (o - k) (by omega) (by injection hj with hj; injection hj with h1 h2; subst h1; subst h2; simp) hjb
   ·omega
  ·rw [List.drop_of_length_le hge]
   exact Rd.nil _ _ _
 ·rw [List.length_drop, hc']
  omega
 ·rcases ha with rfl | ha
  ·injection h with hj
   injection hj with h1 h2
   rw [← h1]
   exact hne g off (by rw [List.length_drop] at hp; omega) rfl
  ·rw [List.length_drop] at hp
   omega
theorem rr_end {w w0 : World} {b n c : Nat} {a : Option Addr} (hb : w0.heap[b]? = some (.cells #[.slice a n c, .bool false] 154 (0, 0))) (hwb : w.heap.size ≤ b) (hk : Kp No w w0) (a' : Option Addr) (c' : Nat) : RrP w b [] false (w0.setCell ⟨b, 0, none⟩ (.slice a' (0 : Nat) c')) :=
 ⟨a', c', set_at hb 0 _, Rd.nil _ _ _, Nat.zero_le _, hwb, fun _ _ h => absurd h (by simp), hk.setCell (.inr hwb) _⟩
theorem rBad_any (w w' : World) (b : Nat) (l : List UInt8) (bad : Bool) (h : RrP w b l bad w') : Calls Tryz.prog 128 #[.pointer (some ⟨b, 0, none⟩)] w' fun e w2 => e = .returned (.tuple #[]) ∧ RrP w b [] true w2 := by
 obtain ⟨a, c, hb, hR, hc, hwb, hne, hk⟩ := h
 have c0 := cell_at hb 0
 have c1 := cell_at hb 1
 have f0 := free_at hb 0
 have f1 := free_at hb 1
 have hbl := get_lt hb
 simp at c0 c1
 have H := Lib.hid (And.intro hb (And.intro hwb hk))
 clear hb hR hc hwb hne hk
 go_enter Tryz.func128, Tryz.ntmps128
 go_wp2_with fail
 refine bodyPost_end (results_none rfl _ _ _) rfl ⟨rfl, none, 0, set_at (set_at H.out.1 1 _) 0 _, Rd.nil _ _ _, Nat.le_refl _, H.out.2.1, fun g o h => (by simp at h), ?_⟩
 exact (H.out.2.2.setCell (p := ⟨b, 1, none⟩) (.inr H.out.2.1) _).setCell (p := ⟨b, 0, none⟩) (.inr H.out.2.1) _
theorem rRaw_bad (w w' : World) (b k : Nat) (l : List UInt8) (h : RrP w b l false w') (hkl : l.length < k) (hk : k ≤ 140737488355328) : Calls Tryz.prog 127 #[.pointer (some ⟨b, 0, none⟩), .int .i64 (k : Int)] w' fun e w2 => e = .returned (.slice none 0 0) ∧ RrP w b [] true w2 := by
 have HP := Lib.hid h
 obtain ⟨a, c, hb, _, _, _, _, _⟩ := h
 have c0 := cell_at hb 0
 have hbl := get_lt hb
 simp at c0
 obtain ⟨n, hn⟩ : ∃ n, n = l.length := ⟨_, rfl⟩
 rw [← hn] at c0 hkl
 have e1 : decide ((k : Int) < 0) = false := by rw [decide_eq_false_iff_not]; omega
 have e2 : decide ((n : Int) < (k : Int)) = true := by rw [decide_eq_true_iff]; omega
 clear hb
 go_enter Tryz.func127, Tryz.ntmps127
 go_wp2_with fail
 have hbad := rBad_any w w' b l false HP.out
 with_reducible refine hbad.mono ?_
 rintro e w3 ⟨rfl, hre⟩
 have HRE := Lib.hid hre
 obtain ⟨a3, c3, hb3, _, _, _, _, _⟩ := hre
 have d1 := cell_at hb3 1
 have hbl3 := get_lt hb3
 simp at d1
 clear hbad hb3 c0 hbl
 go_wp2_with fail
 go_ret
 exact ⟨rfl, HRE.out⟩
set_option maxRecDepth 100000 in
set_option maxHeartbeats 2000000 in
theorem rRaw_any (w w' : World) (b k : Nat) (l : List UInt8) (h : RrP w b l false w') (hk0 : 0 < k) (hkl : k ≤ l.length) (hl : l.length ≤ 140737488355328) : Calls Tryz.prog 127 #[.pointer (some ⟨b, 0, none⟩), .int .i64 (k : Int)] w' fun e w2 => OwP w (l.take k) e w2 ∧ RrP w b (l.drop k) false w2 := by
 obtain ⟨a, c, hb, hR, hc, hwb, hne, hk⟩ := h
 have c0 := cell_at hb 0
 have c1 := cell_at hb 1
 have f0 := free_at hb 0
 have hbl := get_lt hb
 simp at c0 c1
 obtain ⟨W1, hW1⟩ : ∃ W, W = w'.alloc (.cells #[] 5) := ⟨_, rfl⟩
 have k1 : Kp No w' W1 := by rw [hW1]; exact (Kp.refl _ _).alloc _
 have ho1 : Mer.Own W1 5 1 (.slice (some ⟨w'.heap.size, 0, none⟩) 0 0) 0 [] := by rw [hW1]; exact Own.made w' 5 1 #[] 0 0 (Nat.le_refl _) (by simp [maxLen]) (by simp) rfl
 obtain ⟨a2, c2, W2, hrun, o2, hf2, k2, _⟩ := own_appS w' W1 (.slice (some ⟨w'.heap.size, 0, none⟩) 0 0) [] (l.take k) ho1 (fun g hg => Nat.le_of_eq (Option.some.inj hg)) k1 a c (by
  have := ((hR.keep k1 fun _ _ x => x).mono k1.size (Nat.le_refl _)).take k
  simp only [u8s, ← List.map_take] at this
  exact this) (by rw [List.length_nil, List.length_take]; omega)
 have hlk : (l.take k).length = k := by rw [List.length_take]; omega
 rw [List.nil_append, hlk] at hrun o2 hf2
 obtain ⟨n, hn⟩ : ∃ n, n = l.length := ⟨_, rfl⟩
 rw [← hn] at c0 hl hc hkl
 have d0 := (k1.cell (p := ⟨b, 0, none⟩) hbl (fun x => x)).trans c0
 have hbl1 := k1.lt hbl
 have e0 := (k2.cell (p := ⟨b, 0, none⟩) hbl (fun x => x)).trans c0
 have g0 := (k2.frozen (p := ⟨b, 0, none⟩) hbl (fun x => x)).trans f0
 have hbl2 := k2.lt hbl
 have HN := Lib.hid hn
 have HX2 := Lib.hid hrun
 have HB := Lib.hid (And.intro hb (And.intro hwb (And.intro hne (And.intro hk hR))))
 have H2 := Lib.hid (And.intro o2 (And.intro hf2 k2))
 have HW1 := Lib.hid hW1
 have HO2 := Lib.hid (fun (u : Value) => (show OwP w (l.take k) (.returned (.slice a2 k c2)) (W2.setCell ⟨b, 0, none⟩ u) from by
  refine ⟨a2, c2, by rw [hlk], ?_, ?_, (HB.out.2.2.2.1.trans_same H2.out.2.2).setCell (.inr HB.out.2.1) _⟩
  ·rw [hlk]
   exact own_set H2.out.1 fun q hq hqb => absurd (H2.out.2.1 q hq) (by rw [hqb]; omega)
  ·rw [hlk]
   exact fun q hq => Nat.le_trans HB.out.2.2.2.1.size (H2.out.2.1 q hq)))
 have e1 : decide ((k : Int) < 0) = false := by rw [decide_eq_false_iff_not]; omega
 have e2 : decide ((n : Int) < (k : Int)) = false := by rw [decide_eq_false_iff_not]; omega
 have kc : k ≤ c := Nat.le_trans hkl hc
 have hk1 : ¬ k = 0 := by omega
 have hc0 : ¬ c = 0 := by omega
 clear hb hwb hne hk hn hrun o2 hf2 k2 ho1 hW1 hlk
 go_enter Tryz.func127, Tryz.ntmps127
 rcases Nat.lt_or_ge k n with hlt | hge
 ·obtain ⟨g, off, rfl, _, _, _⟩ := hR.byte (i := k) (by rw [← HN.out]; exact hlt)
  have hcc : ¬ c = k := by omega
  clear hR
  go_wp2_with (at_builtin; rw [← HW1.out]; refine wpList_append_run rfl rfl rfl rfl HX2.out ?_)
  go_ret
  refine ⟨HO2.out _, ?_⟩
  have := rr_cut (w := w) (H2.out.2.2.get HB.out.1 (fun x => x)) ((HB.out.2.2.2.2.keep H2.out.2.2 fun _ _ x => x).mono H2.out.2.2.size (Nat.le_refl _)) (by rw [← HN.out]; exact hc) HB.out.2.1 HB.out.2.2.1 (HB.out.2.2.2.1.trans_same H2.out.2.2) k (some ⟨g, off + k, none⟩) (c - k) (.inl rfl) rfl
  rw [← HN.out] at this
  exact this
 ·obtain rfl : k = n := by omega
  have hd : l.drop k = [] := List.drop_of_length_le (by rw [← HN.out]; exact Nat.le_refl _)
  rw [hd]
  obtain ⟨g, off, rfl, _, _, _⟩ := hR.byte (i := 0) (by rw [← HN.out]; exact hk0)
  clear hd hR
  by_cases hcc : c = k
  ·obtain rfl : k = c := hcc.symm
   go_wp2_with (at_builtin; rw [← HW1.out]; refine wpList_append_run rfl rfl rfl rfl HX2.out ?_)
   go_ret
   exact ⟨HO2.out _, rr_end (H2.out.2.2.get HB.out.1 (fun x => x)) HB.out.2.1 (HB.out.2.2.2.1.trans_same H2.out.2.2) _ _⟩
  ·skip
   go_wp2_with (at_builtin; rw [← HW1.out]; refine wpList_append_run rfl rfl rfl rfl HX2.out ?_)
   go_ret
   exact ⟨HO2.out _, rr_end (H2.out.2.2.get HB.out.1 (fun x => x)) HB.out.2.1 (HB.out.2.2.2.1.trans_same H2.out.2.2) _ _⟩
end Go.Proofs.YtdibkdgafidjgaaGreatDoor
namespace Go.Proofs.YtdibkdgafidjgaaGreatDoor
open Go.RowKit Go.Mer
def RnP (w : World) (b : Nat) (res : Option (Nat × List UInt8)) (e : Ending) (w2 : World) : Prop :=
 (∃ m r, res = some (m, r) ∧ e = .returned (.int .i64 (m : Int)) ∧ RrP w b r false w2) ∨ (res = none ∧ e = .returned (.int .i64 0) ∧ RrP w b [] true w2)
theorem numR {i u X : Nat} (hi : i ≤ 9) (hu : u < 128 ^ i) (hX : X < 256) (h9 : i = 9 → X < 2) : ∃ v y z : Nat, v = X % 128 ∧ y = v * 128 ^ i ∧ z = u + y ∧ z < 128 ^ (i + 1) ∧ z < 18446744073709551616 ∧ bits .and .u8 (X : Int) 127 = (v : Int) ∧ IntKind.u64.wrap (v : Int) = (v : Int) ∧ IntKind.u64.wrap ((v : Int) * 2 ^ (7 * i)) = (y : Int) ∧ bits .or .u64 (u : Int) (y : Int) = (z : Int) := by
 have hp : 128 ^ i = 2 ^ (7 * i) := by rw [show (128 : Nat) = 2 ^ 7 from rfl, ← Nat.pow_mul]
 have hp9 : (128 : Nat) ^ 9 = 9223372036854775808 := by decide
 have hs : 128 ^ (i + 1) = 128 * 128 ^ i := by rw [Nat.pow_succ, Nat.mul_comm]
 have hy : X % 128 * 128 ^ i ≤ 127 * 128 ^ i := Nat.mul_le_mul_right _ (by omega)
 have hlt : u + X % 128 * 128 ^ i < 18446744073709551616 := by
  rcases Nat.lt_or_ge i 9 with h | h
  ·have hpm : 128 ^ (i + 1) ≤ 128 ^ 9 := Nat.pow_le_pow_right (by decide) (by omega)
   omega
  ·obtain rfl : i = 9 := by omega
   have hx := h9 rfl
   rw [hp9] at hu ⊢
   rw [Nat.mod_eq_of_lt (by omega)]
   omega
 have h64 : (2 : Nat) ^ 64 = 18446744073709551616 := by decide
 refine ⟨X % 128, X % 128 * 128 ^ i, u + X % 128 * 128 ^ i, rfl, rfl, rfl, by omega, hlt, ?_, ?_, ?_, ?_⟩
 ·have := bits_and (k := .u8) rfl (a := X) (b := 127) (show X < 2 ^ 8 by omega) (by decide)
  rw [show (127 : Nat) = 2 ^ 7 - 1 from rfl, Nat.and_two_pow_sub_one_eq_mod X 7] at this
  exact this
 ·exact Mer.wrap_small (k := .u64) rfl (show X % 128 < 2 ^ 64 by omega)
 ·have e : ((X % 128 : Nat) : Int) * 2 ^ (7 * i) = ((X % 128 * 128 ^ i : Nat) : Int) := by
   rw [hp, Int.natCast_mul, Int.natCast_pow]
   rfl
  rw [e]
  exact Mer.wrap_small (k := .u64) rfl (show X % 128 * 128 ^ i < 2 ^ 64 by omega)
 ·rw [bits_or (k := .u64) rfl (show u < 2 ^ 64 by omega) (show X % 128 * 128 ^ i < 2 ^ 64 by omega), hp, or_add u (7 * i) (X % 128) (by rw [← hp]; exact hu)]
set_option maxRecDepth 100000 in
set_option maxHeartbeats 2000000 in
theorem rNum_rd (w w' : World) (b : Nat) (l : List UInt8) (h : RrP w b l false w') (hl : l.length ≤ 1000000000000) : Calls Tryz.prog 99 #[.pointer (some ⟨b, 0, none⟩)] w' (RnP w b (numD 0 0 l)) := by
 obtain ⟨r, hr⟩ : ∃ r, r = numD 0 0 l := ⟨_, rfl⟩
 rw [← hr]
 obtain ⟨n, hn⟩ : ∃ n, n = l.length := ⟨_, rfl⟩
 rw [← hn] at hl
 have HRR := Lib.hid hr
 have HN := Lib.hid hn
 have HP0 := Lib.hid h
 clear hr hn h
 go_enter Tryz.func99, Tryz.ntmps99
 go_wp2_with fail
 go_loopw [3, 4] (fun s3 s4 wr => ∃ i u : Nat, i ≤ n ∧ s3 = .int .u64 (u : Int) ∧ s4 = .int .i64 (i : Int) ∧ i ≤ 9 ∧ u < 128 ^ i ∧ Hid (r = numD i u (l.drop i)) ∧ Hid (RrP w b (l.drop i) false wr)) (fun _ s4 _ => n - (intOf s4).toNat)
 case atStart => exact ⟨0, 0, Nat.zero_le _, rfl, rfl, by omega, by decide, HRR, HP0⟩
 case round =>
  obtain ⟨i, u, hi, rfl, rfl, hi9, hu, HI, HP⟩ := hrel
  have e10 : decide ((i : Int) < 10) = true := by rw [decide_eq_true_iff]; omega
  rcases Nat.lt_or_ge i n with hlt | hge
  ·have hlt2 : i < l.length := by rw [← HN.out]; exact hlt
   obtain ⟨x, hx⟩ : ∃ x, l[i]? = some x := ⟨l[i]'hlt2, List.getElem?_eq_getElem _⟩
   have hdx : l.drop i = x :: l.drop (i + 1) := by
    have := List.getElem?_eq_some_iff.1 hx
    rw [← this.2]
    exact List.drop_eq_getElem_cons this.1
   have hc : Calls Tryz.prog 127 #[.pointer (some ⟨b, 0, none⟩), .int .i64 1] wr fun e w2 => OwP w [x] e w2 ∧ RrP w b (l.drop (i + 1)) false w2 := by
    have := rRaw_any w wr b 1 (l.drop i) HP.out (by decide) (by rw [hdx, List.length_cons]; omega) (by rw [List.length_drop, ← HN.out]; omega)
    rw [hdx] at this
    exact this
   have hstep := numD_step (u := u) hx
   rw [← show r = _ from HI.out] at hstep
   obtain ⟨X, hX⟩ : ∃ X, X = x.toNat := ⟨_, rfl⟩
   have hX256 : X < 256 := by rw [hX]; exact x.toNat_lt
   rw [← hX] at hstep
   have HST := Lib.hid hstep
   have HX := Lib.hid hX
   have HC := Lib.hid hc
   clear hstep hX hc hdx HI HP
   go_wp2_with fail
   have hc := HC.out
   with_reducible refine hc.mono ?_
   rintro e w2 ⟨⟨a1, c1, rfl, ho, _, _⟩, hre⟩
   have HRE := Lib.hid hre
   obtain ⟨a3, c3, hb3, _, _, _, _, _⟩ := hre
   have d1 := cell_at hb3 1
   have hbl := get_lt hb3
   simp at d1
   obtain ⟨g1, o1, rfl, _, _, hcell⟩ := ho.rd'.byte (i := 0) (by simp)
   simp only [List.getElem_cons_zero, Nat.add_zero] at hcell
   rw [← show X = _ from HX.out] at hcell
   clear hc hb3 ho
   simp only [List.length_singleton]
   rcases Nat.lt_or_ge i 9 with h9 | h9
   ·have e9 : ((i : Int) == 9) = false := by rw [beq_eq_false_iff_ne]; omega
    have n9 : ¬ i = 9 := by omega
    have n9b : ¬ (i : Int) = 9 := by omega
    obtain ⟨v, y, z, hv, hy, hz, hz1, hz2, b1, b2, b3, b4⟩ := numR (by omega) hu hX256 (fun h => absurd h n9)
    have HZ := Lib.hid (And.intro hv (And.intro hy (And.intro hz (And.intro hz1 hz2))))
    clear hv hy hz hz1
    rcases Nat.lt_or_ge X 128 with hx1 | hx1
    ·have e2 : decide ((127 : Int) < (X : Int)) = false := by rw [decide_eq_false_iff_not]; omega
     by_cases hz0 : 0 < i ∧ X = 0
     ·have HR0 := Lib.hid (show r = none by rw [HST.out, if_pos (.inr ⟨hz0.1, UInt8.toNat_inj.1 (HX.out.symm.trans hz0.2)⟩)])
      have e3 : decide ((0 : Int) < (i : Int)) = true := by rw [decide_eq_true_iff]; omega
      have e4 : ((X : Int) == 0) = true := by rw [beq_iff_eq]; omega
      have n0 := hz0.1
      clear hz0 hz2
      go_wp2_with fail
      have hbad := rBad_any w w2 b (l.drop (i + 1)) false HRE.out
      with_reducible refine hbad.mono ?_
      rintro e w3 ⟨rfl, hre⟩
      have HREB := Lib.hid hre
      clear hbad hre
      go_wp2_with fail
      go_ret
      exact .inr ⟨HR0.out, rfl, HREB.out⟩
     ·have HN0 := Lib.hid (show ¬ (9 ≤ i ∨ (0 < i ∧ x = 0)) from fun h => h.elim (fun h => absurd h (by omega)) (fun h => hz0 ⟨h.1, by rw [HX.out, h.2]; rfl⟩))
      have hst := HST.out
      rw [if_neg HN0.out, if_pos hx1] at hst
      have hzz : u + X * 128 ^ i = z := by rw [HZ.out.2.2.1, HZ.out.2.1, HZ.out.1, Nat.mod_eq_of_lt hx1]
      rw [hzz] at hst
      have e34 : decide ((0 : Int) < (i : Int)) = false ∨ (decide ((0 : Int) < (i : Int)) = true ∧ ((X : Int) == 0) = false) := by
       rcases Nat.eq_zero_or_pos i with h | h
       ·exact .inl (by rw [decide_eq_false_iff_not]; omega)
       ·exact .inr ⟨by rw [decide_eq_true_iff]; omega, by rw [beq_eq_false_iff_ne]; exact fun hx => hz0 ⟨h, by omega⟩⟩
      clear hz0
      rcases Nat.lt_or_ge 4611686018427387904 z with hx2 | hx2
      ·have e5 : decide ((4611686018427387904 : Int) < (z : Int)) = true := by rw [decide_eq_true_iff]; omega
       have HR0 := Lib.hid (show r = none by rw [hst, if_pos hx2])
       clear hst hx2 hzz hz2
       rcases e34 with e3 | ⟨e3, e4⟩
       ·have n0 : ¬ 0 < i := by have := of_decide_eq_false e3; omega
        go_wp2_with fail
        have hbad := rBad_any w w2 b (l.drop (i + 1)) false HRE.out
        with_reducible refine hbad.mono ?_
        rintro e w3 ⟨rfl, hre⟩
        have HREB := Lib.hid hre
        clear hbad hre
        go_wp2_with fail
        go_ret
        exact .inr ⟨HR0.out, rfl, HREB.out⟩
       ·have n0 : 0 < i := by have := of_decide_eq_true e3; omega
        go_wp2_with fail
        have hbad := rBad_any w w2 b (l.drop (i + 1)) false HRE.out
        with_reducible refine hbad.mono ?_
        rintro e w3 ⟨rfl, hre⟩
        have HREB := Lib.hid hre
        clear hbad hre
        go_wp2_with fail
        go_ret
        exact .inr ⟨HR0.out, rfl, HREB.out⟩
      ·have e5 : decide ((4611686018427387904 : Int) < (z : Int)) = false := by rw [decide_eq_false_iff_not]; omega
       have HR0 := Lib.hid (show r = some (z, l.drop (i + 1)) by rw [hst, if_neg (by omega)])
       have hz63 : wrap64 (z : Int) = (z : Int) := IntWalk.wrap64_in _ (by omega)
       clear hst hx2 hzz hz2
       rcases e34 with e3 | ⟨e3, e4⟩
       ·have n0 : ¬ 0 < i := by have := of_decide_eq_false e3; omega
        go_wp2_with fail
        go_ret
        exact .inl ⟨z, l.drop (i + 1), HR0.out, by first | rfl | exact congrArg (fun t => Ending.returned (.int .i64 t)) hz63, HRE.out⟩
       ·have n0 : 0 < i := by have := of_decide_eq_true e3; omega
        go_wp2_with fail
        go_ret
        exact .inl ⟨z, l.drop (i + 1), HR0.out, by first | rfl | exact congrArg (fun t => Ending.returned (.int .i64 t)) hz63, HRE.out⟩
    ·have e2 : decide ((127 : Int) < (X : Int)) = true := by rw [decide_eq_true_iff]; omega
     have hst := HST.out
     rw [if_neg (show ¬ (9 ≤ i ∨ (0 < i ∧ x = 0)) from fun h => h.elim (fun h => absurd h (by omega)) (fun h => absurd (show X = 0 by rw [HX.out, h.2]; rfl) (by omega))), if_neg (by omega)] at hst
     have hzz : u + (X - 128) * 128 ^ i = z := by rw [HZ.out.2.2.1, HZ.out.2.1, HZ.out.1, show X % 128 = X - 128 by omega]
     rw [hzz] at hst
     have HNX := Lib.hid hst
     clear hst hzz hz2
     go_wp2_with fail
     go_roundw
     case rel => exact ⟨i + 1, z, by omega, rfl, by go_num, by omega, HZ.out.2.2.2.1, HNX, HRE⟩
     case measure => simp [intOf]; omega
   ·have e9 : ((i : Int) == 9) = true := by rw [beq_iff_eq]; omega
    have HR0 := Lib.hid (show r = none by rw [HST.out, if_pos (.inl h9)])
    rcases Nat.lt_or_ge 127 X with hx1 | hx1
    ·have e2 : decide ((127 : Int) < (X : Int)) = true := by rw [decide_eq_true_iff]; omega
     go_wp2_with fail
     have hbad := rBad_any w w2 b (l.drop (i + 1)) false HRE.out
     with_reducible refine hbad.mono ?_
     rintro e w3 ⟨rfl, hre⟩
     have HREB := Lib.hid hre
     clear hbad hre
     go_wp2_with fail
     go_ret
     exact .inr ⟨HR0.out, rfl, HREB.out⟩
    ·have e2 : decide ((127 : Int) < (X : Int)) = false := by rw [decide_eq_false_iff_not]; omega
     rcases Nat.lt_or_ge 1 X with hx2 | hx2
     ·have e6 : decide ((1 : Int) < (X : Int)) = true := by rw [decide_eq_true_iff]; omega
      go_wp2_with fail
      have hbad := rBad_any w w2 b (l.drop (i + 1)) false HRE.out
      with_reducible refine hbad.mono ?_
      rintro e w3 ⟨rfl, hre⟩
      have HREB := Lib.hid hre
      clear hbad hre
      go_wp2_with fail
      go_ret
      exact .inr ⟨HR0.out, rfl, HREB.out⟩
     ·have e6 : decide ((1 : Int) < (X : Int)) = false := by rw [decide_eq_false_iff_not]; omega
      obtain ⟨v, y, z, hv, hy, hz, hz1, hz2, b1, b2, b3, b4⟩ := numR hi9 hu hX256 (fun _ => by omega)
      have e3 : decide ((0 : Int) < (i : Int)) = true := by rw [decide_eq_true_iff]; omega
      have n0 : 0 < i := by omega
      by_cases hx3 : X = 0
      ·have e4 : ((X : Int) == 0) = true := by rw [beq_iff_eq]; omega
       clear hv hy hz hz1 hz2 hx3
       go_wp2_with fail
       have hbad := rBad_any w w2 b (l.drop (i + 1)) false HRE.out
       with_reducible refine hbad.mono ?_
       rintro e w3 ⟨rfl, hre⟩
       have HREB := Lib.hid hre
       clear hbad hre
       go_wp2_with fail
       go_ret
       exact .inr ⟨HR0.out, rfl, HREB.out⟩
      ·have e4 : ((X : Int) == 0) = false := by rw [beq_eq_false_iff_ne]; omega
       have e5 : decide ((4611686018427387904 : Int) < (z : Int)) = true := by
        rw [decide_eq_true_iff]
        have h9e : i = 9 := by omega
        have hX1 : X = 1 := by omega
        have hy2 : y = 9223372036854775808 := by rw [hy, hv, hX1, h9e]
        omega
       clear hv hy hz hz1 hz2
       go_wp2_with fail
       have hbad := rBad_any w w2 b (l.drop (i + 1)) false HRE.out
       with_reducible refine hbad.mono ?_
       rintro e w3 ⟨rfl, hre⟩
       have HREB := Lib.hid hre
       clear hbad hre
       go_wp2_with fail
       go_ret
       exact .inr ⟨HR0.out, rfl, HREB.out⟩
  ·obtain rfl : i = n := by omega
   have HR0 := Lib.hid (show r = none by rw [show r = _ from HI.out, List.drop_of_length_le (by rw [← HN.out]; exact Nat.le_refl _)]; rfl)
   have hc : Calls Tryz.prog 127 #[.pointer (some ⟨b, 0, none⟩), .int .i64 1] wr fun e w2 => e = .returned (.slice none 0 0) ∧ RrP w b [] true w2 := rRaw_bad w wr b 1 (l.drop i) HP.out (by rw [List.length_drop, ← HN.out]; omega) (by decide)
   have HC := Lib.hid hc
   clear hc HI HP
   go_wp2_with fail
   have hc := HC.out
   with_reducible refine hc.mono ?_
   rintro e w2 ⟨rfl, hre⟩
   have HRE := Lib.hid hre
   obtain ⟨a3, c3, hb3, _, _, _, _, _⟩ := hre
   have d1 := cell_at hb3 1
   have hbl := get_lt hb3
   simp at d1
   clear hc hb3
   go_wp2_with fail
   go_ret
   exact .inr ⟨HR0.out, rfl, HRE.out⟩
end Go.Proofs.YtdibkdgafidjgaaGreatDoor
namespace Go.Proofs.YtdibkdgafidjgaaGreatDoor
open Go.RowKit Go.Mer
def RdR (w wr : World) (k0 : Nat) (b : List UInt8) (D : List (List UInt8)) (i : Nat) (a : Option Addr) (c at_ : Nat) : Prop :=
 ∃ X, RowsP w wr a i c X ∧ i ≤ D.length ∧ TkI k0 b X at_ ∧ D.drop i = scanL (b.drop at_)
def ReadP (w : World) (k0 : Nat) (b : List UInt8) (e : Ending) (w' : World) : Prop :=
 ∃ a n c, e = .returned (.tuple #[.slice a n c, .int .i64 ((entsF k0 b).2 : Int), .bool (decide ((entsF k0 b).2 = b.length))]) ∧ RowsP w w' a n c (entsF k0 b).1
theorem scan_cell {w : World} {D : List (List UInt8)} {a : Option Addr} {n c : Nat} {w0 : World} (h : RowsP w0 w a n c D) {i : Nat} (hi : i < n) :
  ∃ g off ra rc, a = some ⟨g, off, none⟩ ∧ w.cell? ⟨g, off + i, none⟩ = some (.slice ra (D.getD i []).length rc) ∧ D[i]? = some (D.getD i []) ∧ Rd w w.heap.size ra (u8s (D.getD i [])) ∧ (D.getD i []).length ≤ rc ∧ (D.getD i []).length ≤ 1000000000 ∧ g < w.heap.size := by
 obtain ⟨Q, h1, h2, h3⟩ := h
 have hiQ : i < Q.length := by rw [← h1.1]; exact hi
 obtain ⟨a', c', hv, _, hrd⟩ := h1.2.1.rd
 injection hv with e1 e2 e3
 subst e1
 obtain ⟨g, off, rfl, hc⟩ := rd_chunk rowC_len (by decide) hrd hiQ
 have h0 := hc w (Kp.refl _ _) 0 _ rfl
 rw [Nat.mul_one, Nat.add_zero] at h0
 have hD : D[i]? = some Q[i].data := by rw [← h3, List.getElem?_map, List.getElem?_eq_getElem hiQ]; rfl
 have hDd : D.getD i [] = Q[i].data := by rw [List.getD_eq_getElem?_getD, hD]; rfl
 obtain ⟨⟨ho, hcap, hlen⟩, _⟩ := h2 Q[i] (List.getElem_mem _)
 rw [hDd]
 exact ⟨g, off, Q[i].a, Q[i].cap, rfl, h0, hD, ho.rd', hcap, hlen, World.block_lt_of_cell? w _ h0⟩
theorem scan_head {c p : List UInt8} {r : List (List UInt8)} (h : scanL c = p :: r) : ∃ n, deF c = some (p, n) ∧ r = scanL (c.drop n) := by
 cases hd : deF c with
 | none => rw [scanL_none hd] at h; cases h
 | some x =>
  obtain ⟨p', n⟩ := x
  rw [scanL_some hd] at h
  injection h with h1 h2
  exact ⟨n, by rw [h1], h2.symm⟩
theorem rrP_made {W : World} {a : Option Addr} {c : Nat} {p : List UInt8} (hR : Rd W W.heap.size a (u8s p)) (hc : p.length ≤ c) : RrP W W.heap.size p false (W.alloc (.cells #[.slice a p.length c, .bool false] 154 (0, 0))) := by
 have hk : Kp No W (W.alloc (.cells #[.slice a p.length c, .bool false] 154 (0, 0))) := (Kp.refl _ _).alloc _
 refine ⟨a, c, heap_alloc_new W _, (hR.keep hk fun _ _ x => x).mono hk.size (Nat.le_refl _), hc, Nat.le_refl _, fun g o h0 ha => ?_, hk⟩
 obtain ⟨g', o', ha', hg', _⟩ := hR.byte (i := 0) h0
 rw [ha] at ha'
 injection ha' with ha'
 injection ha' with e
 omega
set_option maxRecDepth 100000 in
set_option maxHeartbeats 4000000 in
theorem read_any (w : World) (a : Option Addr) (bc : Nat) (b : List UInt8) (hR : Rd w w.heap.size a (u8s b)) (hbc : b.length ≤ bc) (hm : b.length ≤ 1073741824) (k0 : Nat) (hk0 : k0 ≤ 1000000000) : Calls Tryz.prog 62 #[.slice a b.length bc, .int .i64 (k0 : Int)] w (ReadP w k0 b) := by
 have hsc := Scan_any w a bc b hR hbc hm
 obtain ⟨n, hn⟩ : ∃ n, n = b.length := ⟨_, rfl⟩
 rw [← hn] at hbc hm hsc ⊢
 have HSC := Lib.hid hsc
 have HN := Lib.hid hn
 clear hR hn hsc
 go_enter Tryz.func62, Tryz.ntmps62
 go_wp2_with fail
 have hc := HSC.out
 with_reducible refine hc.mono ?_
 rintro e w1 ⟨sa, m, sc, k, rfl, hrows⟩
 clear hc
 obtain ⟨D, hD⟩ : ∃ D, D = scanL b := ⟨_, rfl⟩
 rw [← hD] at hrows
 have hml := hrows.len
 have hkw := hrows.kp
 have HROWS := Lib.hid hrows
 have HDD := Lib.hid hD
 have HML := Lib.hid hml
 have HKW := Lib.hid hkw
 clear hrows hD hml hkw
 have hmn : m ≤ n := by
  have hk2 := HROWS.out
  have : ∀ (f : Nat) (b : List UInt8), (scanG f b).length ≤ b.length := by
   intro f
   induction f with
   | zero => intro b; simp [scanG]
   | succ f ih =>
    intro b
    rw [scanG]
    cases hd : deF b with
    | none => simp
    | some x =>
     obtain ⟨p, q⟩ := x
     obtain ⟨h1, h2, _⟩ := deF_some hd
     have := ih (b.drop q)
     rw [List.length_drop] at this
     simp only [List.length_cons]
     omega
  rw [HML.out, HDD.out, HN.out]
  exact this _ b
 go_wp2_with fail
 rename World => w2
 go_loopw [9, 10, 11] (fun s9 s10 s11 wr => ∃ (ra : Option Addr) (rc t i : Nat), t ≤ n ∧ i ≤ m ∧ s9 = .slice ra i rc ∧ s10 = .int .i64 (t : Int) ∧ s11 = .int .i64 (i : Int) ∧ Hid (RdR w2 wr k0 b D i ra rc t)) (fun _ _ s11 _ => m - (intOf s11).toNat)
 case atStart => exact ⟨none, 0, 0, 0, by omega, by omega, rfl, rfl, rfl, Lib.hid ⟨[], RowsP.nil _, by omega, tk_start _ _, by rw [HDD.out]; simp⟩⟩
 case round =>
  obtain ⟨ra, rc, t, i, ht, hi, rfl, rfl, rfl, HS⟩ := hrel
  obtain ⟨X, hX, hiD, hTk, hdr⟩ := HS.out
  clear HS
  have hkr := hX.kp
  have hXl := hX.len
  by_cases hlt : i < m
  ·obtain ⟨g, off, da, dc, rfl, hcell, hDi, hdrd, hdc, hdl, hgl⟩ := scan_cell (HROWS.out.keep hkr) hlt
   obtain ⟨p, hp⟩ : ∃ p, p = D.getD i [] := ⟨_, rfl⟩
   rw [← hp] at hcell hDi hdrd hdc hdl
   have hdd : D.drop i = p :: D.drop (i + 1) := by
    obtain ⟨hi', he⟩ := List.getElem?_eq_some_iff.1 hDi
    rw [List.drop_eq_getElem_cons hi', he]
   obtain ⟨pn, hde, hdr2⟩ := scan_head (hdr.symm.trans hdd)
   obtain ⟨hpn, hpl, hp26, _⟩ := deF_some hde
   rw [List.length_drop, ← HN.out] at hpl
   have hgn : ∀ k, (Value.slice ra i rc).ownBlock = some k → g ≠ k := fun k hk e => by
    subst e
    have h1 := HROWS.out
    obtain ⟨Q1, hQ1, _⟩ := h1
    obtain ⟨Q2, hQ2, _⟩ := hX
    have h3 := hQ2.2.2.1 g hk
    have h4 := hQ1.2.1.lt g rfl
    omega
   have hrr := rrP_made hdrd hdc
   obtain ⟨pl, hpl2⟩ : ∃ pl, pl = p.length := ⟨_, rfl⟩
   have hnm := rNum_rd wr _ wr.heap.size p hrr (by omega)
   rw [← hpl2] at hcell hnm hpn hp26
   have hnb : t + (pl + 12) ≤ n := by omega
   have HNM := Lib.hid hnm
   have HX := Lib.hid hX
   have HDR2 := Lib.hid hdr2
   have HDE := Lib.hid hde
   have HTK := Lib.hid hTk
   have HXL := Lib.hid hXl
   have HPL := Lib.hid hpl2
   have HPN := Lib.hid hpn
   clear hnm hX hdr2 hde hTk hXl hrr hpl hp hDi hdrd hdc hdl hdd hdr hiD hkr hpl2 hpn
   go_wp2_with fail
   have hc := HNM.out
   with_reducible refine hc.mono ?_
   rintro e w3 hnu
   clear hc
   rcases hnu with ⟨mm, q, hnd, rfl, hre⟩ | ⟨hnd, rfl, hre⟩
   ·obtain ⟨qa, qc, hqb, hqr, hqc, _, _, hqk⟩ := hre
    have hql := numD_len p 0 0 hnd
    have c0 := cell_at hqb 0
    have c1 := cell_at hqb 1
    have hbl := get_lt hqb
    simp at c0 c1
    have hib : i ≤ 1073741824 := by omega
    by_cases hmk : mm = k0 + i
    ·have e3 : ((mm : Int) == (k0 : Int) + (i : Int)) = true := by rw [beq_iff_eq, hmk]; push_cast; rfl
     have e4 : ((mm : Int) != (k0 : Int) + (i : Int)) = false := by rw [bne, e3]; rfl
     obtain ⟨a5, c5, W5, hr5, ho5, hk5, hf5⟩ := cpy_bytes w3 q qa qc hqr (by rw [← HPL.out] at hql; omega)
     obtain ⟨ql, hqle⟩ : ∃ ql, ql = q.length := ⟨_, rfl⟩
     have hqlb : ql ≤ 1000000000 := by rw [← HPL.out] at hql; omega
     have hrp := (HX.out.keep hqk).keep hk5
     obtain ⟨a6, c6, W6, hr6, hx6, hk6⟩ := hrp.app (by omega) ho5 (fun g hg => Nat.le_trans (Nat.le_trans HX.out.kp.size hqk.size) (hf5 g hg)) (by rw [← hqle]; exact hqlb)
     rw [← hqle] at hr5 hr6 c0
     have hk56 : Kp (fun k => (Value.slice ra i rc).ownBlock = some k) wr W6 := (Kp.of_no (hqk.trans_same hk5)).trans_same hk6
     have hc6 : W6.cell? ⟨g, off + i, none⟩ = some (.slice da pl dc) := by
      rw [hk56.cell (p := ⟨g, off + i, none⟩) hgl (fun h => hgn g h rfl)]
      exact hcell
     have hgl6 := hk56.lt hgl
     obtain ⟨t2, ht2⟩ : ∃ t2, t2 = t + (pl + 12) := ⟨_, rfl⟩
     have ht2n : t2 ≤ n := by omega
     have hnew : RdR w2 W6 k0 b D (i + 1) a6 c6 t2 := by
      refine ⟨X ++ [q], hx6, by rw [← HML.out]; omega, ?_, ?_⟩
      ·rw [ht2, ← HPN.out]
       exact tk_more HTK.out HDE.out (by rw [hnd, hmk, HXL.out])
      ·rw [HDR2.out, List.drop_drop, ht2, ← HPN.out]
     have HNEW := Lib.hid hnew
     have HR5 := Lib.hid hr5
     have HR6 := Lib.hid hr6
     have HT2 := Lib.hid ht2
     clear hnew hr5 hr6 ht2 hx6 hrp ho5 hf5 hk5 hk6 hk56 hqle hmk hqb hqr hqk hnd hql
     go_wp2_with (first | (at_builtin; refine wpList_append_run rfl rfl rfl rfl HR5.out ?_; clear HR5) | (at_builtin; refine wpList_append_run rfl rfl rfl rfl HR6.out ?_; clear HR6))
     refine ⟨⟨a6, c6, t2, i + 1, ht2n, by omega, rfl, ?_, by push_cast; rfl, HNEW⟩, ?_⟩
     ·exact congrArg (Value.int .i64) (by have := HT2.out; omega)
     ·simp [intOf]
      omega
    ·have e3 : ((mm : Int) == (k0 : Int) + (i : Int)) = false := by rw [beq_eq_false_iff_ne]; omega
     have e4 : ((mm : Int) != (k0 : Int) + (i : Int)) = true := by rw [bne, e3]; rfl
     have HFIN := Lib.hid (tk_end HTK.out (entsF_bad HDE.out (fun q' hq' => by
      rw [hnd] at hq'
      injection hq' with hq'
      injection hq' with hq' _
      have := HXL.out
      omega)))
     have HKQ := Lib.hid hqk
     clear hqb hqk hnd hqr
     go_wp2_with fail
     go_ret3
     refine ⟨ra, i, rc, ?_, ?_⟩
     ·rw [HFIN.out, ← HN.out]
      have : decide (t = n) = false := by rw [decide_eq_false_iff_not]; omega
      rw [this]
      rfl
     ·rw [HFIN.out]
      exact (HX.out.keep HKQ.out).back HKW.out
   ·obtain ⟨qa, qc, hqb, _, _, _, _, hqk⟩ := hre
    have c1 := cell_at hqb 1
    have hbl := get_lt hqb
    simp at c1
    have HFIN := Lib.hid (tk_end HTK.out (entsF_bad HDE.out (fun q' hq' => by rw [hnd] at hq'; cases hq')))
    have HKQ := Lib.hid hqk
    clear hqb hqk hnd
    go_wp2_with fail
    go_ret3
    refine ⟨ra, i, rc, ?_, ?_⟩
    ·rw [HFIN.out, ← HN.out]
     have : decide (t = n) = false := by rw [decide_eq_false_iff_not]; omega
     rw [this]
     rfl
    ·rw [HFIN.out]
     exact (HX.out.keep HKQ.out).back HKW.out
  ·have him : i = m := by omega
   have hsn : scanL (b.drop t) = [] := by
    rw [← hdr, him, HML.out]
    exact List.drop_length
   have hno : deF (b.drop t) = none := by
    cases hd : deF (b.drop t) with
    | none => rfl
    | some x =>
     obtain ⟨p', n'⟩ := x
     rw [scanL_some hd] at hsn
     cases hsn
   have HFIN := Lib.hid (tk_end hTk (entsF_none _ hno))
   have HX := Lib.hid hX
   clear hX hTk hno hsn hdr hkr hXl hiD
   by_cases htn : t = n
   ·have e1 : ((t : Int) == (n : Int)) = true := by rw [beq_iff_eq, htn]
    have HTN := Lib.hid htn
    clear htn
    go_wp2_with fail
    go_ret3
    refine ⟨ra, i, rc, ?_, by rw [HFIN.out]; exact HX.out.back HKW.out⟩
    rw [HFIN.out, ← HN.out, decide_eq_true HTN.out]
    rfl
   ·have e1 : ((t : Int) == (n : Int)) = false := by rw [beq_eq_false_iff_ne]; omega
    have HTN := Lib.hid htn
    clear htn
    go_wp2_with fail
    go_ret3
    refine ⟨ra, i, rc, ?_, by rw [HFIN.out]; exact HX.out.back HKW.out⟩
    rw [HFIN.out, ← HN.out, decide_eq_false HTN.out]
    rfl
end Go.Proofs.YtdibkdgafidjgaaGreatDoor

