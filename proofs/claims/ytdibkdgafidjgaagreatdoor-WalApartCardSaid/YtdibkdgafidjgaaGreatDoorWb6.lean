/-
  Texts laid together: WLogPl, WTkI, WRdNum, WRdRaw.
-/
import Derived.Test.YtdibkdgafidjgaaGreatDoorWa4
import Derived.Test.YtdibkdgafidjgaaGreatDoorWb5
namespace Go.Proofs.YtdibkdgafidjgaaGreatDoor
open Go.RowKit Go.Mer
theorem entsG_few (f : Nat) : ∀ (k : Nat) (b : List UInt8), 12 * (entsG f k b).1.length ≤ (entsG f k b).2 := by
 induction f with
 | zero => intro k b; simp [entsG]
 | succ f ih =>
  intro k b
  rw [entsG]
  cases hd : deF b with
  | none => simp
  | some x =>
   obtain ⟨p, n⟩ := x
   obtain ⟨hn, _⟩ := deF_some hd
   cases hq : numD 0 0 p with
   | none => simp only [hq]; simp
   | some y =>
    obtain ⟨m, q⟩ := y
    simp only [hq]
    split
    ·have := ih (k + 1) (b.drop n)
     simp only [List.length_cons]
     omega
    ·simp
theorem entsF_few (k : Nat) (b : List UInt8) : 12 * (entsF k b).1.length ≤ (entsF k b).2 := entsG_few _ _ _
theorem entsF_zero {k : Nat} {b : List UInt8} (h : (entsF k b).2 = 0) : (entsF k b).1 = [] := by
 have := entsF_few k b
 exact List.eq_nil_of_length_eq_zero (by omega)
def sumR (l : Files) (N : List ByteArray) : Nat := (N.map fun x => (rdS l x).1.length).sum
theorem take_few (l : Files) (P : ByteArray) (st : LSt) (x : ByteArray) : 12 * (takeS l P st x).1.ents.length ≤ 12 * st.ents.length + (rdS l x).1.length := by
 unfold takeS
 split
 ·have h1 := entsF_few (st.ents.length + 1) (rdS l x).1
  have h2 := entsF_le (rdS l x).1 (st.ents.length + 1)
  simp only [List.length_append]
  omega
 ·simp only
  omega
theorem scan_few (l : Files) (P : ByteArray) : ∀ (N : List ByteArray) (st : LSt), 12 * (scanS l P st N).1.ents.length ≤ 12 * st.ents.length + sumR l N
 | [], st => by simp [scanS, sumR]
 | x :: r, st => by
  rw [scanS]
  have h1 := take_few l P st x
  have e : sumR l (x :: r) = (rdS l x).1.length + sumR l r := by simp [sumR]
  split
  ·have := scan_few l P r (takeS l P st x).1
   omega
  ·simp only
   omega
theorem sumR_tot {l : Files} (hn : (l.map (·.1)).Nodup) : ∀ {N : List ByteArray}, N.Nodup → sumR l N = totV l N
 | [], _ => by rw [totV_nil]; rfl
 | x :: r, h => by
  have ih := sumR_tot hn (List.nodup_cons.1 h).2
  have e : sumR l (x :: r) = (rdS l x).1.length + sumR l r := by simp [sumR]
  rw [e, ih]
  cases hg : gget l x with
  | none =>
   have hx : ∀ p ∈ l, p.1 ≠ x := fun p hp he => gget_none_iff.1 hg (List.mem_map.2 ⟨p, hp, he⟩)
   have : (rdS l x).1 = [] := by unfold rdS; rw [hg]
   rw [this, List.length_nil, Nat.zero_add]
   unfold totV
   congr 1
   apply List.filter_congr
   intro p hp
   have := hx p hp
   simp [this]
  | some c =>
   have h1 := totV_step hn (gget_mem hg) (List.nodup_cons.1 h).1
   have : (rdS l x).1 = c.data := by unfold rdS; rw [hg]
   rw [this, h1]
   simp only
   omega
theorem sumR_le {l : Files} (hn : (l.map (·.1)).Nodup) {N : List ByteArray} (h : N.Nodup) : sumR l N ≤ totF l := by
 rw [sumR_tot hn h]
 exact totV_le _ _
theorem scan_append (l : Files) (P : ByteArray) (B : List ByteArray) : ∀ (A : List ByteArray) (st : LSt), (scanS l P st A).2 = [] → scanS l P st (A ++ B) = scanS l P (scanS l P st A).1 B
 | [], st, _ => rfl
 | x :: A, st, h => by
  rw [List.cons_append, scanS, scanS]
  rw [scanS] at h
  split at h
  ·next h1 =>
   rw [if_pos h1, if_pos h1]
   exact scan_append l P B A _ h
  ·cases h
theorem scan_step {l : Files} {P : ByteArray} {st st1 : LSt} {A : List ByteArray} {x : ByteArray} (h : scanS l P st A = (st1, [])) (hx : (takeS l P st1 x).2 = true) : scanS l P st (A ++ [x]) = ((takeS l P st1 x).1, []) := by
 rw [scan_append l P [x] A st (by rw [h]), h]
 simp [scanS, hx]
theorem scan_stop {l : Files} {P : ByteArray} {st st1 : LSt} {A r : List ByteArray} {x : ByteArray} (h : scanS l P st A = (st1, [])) (hx : (takeS l P st1 x).2 = false) : scanS l P st (A ++ x :: r) = ((takeS l P st1 x).1, x :: r) := by
 rw [scan_append l P (x :: r) A st (by rw [h]), h]
 simp [scanS, hx]
theorem take_names (l : Files) (P : ByteArray) (st : LSt) (x : ByteArray) : ∀ z ∈ (takeS l P st x).1.segs, z ∈ st.segs ∨ bnm P z.1 = x := by
 intro z hz
 unfold takeS at hz
 split at hz
 ·next h =>
  simp only at hz
  split at hz
  ·rcases List.mem_append.1 hz with hz | hz
   ·exact .inl hz
   ·rw [List.mem_singleton] at hz
    rw [hz]
    exact .inr h.symm
  ·exact .inl hz
 ·exact .inl hz
theorem scan_names (l : Files) (P : ByteArray) : ∀ (N : List ByteArray) (st : LSt), ∀ z ∈ (scanS l P st N).1.segs, z ∈ st.segs ∨ bnm P z.1 ∈ N
 | [], st, z, hz => .inl hz
 | x :: r, st, z, hz => by
  rw [scanS] at hz
  have key : z ∈ (takeS l P st x).1.segs → z ∈ st.segs ∨ bnm P z.1 ∈ x :: r := fun h => by
   rcases take_names l P st x z h with h | h
   ·exact .inl h
   ·exact .inr (by rw [h]; exact List.mem_cons_self ..)
  split at hz
  ·rcases scan_names l P r _ z hz with h | h
   ·exact key h
   ·exact .inr (List.mem_cons_of_mem _ h)
  ·exact key hz
theorem endOne_ref {l : Files} {P : ByteArray} {st : LSt} {x : ByteArray} (hz : ∀ z ∈ st.segs, bnm P z.1 ≠ x) (hx : (takeS l P st x).2 = false) (s : DSt) :
  endOne P s (takeS l P st x).1.segs x = if x ≠ bnm P (st.ents.length + 1) ∨ (entsF (st.ents.length + 1) (rdS l x).1).2 = 0 then rmS s x else cuS s x ((entsF (st.ents.length + 1) (rdS l x).1).2 : Int) := by
 have hrm : endOne P s st.segs x = rmS s x := by
  unfold endOne
  split
  ·rfl
  ·next z h =>
   rw [if_neg (hz z (List.mem_of_getLast? h))]
 unfold takeS at hx ⊢
 by_cases h : x = bnm P (st.ents.length + 1)
 ·rw [if_pos h] at hx ⊢
  simp only [decide_eq_false_iff_not] at hx
  obtain ⟨g, hg⟩ : ∃ g, g = (entsF (st.ents.length + 1) (rdS l x).1).2 := ⟨_, rfl⟩
  rw [← hg] at hx ⊢
  simp only
  by_cases h0 : g = 0
  ·rw [if_pos (show x ≠ bnm P (st.ents.length + 1) ∨ g = 0 from .inr h0), if_neg (show ¬ (0 < g ∨ (rdS l x).1.length = 0) by omega)]
   exact hrm
  ·rw [if_neg (show ¬ (x ≠ bnm P (st.ents.length + 1) ∨ g = 0) from fun hh => hh.elim (fun h' => h' h) h0), if_pos (show 0 < g ∨ (rdS l x).1.length = 0 by omega)]
   unfold endOne
   rw [List.getLast?_append]
   simp only [List.getLast?_singleton, Option.some_or]
   rw [if_pos h.symm]
 ·rw [if_neg h]
  rw [if_pos (.inl h)]
  exact hrm
end Go.Proofs.YtdibkdgafidjgaaGreatDoor
namespace Go.Proofs.YtdibkdgafidjgaaGreatDoor
open Go.RowKit Go.Mer
def TkI (k0 : Nat) (b : List UInt8) (X : List (List UInt8)) (good : Nat) : Prop :=
 good ≤ b.length ∧ 12 * X.length ≤ good ∧ entsF k0 b = (X ++ (entsF (k0 + X.length) (b.drop good)).1, good + (entsF (k0 + X.length) (b.drop good)).2)
theorem tk_start (k0 : Nat) (b : List UInt8) : TkI k0 b [] 0 := ⟨Nat.zero_le _, Nat.le_refl _, by simp⟩
theorem tk_more {k0 : Nat} {b : List UInt8} {X : List (List UInt8)} {good : Nat} (h : TkI k0 b X good) {p q : List UInt8} {n : Nat} (hd : deF (b.drop good) = some (p, n)) (hq : numD 0 0 p = some (k0 + X.length, q)) : TkI k0 b (X ++ [q]) (good + n) := by
 obtain ⟨h1, h2, h3⟩ := h
 obtain ⟨hn, hl, _⟩ := deF_some hd
 rw [List.length_drop] at hl
 refine ⟨by omega, by rw [List.length_append, List.length_singleton]; omega, ?_⟩
 rw [h3, entsF_more hd hq, List.drop_drop, List.length_append, List.length_singleton, List.append_assoc, Nat.add_assoc k0, Nat.add_assoc good]
 rfl
theorem tk_end {k0 : Nat} {b : List UInt8} {X : List (List UInt8)} {good : Nat} (h : TkI k0 b X good) (he : entsF (k0 + X.length) (b.drop good) = ([], 0)) : entsF k0 b = (X, good) := by
 rw [h.2.2, he]
 simp
theorem numD_len : ∀ (l : List UInt8) (i u : Nat) {m : Nat} {q : List UInt8}, numD i u l = some (m, q) → q.length ≤ l.length
 | [], _, _, _, _, h => by cases h
 | c :: r, i, u, m, q, h => by
  rw [numD] at h
  split at h
  ·cases h
  ·split at h
   ·split at h
    ·cases h
    ·injection h with h
     injection h with _ h
     rw [← h, List.length_cons]
     omega
   ·have := numD_len r _ _ h
    rw [List.length_cons]
    omega
end Go.Proofs.YtdibkdgafidjgaaGreatDoor
namespace Go.Proofs.YtdibkdgafidjgaaGreatDoor
open Go.RowKit Go.Mer
def NuP (w : World) (b : Nat) (res : Option (Nat × List UInt8)) (e : Ending) (w2 : World) : Prop :=
 (∃ m r, res = some (m, r) ∧ e = .returned (.int .i64 (m : Int)) ∧ ReP w b r false w2) ∨ (res = none ∧ e = .returned (.int .i64 0) ∧ ReP w b [] true w2)
theorem Bad_any (w w' : World) (b : Nat) (l : List UInt8) (bad : Bool) (h : ReP w b l bad w') : Calls Tryz.prog 124 #[.pointer (some ⟨b, 0, none⟩)] w' fun e w2 => e = .returned (.tuple #[]) ∧ ReP w b [] true w2 := by
 obtain ⟨a, c, hb, hR, hc, hwb, hne, hk⟩ := h
 have c0 := cell_at hb 0
 have c1 := cell_at hb 1
 have f0 := free_at hb 0
 have f1 := free_at hb 1
 have hbl := get_lt hb
 simp at c0 c1
 have H := Lib.hid (And.intro hb (And.intro hwb hk))
 clear hb hR hc hwb hne hk
 go_enter Tryz.func124, Tryz.ntmps124
 go_wp2_with fail
 refine bodyPost_end (results_none rfl _ _ _) rfl ⟨rfl, none, 0, set_at (set_at H.out.1 0 _) 1 _, Rd.nil _ _ _, Nat.le_refl _, H.out.2.1, fun g o h => (by simp at h), ?_⟩
 exact (H.out.2.2.setCell (p := ⟨b, 0, none⟩) (.inr H.out.2.1) _).setCell (p := ⟨b, 1, none⟩) (.inr H.out.2.1) _
theorem rd_keepAt {S : Nat → Prop} {w w' : World} {B : Nat} {a : Option Addr} {xs : List Value} (h : Rd w B a xs) (hk : Kp S w w') (hS : 0 < xs.length → ∀ k o, a = some ⟨k, o, none⟩ → ¬ S k) : Rd w' w'.heap.size a xs := fun hx => by
 obtain ⟨g, off, rfl, hg, hB, hc⟩ := h hx
 have hgl : g < w.heap.size := by omega
 refine ⟨g, off, rfl, hk.lt hgl, Nat.le_refl _, fun j u hu => ?_⟩
 exact (hk.cell (p := ⟨g, off + j, none⟩) hgl (hS hx g off rfl)).trans (hc j u hu)
theorem rep_cut {w w0 : World} {b g off c : Nat} {l : List UInt8} (hb : w0.heap[b]? = some (.cells #[.slice (some ⟨g, off, none⟩) l.length c, .bool false] 175 (0, 0))) (hR : Rd w0 w0.heap.size (some ⟨g, off, none⟩) (u8s l)) (hc : l.length ≤ c) (hwb : w.heap.size ≤ b) (hne : ∀ q o, 0 < l.length → (some ⟨g, off, none⟩ : Option Addr) = some ⟨q, o, none⟩ → q ≠ b) (hk : Kp No w w0) (k : Nat) (a' : Option Addr) (c' : Nat) (ha : a' = some ⟨g, off + k, none⟩ ∨ l.length ≤ k) (hc' : c' = c - k) :
  ReP w b (l.drop k) false (w0.setCell ⟨b, 0, none⟩ (.slice a' ((l.length - k : Nat) : Nat) c')) := by
 refine ⟨a', c', ?_, ?_, ?_, hwb, fun q o hp h => ?_, hk.setCell (.inr hwb) _⟩
 ·rw [List.length_drop]
  exact set_at hb 0 _
 ·rcases Nat.lt_or_ge k l.length with hlt | hge
  ·rcases ha with rfl | ha
   ·have h := hR.drop k
    rw [Option.map_some, add_lit'] at h
    simp only [u8s, ← List.map_drop] at h
    exact rd_keepAt h ((Kp.refl (fun j => j = b) w0).setCell (p := ⟨b, 0, none⟩) (.inl rfl) _) fun _ j o hj hjb => hne j (o - k) (by omega) (by injection hj with hj; injection hj with h1 h2; subst h1; subst h2; simp) hjb
   ·omega
  ·rw [List.drop_of_length_le hge]
   exact Rd.nil _ _ _
 ·rw [List.length_drop, hc']
  omega
 ·rcases ha with rfl | ha
  ·injection h with hj
   injection hj with h1 h2
   rw [← h1]
   exact hne g off (by rw [List.length_drop] at hp; omega) rfl
  ·rw [List.length_drop] at hp
   omega
theorem numG {i u X : Nat} (hi : i < 9) (hu : u < 128 ^ i) (hX : X < 256) : ∃ v y z : Nat, v = X % 128 ∧ y = v * 128 ^ i ∧ z = u + y ∧ z < 128 ^ (i + 1) ∧ z < 9223372036854775808 ∧ bits .and .u8 (X : Int) 127 = (v : Int) ∧ IntKind.u64.wrap (v : Int) = (v : Int) ∧ IntKind.u64.wrap ((v : Int) * 2 ^ (7 * i)) = (y : Int) ∧ bits .or .u64 (u : Int) (y : Int) = (z : Int) := by
 have hp : 128 ^ i = 2 ^ (7 * i) := by rw [show (128 : Nat) = 2 ^ 7 from rfl, ← Nat.pow_mul]
 have hpm : 128 ^ (i + 1) ≤ 128 ^ 9 := Nat.pow_le_pow_right (by decide) (by omega)
 have hp9 : (128 : Nat) ^ 9 = 9223372036854775808 := by decide
 have hv : X % 128 < 128 := Nat.mod_lt _ (by decide)
 have hy : X % 128 * 128 ^ i ≤ 127 * 128 ^ i := Nat.mul_le_mul_right _ (by omega)
 have hs : 128 ^ (i + 1) = 128 * 128 ^ i := by rw [Nat.pow_succ, Nat.mul_comm]
 refine ⟨X % 128, X % 128 * 128 ^ i, u + X % 128 * 128 ^ i, rfl, rfl, rfl, by omega, by omega, ?_, ?_, ?_, ?_⟩
 ·have := bits_and (k := .u8) rfl (a := X) (b := 127) (show X < 2 ^ 8 by omega) (by decide)
  rw [show (127 : Nat) = 2 ^ 7 - 1 from rfl, Nat.and_two_pow_sub_one_eq_mod X 7] at this
  exact this
 ·exact Mer.wrap_small (k := .u64) rfl (show X % 128 < 2 ^ 64 by omega)
 ·have e : ((X % 128 : Nat) : Int) * 2 ^ (7 * i) = ((X % 128 * 128 ^ i : Nat) : Int) := by
   rw [hp, Int.natCast_mul, Int.natCast_pow]
   rfl
  rw [e]
  have h64 : (2 : Nat) ^ 64 = 18446744073709551616 := by decide
  exact Mer.wrap_small (k := .u64) rfl (show X % 128 * 128 ^ i < 2 ^ 64 by omega)
 ·have h64 : (2 : Nat) ^ 64 = 18446744073709551616 := by decide
  rw [bits_or (k := .u64) rfl (show u < 2 ^ 64 by omega) (show X % 128 * 128 ^ i < 2 ^ 64 by omega), hp, or_add u (7 * i) (X % 128) (by rw [← hp]; exact hu)]
theorem numD_step {l : List UInt8} {i u : Nat} {c : UInt8} (hc : l[i]? = some c) : numD i u (l.drop i) = if 9 ≤ i ∨ (0 < i ∧ c = 0) then none else if c.toNat < 128 then (if 4611686018427387904 < u + c.toNat * 128 ^ i then none else some (u + c.toNat * 128 ^ i, l.drop (i + 1))) else numD (i + 1) (u + (c.toNat - 128) * 128 ^ i) (l.drop (i + 1)) := by
 have := List.getElem?_eq_some_iff.1 hc
 rw [show l.drop i = c :: l.drop (i + 1) by rw [← this.2]; exact List.drop_eq_getElem_cons this.1, numD]
set_option maxRecDepth 100000 in
set_option maxHeartbeats 2000000 in
theorem Num_any (w w' : World) (b : Nat) (l : List UInt8) (h : ReP w b l false w') (hl : l.length ≤ 1000000000000) : Calls Tryz.prog 92 #[.pointer (some ⟨b, 0, none⟩)] w' (NuP w b (numD 0 0 l)) := by
 have HP := Lib.hid h
 obtain ⟨a, c, hb, hR, hc, hwb, hne, hk⟩ := h
 have c0 := cell_at hb 0
 have hbl := get_lt hb
 simp at c0
 obtain ⟨r, hr⟩ : ∃ r, r = numD 0 0 l := ⟨_, rfl⟩
 rw [← hr]
 obtain ⟨n, hn⟩ : ∃ n, n = l.length := ⟨_, rfl⟩
 rw [← hn] at c0 hl hc
 have HR := Lib.hid hR
 have HRR := Lib.hid hr
 have HN := Lib.hid hn
 have HB := Lib.hid (And.intro hb (And.intro hwb (And.intro hne hk)))
 clear hb hR hwb hne hk hr hn
 go_enter Tryz.func92, Tryz.ntmps92
 go_wp2_with fail
 rename World => w0
 go_loopw [3, 13] (fun s3 s13 wr => ∃ i u : Nat, i ≤ n ∧ s3 = .int .u64 (u : Int) ∧ s13 = .int .i64 (i : Int) ∧ i ≤ 9 ∧ u < 128 ^ i ∧ Hid (r = numD i u (l.drop i)) ∧ w0 = wr) (fun _ s13 _ => n - (intOf s13).toNat)
 case atStart => exact ⟨0, 0, Nat.zero_le _, rfl, rfl, by omega, by decide, HRR, rfl⟩
 case round =>
  obtain ⟨i, u, hi, rfl, rfl, hi9, hu, HI, rfl⟩ := hrel
  rcases Nat.lt_or_ge i n with hlt | hge
  ·have hlt2 : i < l.length := by rw [← HN.out]; exact hlt
   obtain ⟨x, hx⟩ : ∃ x, l[i]? = some x := ⟨l[i]'hlt2, List.getElem?_eq_getElem _⟩
   obtain ⟨g, off, rfl, _, _, hcell⟩ := HR.out.byte hlt2
   rw [show l[i] = x from (List.getElem?_eq_some_iff.1 hx).2] at hcell
   have hstep := numD_step (u := u) hx
   rw [← show r = _ from HI] at hstep
   obtain ⟨X, hX⟩ : ∃ X, X = x.toNat := ⟨_, rfl⟩
   have hX256 : X < 256 := by rw [hX]; exact x.toNat_lt
   rw [← hX] at hcell hstep
   have HST := Lib.hid hstep
   have HX := Lib.hid hX
   clear hstep hX HI
   rcases Nat.lt_or_ge i 9 with h9 | h9
   ·have e9 : decide ((9 : Int) ≤ (i : Int)) = false := by rw [decide_eq_false_iff_not]; omega
    obtain ⟨v, y, z, hv, hy, hz, hz1, hz2, b1, b2, b3, b4⟩ := numG h9 hu hX256
    rcases Nat.eq_zero_or_pos i with hi0 | hi0
    ·have e0 : decide ((0 : Int) < (i : Int)) = false := by rw [decide_eq_false_iff_not]; omega
     have HN0 := Lib.hid (show ¬ (9 ≤ i ∨ (0 < i ∧ x = 0)) from fun h => h.elim (fun h => absurd h (by omega)) (fun h => absurd h.1 (by omega)))
     have hni : ¬ 0 < i := by omega
     have hni2 : ¬ (0 : Int) < (i : Int) := by omega
     clear hi0
     have hst := HST.out
     rw [if_neg HN0.out] at hst
     have HZ := Lib.hid (And.intro hv (And.intro hy (And.intro hz (And.intro hz1 hz2))))
     clear hv hy hz hz1
     rcases Nat.lt_or_ge X 128 with hx1 | hx1
     ·have e2 : decide ((X : Int) < 128) = true := by rw [decide_eq_true_iff]; omega
      rw [if_pos hx1] at hst
      have hzz : u + X * 128 ^ i = z := by rw [HZ.out.2.2.1, HZ.out.2.1, HZ.out.1, Nat.mod_eq_of_lt hx1]
      rw [hzz] at hst
      rcases Nat.lt_or_ge 4611686018427387904 z with hx2 | hx2
      ·have e3 : decide ((4611686018427387904 : Int) < (z : Int)) = true := by rw [decide_eq_true_iff]; omega
       have HR0 := Lib.hid (show r = none by rw [hst, if_pos hx2])
       clear hst hx2 hzz hz2
       go_wp2_with fail
       have hbad := Bad_any w w0 b l false HP.out
       with_reducible refine hbad.mono ?_
       rintro e w3 ⟨rfl, hre⟩
       have HRE := Lib.hid hre
       clear hbad hre
       go_wp2_with fail
       go_ret
       exact .inr ⟨HR0.out, rfl, HRE.out⟩
      ·have e3 : decide ((4611686018427387904 : Int) < (z : Int)) = false := by rw [decide_eq_false_iff_not]; omega
       have HR0 := Lib.hid (show r = some (z, l.drop (i + 1)) by rw [hst, if_neg (by omega)])
       have hz63 : wrap64 (z : Int) = (z : Int) := IntWalk.wrap64_in _ (by omega)
       clear hst hx2 hzz hz2
       have gn : i + 1 ≤ n := hlt
       have gc : i + 1 ≤ c := Nat.le_trans hlt hc
       have f0 := free_at HB.out.1 0
       have HFIN := Lib.hid (fun a' c' h1 h2 => rep_cut (w := w) HB.out.1 HR.out (by rw [← HN.out]; exact hc) HB.out.2.1 HB.out.2.2.1 HB.out.2.2.2 (i + 1) a' c' h1 h2)
       by_cases hcc : c = i + 1
       ·go_wp2_with fail
        go_ret
        refine .inl ⟨z, l.drop (i + 1), HR0.out, by first | rfl | exact congrArg (fun t => Ending.returned (.int .i64 t)) hz63, ?_⟩
        have := HFIN.out (some ⟨g, off, none⟩) 0 (.inr (by rw [← HN.out]; omega)) (by omega)
        rw [← HN.out] at this
        exact this
       ·go_wp2_with fail
        go_ret
        refine .inl ⟨z, l.drop (i + 1), HR0.out, by first | rfl | exact congrArg (fun t => Ending.returned (.int .i64 t)) hz63, ?_⟩
        have := HFIN.out (some ⟨g, off + (i + 1), none⟩) (c - (i + 1)) (.inl rfl) rfl
        rw [← HN.out] at this
        exact this
     ·have e2 : decide ((X : Int) < 128) = false := by rw [decide_eq_false_iff_not]; omega
      rw [if_neg (by omega)] at hst
      have hzz : u + (X - 128) * 128 ^ i = z := by rw [HZ.out.2.2.1, HZ.out.2.1, HZ.out.1, show X % 128 = X - 128 by omega]
      rw [hzz] at hst
      have HNX := Lib.hid hst
      clear hst hzz hz2
      go_wp2_with fail
      go_roundw
      case rel => exact ⟨i + 1, z, by omega, rfl, by go_num, by omega, HZ.out.2.2.2.1, HNX, trivial⟩
      case measure => simp [intOf]; omega
    ·have e0 : decide ((0 : Int) < (i : Int)) = true := by rw [decide_eq_true_iff]; omega
     by_cases hX0 : X = 0
     ·have e1 : ((X : Int) == 0) = true := by rw [hX0]; rfl
      have HR0 := Lib.hid (show r = none by rw [HST.out, if_pos (.inr ⟨hi0, UInt8.toNat_inj.1 (HX.out.symm.trans hX0)⟩)])
      clear b1 b2 b3 b4 hX0
      go_wp2_with fail
      have hbad := Bad_any w w0 b l false HP.out
      with_reducible refine hbad.mono ?_
      rintro e w3 ⟨rfl, hre⟩
      have HRE := Lib.hid hre
      clear hbad hre
      go_wp2_with fail
      go_ret
      exact .inr ⟨HR0.out, rfl, HRE.out⟩
     ·have e1 : ((X : Int) == 0) = false := by rw [beq_eq_false_iff_ne]; omega
      have HN0 := Lib.hid (show ¬ (9 ≤ i ∨ (0 < i ∧ x = 0)) from fun h => h.elim (fun h => absurd h (by omega)) (fun h => hX0 (by rw [HX.out, h.2]; rfl)))
      have hX2 : ¬ (X : Int) = 0 := by omega
      have hi2 : (0 : Int) < (i : Int) := by omega
      have hst := HST.out
      rw [if_neg HN0.out] at hst
      have HZ := Lib.hid (And.intro hv (And.intro hy (And.intro hz (And.intro hz1 hz2))))
      clear hv hy hz hz1
      rcases Nat.lt_or_ge X 128 with hx1 | hx1
      ·have e2 : decide ((X : Int) < 128) = true := by rw [decide_eq_true_iff]; omega
       rw [if_pos hx1] at hst
       have hzz : u + X * 128 ^ i = z := by rw [HZ.out.2.2.1, HZ.out.2.1, HZ.out.1, Nat.mod_eq_of_lt hx1]
       rw [hzz] at hst
       rcases Nat.lt_or_ge 4611686018427387904 z with hx2 | hx2
       ·have e3 : decide ((4611686018427387904 : Int) < (z : Int)) = true := by rw [decide_eq_true_iff]; omega
        have HR0 := Lib.hid (show r = none by rw [hst, if_pos hx2])
        clear hst hx2 hzz hz2
        go_wp2_with fail
        have hbad := Bad_any w w0 b l false HP.out
        with_reducible refine hbad.mono ?_
        rintro e w3 ⟨rfl, hre⟩
        have HRE := Lib.hid hre
        clear hbad hre
        go_wp2_with fail
        go_ret
        exact .inr ⟨HR0.out, rfl, HRE.out⟩
       ·have e3 : decide ((4611686018427387904 : Int) < (z : Int)) = false := by rw [decide_eq_false_iff_not]; omega
        have HR0 := Lib.hid (show r = some (z, l.drop (i + 1)) by rw [hst, if_neg (by omega)])
        have hz63 : wrap64 (z : Int) = (z : Int) := IntWalk.wrap64_in _ (by omega)
        clear hst hx2 hzz hz2
        have gn : i + 1 ≤ n := hlt
        have gc : i + 1 ≤ c := Nat.le_trans hlt hc
        have f0 := free_at HB.out.1 0
        have HFIN := Lib.hid (fun a' c' h1 h2 => rep_cut (w := w) HB.out.1 HR.out (by rw [← HN.out]; exact hc) HB.out.2.1 HB.out.2.2.1 HB.out.2.2.2 (i + 1) a' c' h1 h2)
        by_cases hcc : c = i + 1
        ·go_wp2_with fail
         go_ret
         refine .inl ⟨z, l.drop (i + 1), HR0.out, by first | rfl | exact congrArg (fun t => Ending.returned (.int .i64 t)) hz63, ?_⟩
         have := HFIN.out (some ⟨g, off, none⟩) 0 (.inr (by rw [← HN.out]; omega)) (by omega)
         rw [← HN.out] at this
         exact this
        ·go_wp2_with fail
         go_ret
         refine .inl ⟨z, l.drop (i + 1), HR0.out, by first | rfl | exact congrArg (fun t => Ending.returned (.int .i64 t)) hz63, ?_⟩
         have := HFIN.out (some ⟨g, off + (i + 1), none⟩) (c - (i + 1)) (.inl rfl) rfl
         rw [← HN.out] at this
         exact this
      ·have e2 : decide ((X : Int) < 128) = false := by rw [decide_eq_false_iff_not]; omega
       rw [if_neg (by omega)] at hst
       have hzz : u + (X - 128) * 128 ^ i = z := by rw [HZ.out.2.2.1, HZ.out.2.1, HZ.out.1, show X % 128 = X - 128 by omega]
       rw [hzz] at hst
       have HNX := Lib.hid hst
       clear hst hzz hz2
       go_wp2_with fail
       go_roundw
       case rel => exact ⟨i + 1, z, by omega, rfl, by go_num, by omega, HZ.out.2.2.2.1, HNX, trivial⟩
       case measure => simp [intOf]; omega
   ·have e9 : decide ((9 : Int) ≤ (i : Int)) = true := by rw [decide_eq_true_iff]; omega
    have HR0 := Lib.hid (show r = none by rw [HST.out, if_pos (.inl h9)])
    go_wp2_with fail
    have hbad := Bad_any w w0 b l false HP.out
    with_reducible refine hbad.mono ?_
    rintro e w3 ⟨rfl, hre⟩
    have HRE := Lib.hid hre
    clear hbad hre
    go_wp2_with fail
    go_ret
    exact .inr ⟨HR0.out, rfl, HRE.out⟩
  ·obtain rfl : i = n := by omega
   have HR0 := Lib.hid (show r = none by rw [show r = _ from HI, List.drop_of_length_le (by rw [← HN.out]; exact Nat.le_refl _)]; rfl)
   go_wp2_with fail
   have hbad := Bad_any w w0 b l false HP.out
   with_reducible refine hbad.mono ?_
   rintro e w3 ⟨rfl, hre⟩
   have HRE := Lib.hid hre
   clear hbad hre
   go_wp2_with fail
   go_ret
   exact .inr ⟨HR0.out, rfl, HRE.out⟩
end Go.Proofs.YtdibkdgafidjgaaGreatDoor
namespace Go.Proofs.YtdibkdgafidjgaaGreatDoor
open Go.RowKit Go.Mer
theorem rep_keep {w w1 w2 : World} {b : Nat} {l : List UInt8} {bad : Bool} (h : ReP w b l bad w1) (hk : Kp No w1 w2) : ReP w b l bad w2 := by
 obtain ⟨a, c, hb, hR, hc, hwb, hne, h0⟩ := h
 exact ⟨a, c, hk.get hb (fun x => x), (hR.keep hk fun _ _ x => x).mono hk.size (Nat.le_refl _), hc, hwb, hne, h0.trans_same hk⟩
theorem rep_end {w w0 : World} {b n c : Nat} {a : Option Addr} (hb : w0.heap[b]? = some (.cells #[.slice a n c, .bool false] 175 (0, 0))) (hwb : w.heap.size ≤ b) (hk : Kp No w w0) (a' : Option Addr) (c' : Nat) : ReP w b [] false (w0.setCell ⟨b, 0, none⟩ (.slice a' (0 : Nat) c')) :=
 ⟨a', c', set_at hb 0 _, Rd.nil _ _ _, Nat.zero_le _, hwb, fun _ _ h => absurd h (by simp), hk.setCell (.inr hwb) _⟩
theorem own_set {w0 : World} {a : Option Addr} {c n b : Nat} {xs : List Value} {u : Value} (h : Mer.Own w0 5 1 (.slice a n c) n xs) (hf : ∀ g, (Value.slice a n c).ownBlock = some g → g ≠ b) : Mer.Own (w0.setCell ⟨b, 0, none⟩ u) 5 1 (.slice a n c) n xs :=
 h.keep ((Kp.refl (fun j => j = b) w0).setCell (p := ⟨b, 0, none⟩) (.inl rfl) u) fun g hg hb => hf g hg hb
set_option maxRecDepth 100000 in
set_option maxHeartbeats 2000000 in
theorem Raw_any (w w' : World) (b k : Nat) (l : List UInt8) (h : ReP w b l false w') (hkl : k ≤ l.length) (hl : l.length ≤ 140737488355328) : Calls Tryz.prog 94 #[.pointer (some ⟨b, 0, none⟩), .int .i64 (k : Int)] w' fun e w2 => OwP w (l.take k) e w2 ∧ ReP w b (l.drop k) false w2 := by
 obtain ⟨a, c, hb, hR, hc, hwb, hne, hk⟩ := h
 have c0 := cell_at hb 0
 have f0 := free_at hb 0
 have hbl := get_lt hb
 simp at c0
 have hcl := clone_any a c (l.take k) w'.heap.size w' (by
  have := hR.take k
  simp only [u8s, ← List.map_take] at this
  exact this) (by rw [List.length_take]; omega)
 rw [List.length_take, Nat.min_eq_left hkl] at hcl
 obtain ⟨n, hn⟩ : ∃ n, n = l.length := ⟨_, rfl⟩
 rw [← hn] at c0 hl hc hkl
 have HN := Lib.hid hn
 have HB := Lib.hid (And.intro hb (And.intro hwb (And.intro hne (And.intro hk hR))))
 have HCL := Lib.hid hcl
 clear hb hwb hne hk hn hcl
 have e1 : decide ((k : Int) < 0) = false := by rw [decide_eq_false_iff_not]; omega
 have e2 : decide ((n : Int) < (k : Int)) = false := by rw [decide_eq_false_iff_not]; omega
 have kc : k ≤ c := Nat.le_trans hkl hc
 go_enter Tryz.func94, Tryz.ntmps94
 rcases Nat.lt_or_ge k n with hlt | hge
 ·obtain ⟨g, off, rfl, _, _, _⟩ := hR.byte (i := k) (by rw [← HN.out]; exact hlt)
  have hcc : ¬ c = k := by omega
  have hc0 : ¬ c = 0 := by omega
  clear hR
  go_wp2_with fail
  have hc0 := HCL.out
  with_reducible refine hc0.mono ?_
  rintro e w1 ⟨v, rfl, ho, hk1, hf⟩
  obtain ⟨_, a1, c1, rfl, _⟩ := id ho
  have H2 := Lib.hid (And.intro ho (And.intro hf hk1))
  have c0b := (hk1.cell (p := ⟨b, 0, none⟩) hbl (fun x => x)).trans c0
  have f0b := (hk1.frozen (p := ⟨b, 0, none⟩) hbl (fun x => x)).trans f0
  have hblb := hk1.lt hbl
  have HO2 := Lib.hid (fun (u : Value) => (show OwP w (l.take k) (.returned (.slice a1 k c1)) (w1.setCell ⟨b, 0, none⟩ u) from by
   have hlk : (l.take k).length = k := by rw [List.length_take, ← HN.out]; exact Nat.min_eq_left hkl
   refine ⟨a1, c1, by rw [hlk], ?_, ?_, (HB.out.2.2.2.1.trans_same H2.out.2.2).setCell (.inr HB.out.2.1) _⟩
   ·rw [hlk]
    exact own_set H2.out.1 fun q hq hqb => absurd (H2.out.2.1 q hq) (by rw [hqb]; omega)
   ·rw [hlk]
    exact fun q hq => Nat.le_trans HB.out.2.2.2.1.size (H2.out.2.1 q hq)))
  clear ho hf hk1 hc0 c0 f0
  go_wp2_with fail
  go_ret
  refine ⟨HO2.out _, ?_⟩
  have := rep_cut (w := w) (H2.out.2.2.get HB.out.1 (fun x => x)) ((HB.out.2.2.2.2.keep H2.out.2.2 fun _ _ x => x).mono H2.out.2.2.size (Nat.le_refl _)) (by rw [← HN.out]; exact hc) HB.out.2.1 HB.out.2.2.1 (HB.out.2.2.2.1.trans_same H2.out.2.2) k (some ⟨g, off + k, none⟩) (c - k) (.inl rfl) rfl
  rw [← HN.out] at this
  exact this
 ·obtain rfl : k = n := by omega
  have hd : l.drop k = [] := List.drop_of_length_le (by rw [← HN.out]; exact Nat.le_refl _)
  rw [hd]
  clear hd hR
  rcases a with _ | a
  ·skip
   go_wp2_with fail
   have hc0 := HCL.out
   with_reducible refine hc0.mono ?_
   rintro e w1 ⟨v, rfl, ho, hk1, hf⟩
   obtain ⟨_, a1, c1, rfl, _⟩ := id ho
   have H2 := Lib.hid (And.intro ho (And.intro hf hk1))
   have c0b := (hk1.cell (p := ⟨b, 0, none⟩) hbl (fun x => x)).trans c0
   have f0b := (hk1.frozen (p := ⟨b, 0, none⟩) hbl (fun x => x)).trans f0
   have hblb := hk1.lt hbl
   have HO2 := Lib.hid (fun (u : Value) => (show OwP w (l.take k) (.returned (.slice a1 k c1)) (w1.setCell ⟨b, 0, none⟩ u) from by
    have hlk : (l.take k).length = k := by rw [List.length_take, ← HN.out]; exact Nat.min_eq_left hkl
    refine ⟨a1, c1, by rw [hlk], ?_, ?_, (HB.out.2.2.2.1.trans_same H2.out.2.2).setCell (.inr HB.out.2.1) _⟩
    ·rw [hlk]
     exact own_set H2.out.1 fun q hq hqb => absurd (H2.out.2.1 q hq) (by rw [hqb]; omega)
    ·rw [hlk]
     exact fun q hq => Nat.le_trans HB.out.2.2.2.1.size (H2.out.2.1 q hq)))
   clear ho hf hk1 hc0 c0 f0
   go_wp2_with fail
   go_ret
   exact ⟨HO2.out _, rep_end (H2.out.2.2.get HB.out.1 (fun x => x)) HB.out.2.1 (HB.out.2.2.2.1.trans_same H2.out.2.2) _ _⟩
  ·by_cases hcc : c = k
   ·obtain rfl : k = c := hcc.symm
    go_wp2_with fail
    have hc0 := HCL.out
    with_reducible refine hc0.mono ?_
    rintro e w1 ⟨v, rfl, ho, hk1, hf⟩
    obtain ⟨_, a1, c1, rfl, _⟩ := id ho
    have H2 := Lib.hid (And.intro ho (And.intro hf hk1))
    have c0b := (hk1.cell (p := ⟨b, 0, none⟩) hbl (fun x => x)).trans c0
    have f0b := (hk1.frozen (p := ⟨b, 0, none⟩) hbl (fun x => x)).trans f0
    have hblb := hk1.lt hbl
    have HO2 := Lib.hid (fun (u : Value) => (show OwP w (l.take k) (.returned (.slice a1 k c1)) (w1.setCell ⟨b, 0, none⟩ u) from by
     have hlk : (l.take k).length = k := by rw [List.length_take, ← HN.out]; exact Nat.min_eq_left hkl
     refine ⟨a1, c1, by rw [hlk], ?_, ?_, (HB.out.2.2.2.1.trans_same H2.out.2.2).setCell (.inr HB.out.2.1) _⟩
     ·rw [hlk]
      exact own_set H2.out.1 fun q hq hqb => absurd (H2.out.2.1 q hq) (by rw [hqb]; omega)
     ·rw [hlk]
      exact fun q hq => Nat.le_trans HB.out.2.2.2.1.size (H2.out.2.1 q hq)))
    clear ho hf hk1 hc0 c0 f0
    go_wp2_with fail
    go_ret
    exact ⟨HO2.out _, rep_end (H2.out.2.2.get HB.out.1 (fun x => x)) HB.out.2.1 (HB.out.2.2.2.1.trans_same H2.out.2.2) _ _⟩
   ·skip
    go_wp2_with fail
    have hc0 := HCL.out
    with_reducible refine hc0.mono ?_
    rintro e w1 ⟨v, rfl, ho, hk1, hf⟩
    obtain ⟨_, a1, c1, rfl, _⟩ := id ho
    have H2 := Lib.hid (And.intro ho (And.intro hf hk1))
    have c0b := (hk1.cell (p := ⟨b, 0, none⟩) hbl (fun x => x)).trans c0
    have f0b := (hk1.frozen (p := ⟨b, 0, none⟩) hbl (fun x => x)).trans f0
    have hblb := hk1.lt hbl
    have HO2 := Lib.hid (fun (u : Value) => (show OwP w (l.take k) (.returned (.slice a1 k c1)) (w1.setCell ⟨b, 0, none⟩ u) from by
     have hlk : (l.take k).length = k := by rw [List.length_take, ← HN.out]; exact Nat.min_eq_left hkl
     refine ⟨a1, c1, by rw [hlk], ?_, ?_, (HB.out.2.2.2.1.trans_same H2.out.2.2).setCell (.inr HB.out.2.1) _⟩
     ·rw [hlk]
      exact own_set H2.out.1 fun q hq hqb => absurd (H2.out.2.1 q hq) (by rw [hqb]; omega)
     ·rw [hlk]
      exact fun q hq => Nat.le_trans HB.out.2.2.2.1.size (H2.out.2.1 q hq)))
    clear ho hf hk1 hc0 c0 f0
    go_wp2_with fail
    go_ret
    exact ⟨HO2.out _, rep_end (H2.out.2.2.get HB.out.1 (fun x => x)) HB.out.2.1 (HB.out.2.2.2.1.trans_same H2.out.2.2) _ _⟩
end Go.Proofs.YtdibkdgafidjgaaGreatDoor

