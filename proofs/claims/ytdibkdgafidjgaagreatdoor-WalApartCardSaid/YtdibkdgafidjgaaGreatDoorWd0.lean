/-
  Texts laid together: WTwiceP, WCarry.
-/
import Derived.Test.YtdibkdgafidjgaaGreatDoorWc1
import Derived.Test.YtdibkdgafidjgaaGreatDoorWc2
import Derived.Test.YtdibkdgafidjgaaGreatDoorWa3
namespace Go.Proofs.YtdibkdgafidjgaaGreatDoor
open Go.RowKit Go.Mer
theorem take_data {l l' : Files} {P : ByteArray} {st : LSt} {x : ByteArray} (h : (rdS l' x).1 = (rdS l x).1) : takeS l' P st x = takeS l P st x := by unfold takeS; rw [h]
theorem scan_data {l l' : Files} {P : ByteArray} : ∀ (N : List ByteArray) (st : LSt), (∀ y ∈ N, (rdS l' y).1 = (rdS l y).1) → scanS l' P st N = scanS l P st N
 | [], _, _ => rfl
 | x :: N, st, h => by rw [scanS, scanS, take_data (h x (List.mem_cons_self ..)), scan_data N _ (fun y hy => h y (List.mem_cons_of_mem _ hy))]
theorem scan_split {l : Files} {P : ByteArray} : ∀ (N : List ByteArray) (st : LSt), (scanS l P st N).2 = [] ∨ ∃ N1 x r stm, N = N1 ++ x :: r ∧ scanS l P st N1 = (stm, []) ∧ (takeS l P stm x).2 = false ∧ scanS l P st N = ((takeS l P stm x).1, x :: r)
 | [], _ => .inl rfl
 | x :: N, st => by
  rw [scanS]
  by_cases ht : (takeS l P st x).2 = true
  ·rw [if_pos ht]
   rcases scan_split N (takeS l P st x).1 with h | ⟨N1, y, r, stm, h1, h2, h3, h4⟩
   ·exact .inl h
   ·refine .inr ⟨x :: N1, y, r, stm, by rw [h1]; rfl, ?_, h3, h4⟩
    rw [scanS, if_pos ht]
    exact h2
  ·rw [if_neg ht]
   exact .inr ⟨[], x, N, st, rfl, rfl, by simpa using ht, rfl⟩
theorem entsF_take : ∀ (m : Nat) (b : List UInt8) (k : Nat), b.length ≤ m → entsF k (b.take (entsF k b).2) = entsF k b := by
 intro m
 induction m with
 | zero =>
  intro b k h
  obtain rfl : b = [] := List.eq_nil_of_length_eq_zero (by omega)
  simp
 | succ m ih =>
  intro b k h
  cases hd : deF b with
  | none => rw [entsF_none k hd, List.take_zero, entsF_none k deF_nil]
  | some x =>
   obtain ⟨p, n⟩ := x
   obtain ⟨h1, h2, h3, r, h4⟩ := deF_some hd
   by_cases hq : ∃ q, numD 0 0 p = some (k, q)
   ·obtain ⟨q, hq⟩ := hq
    rw [entsF_more hd hq]
    have e := ih (b.drop n) (k + 1) (by rw [List.length_drop]; omega)
    obtain ⟨g, hg⟩ : ∃ g, g = (entsF (k + 1) (b.drop n)).2 := ⟨_, rfl⟩
    rw [← hg] at e
    show entsF k (b.take (n + (entsF (k + 1) (b.drop n)).2)) = _
    rw [← hg]
    have hfl : (frameL p).length = n := by rw [frameL_length]; omega
    have ht : b.take (n + g) = frameL p ++ r.take g := by
     rw [h4, List.take_append, hfl, List.take_of_length_le (by omega), Nat.add_sub_cancel_left]
    have hd' : deF (b.take (n + g)) = some (p, n) := by rw [ht, deF_frame p _ h3, h1]
    have hdr : (b.take (n + g)).drop n = (b.drop n).take g := by rw [List.drop_take, Nat.add_sub_cancel_left]
    rw [entsF_more hd' hq, hdr, e, hg]
   ·have hq' : ∀ q, numD 0 0 p ≠ some (k, q) := fun q h => hq ⟨q, h⟩
    rw [entsF_bad hd hq', List.take_zero, entsF_none k deF_nil]
theorem nm_pair {l : Files} (h : (l.map (·.1)).Nodup) : (nmS l).Pairwise NLt := by
 have h1 := List.pairwise_mergeSort (le := fun x y : List UInt8 => decide (x ≤ y)) (fun a b c h1 h2 => decide_eq_true (List.le_trans (of_decide_eq_true h1) (of_decide_eq_true h2))) (fun a b => by
  rcases List.le_total a b with h | h <;> simp [h]) (l.map (·.1.data.toList))
 have h2 : (nmS l).Pairwise fun x y => x.data.toList ≤ y.data.toList := by
  unfold nmS namesOf
  rw [List.pairwise_map]
  exact h1.imp fun h => of_decide_eq_true h
 have h3 := List.Pairwise.and h2 (nm_nodup h)
 refine h3.imp fun {a b} hab => ?_
 rcases nlt_tri a b with h | h | h
 ·exact h
 ·exact absurd h hab.2
 ·exfalso
  have h4 : b.data.toList < a.data.toList := h
  exact (List.not_lt.2 hab.1) h4
theorem nm_filter {l l' : Files} (h : (l.map (·.1)).Nodup) (h' : (l'.map (·.1)).Nodup) (hs : ∀ y ∈ l'.map (·.1), y ∈ l.map (·.1)) : nmS l' = (nmS l).filter fun y => decide (y ∈ l'.map (·.1)) := by
 refine List.Perm.eq_of_pairwise (le := NLt) (fun a b _ _ h1 h2 => absurd (nlt_trans h1 h2) (nlt_irr a)) (nm_pair h') ((nm_pair h).filter _) ?_
 refine (List.perm_ext_iff_of_nodup (nm_nodup h') ((nm_nodup h).filter _)).2 fun y => ?_
 rw [List.mem_filter, nm_mem, nm_mem, decide_eq_true_iff]
 exact ⟨fun hy => ⟨hs y hy, hy⟩, fun hy => hy.2⟩
theorem five_keep (s : DSt) (ns : List ByteArray) (c : Int) (fs : Files) : (five s ns c fs).2.files = s.files ∨ ((five s ns c fs).1 = 0 ∧ (five s ns c fs).2.files = fs) := by
 by_cases h : (five s ns c fs).1 = 0
 ·obtain ⟨_, _, h3⟩ := five_yes h
  exact .inr ⟨h, by rw [h3]⟩
 ·rw [five_no h]; exact .inl rfl
def FullF (l : Files) : Prop := ∀ p ∈ l, p.2.lasts = p.2.data.length
structure Eff (l l' : Files) : Prop where
 nd : (l.map (·.1)).Nodup → (l'.map (·.1)).Nodup
 full : FullF l → FullF l'
 sub : ∀ y ∈ l'.map (·.1), y ∈ l.map (·.1)
theorem Eff.refl (l : Files) : Eff l l := ⟨id, id, fun _ h => h⟩
theorem Eff.trans {l m n : Files} (h : Eff l m) (h' : Eff m n) : Eff l n := ⟨fun x => h'.nd (h.nd x), fun x => h'.full (h.full x), fun y hy => h.sub y (h'.sub y hy)⟩
theorem eff_del (l : Files) (x : ByteArray) : Eff l (gdel l x) := by
 refine ⟨fun h => gdel_keys x h, fun h p hp => h p (List.mem_filter.1 hp).1, fun y hy => ?_⟩
 obtain ⟨p, hp, rfl⟩ := List.mem_map.1 hy
 exact List.mem_map.2 ⟨p, (List.mem_filter.1 hp).1, rfl⟩
theorem eff_set {l : Files} {x : ByteArray} {c : FileS} (v : FileS) (hc : gget l x = some c) (hv : v.lasts = v.data.length) : Eff l (gset l x v) := by
 refine ⟨fun h => gset_nodup h, fun h p hp => ?_, fun y hy => ?_⟩
 ·unfold gset at hp
  split at hp
  ·obtain ⟨q, hq, rfl⟩ := List.mem_map.1 hp
   split
   ·exact hv
   ·exact h q hq
  ·rcases List.mem_append.1 hp with hp | hp
   ·exact h p hp
   ·obtain rfl := List.mem_singleton.1 hp
    exact hv
 ·obtain ⟨p, hp, rfl⟩ := List.mem_map.1 hy
  rcases gset_mem_key hp with e | ⟨q, hq, e⟩
  ·rw [e]; exact List.mem_map.2 ⟨_, gget_mem hc, rfl⟩
  ·exact List.mem_map.2 ⟨q, hq, e⟩
theorem rm_eff (s : DSt) (x : ByteArray) : Eff s.files (rmS s x).2.files ∧ ((∀ y, gget (rmS s x).2.files y = gget s.files y) ∨ ((rmS s x).1 = 0 ∧ ∀ y, gget (rmS s x).2.files y = if y = x then none else gget s.files y)) := by
 unfold rmS
 rcases five_keep s [x] (rmCode s x) (gdel s.files x) with h | ⟨h1, h⟩
 ·rw [h]; exact ⟨Eff.refl _, .inl fun _ => rfl⟩
 ·rw [h]; exact ⟨eff_del _ _, .inr ⟨h1, fun y => gget_gdel _ _ _⟩⟩
theorem rm_zero {s : DSt} {x : ByteArray} (h : (rmS s x).1 = 0) : ∀ y, gget (rmS s x).2.files y = if y = x then none else gget s.files y := by
 obtain ⟨_, _, h3⟩ := five_yes h
 intro y
 unfold rmS
 rw [h3]
 exact gget_gdel _ _ _
theorem rmAll_eff : ∀ (R : List ByteArray) (s : DSt), Eff s.files (rmAll s R).2.files ∧ (∀ y, y ∉ R → gget (rmAll s R).2.files y = gget s.files y) ∧ ((rmAll s R).1 = 0 → ∀ y ∈ R, gget (rmAll s R).2.files y = none) ∧ ∀ y, gget (rmAll s R).2.files y = none ∨ gget (rmAll s R).2.files y = gget s.files y
 | [], s => ⟨Eff.refl _, fun _ _ => rfl, fun _ _ h => (by cases h), fun _ => .inr rfl⟩
 | x :: R, s => by
  rw [rmAll]
  obtain ⟨h1, h2⟩ := rm_eff s x
  split
  ·next h0 =>
   have h2 := rm_zero h0
   obtain ⟨k1, k2, k3, k4⟩ := rmAll_eff R (rmS s x).2
   refine ⟨h1.trans k1, fun y hy => ?_, fun hz y hy => ?_, fun y => ?_⟩
   ·rw [k2 y fun h => hy (List.mem_cons_of_mem _ h), h2, if_neg fun e : y = x => hy (e ▸ List.mem_cons_self ..)]
   ·by_cases hR : y ∈ R
    ·exact k3 hz y hR
    ·rw [k2 y hR, h2, if_pos ((List.mem_cons.1 hy).resolve_right hR)]
   ·rcases k4 y with h | h
    ·exact .inl h
    ·rw [h, h2]
     split
     ·exact .inl rfl
     ·exact .inr rfl
  ·next h0 =>
   have hsame : ∀ y, gget (rmS s x).2.files y = gget s.files y := fun y => by rw [show (rmS s x).2 = s from five_no h0]
   exact ⟨h1, fun y _ => hsame y, fun hz => absurd hz h0, fun y => .inr (hsame y)⟩
theorem sy_eff (s : DSt) (x : ByteArray) : Eff s.files (syS s x).2.files ∧ ∀ y, (gget (syS s x).2.files y).map (·.data) = (gget s.files y).map (·.data) := by
 unfold syS
 rcases five_keep s [x] (syCode s x) (syFiles s.files x) with h | ⟨_, h⟩
 ·rw [h]; exact ⟨Eff.refl _, fun _ => rfl⟩
 ·rw [h]
  unfold syFiles
  cases hg : gget s.files x with
  | none => exact ⟨Eff.refl _, fun _ => rfl⟩
  | some c =>
   refine ⟨eff_set _ hg rfl, fun y => ?_⟩
   simp only
   rw [gget_is]
   split
   ·next e => rw [e, hg]; rfl
   ·rfl
theorem syAll_eff : ∀ (R : List ByteArray) (s : DSt), Eff s.files (syAll s R).2.files ∧ ∀ y, (gget (syAll s R).2.files y).map (·.data) = (gget s.files y).map (·.data)
 | [], s => ⟨Eff.refl _, fun _ => rfl⟩
 | x :: R, s => by
  rw [syAll]
  obtain ⟨h1, h2⟩ := sy_eff s x
  split
  ·obtain ⟨k1, k2⟩ := syAll_eff R (syS s x).2
   exact ⟨h1.trans k1, fun y => (k2 y).trans (h2 y)⟩
  ·exact ⟨h1, h2⟩
theorem cu_eff {s : DSt} (x : ByteArray) (n : Nat) (hf : FullF s.files) : Eff s.files (cuS s x (n : Int)).2.files ∧ ((∀ y, gget (cuS s x (n : Int)).2.files y = gget s.files y) ∨ ∃ c, gget s.files x = some c ∧ ∀ y, gget (cuS s x (n : Int)).2.files y = if y = x then some ⟨c.data.take n, min c.lasts n⟩ else gget s.files y) := by
 by_cases h0 : (cuS s x (n : Int)).1 = 0
 ·obtain ⟨h1, _, h3⟩ := five_yes h0
  have e : (cuS s x (n : Int)).2.files = cuFiles s.files x (n : Int) := by unfold cuS; rw [h3]
  rw [e]
  unfold cuFiles
  cases hg : gget s.files x with
  | none => exact ⟨Eff.refl _, .inl fun _ => rfl⟩
  | some c =>
   simp only [Int.toNat_natCast]
   refine ⟨eff_set _ hg ?_, .inr ⟨c, rfl, fun y => gget_is _ _ _⟩⟩
   have := hf _ (gget_mem hg)
   simp only at this ⊢
   rw [this, List.length_take]
   omega
 ·rw [show (cuS s x (n : Int)).2 = s from five_no h0]
  exact ⟨Eff.refl _, .inl fun _ => rfl⟩
theorem crS_full {s : DSt} (h : FullF s.files) (keep : Int) : (crS s keep 0).files = s.files := by
 show s.files.map (fun p => (p.1, crF keep 0 p.2)) = s.files
 conv => rhs; rw [← List.map_id s.files]
 refine List.map_congr_left fun p hp => ?_
 have hl := h p hp
 obtain ⟨x, d, la⟩ := p
 simp only at hl
 subst hl
 have hs : stays keep ⟨d, d.length⟩ = d.length := by
  unfold stays
  simp only [Nat.sub_self, Nat.zero_add, Nat.mod_one, Nat.add_zero]
 simp only [id_eq, crF, hs, List.take_length, Prod.mk.injEq, FileS.mk.injEq, and_true, true_and]
 unfold torn
 refine List.ext_getElem? fun i => ?_
 rw [List.getElem?_mapIdx]
 have : ¬ (max d.length ((d.length - 1) / 16 * 16) ≤ i ∧ i < d.length) := by omega
 simp only [if_neg this]
 simp
theorem key_get {l : Files} {y : ByteArray} : y ∈ l.map (·.1) ↔ (gget l y).isSome = true := by
 cases h : gget l y with
 | none => simp [gget_none_iff.1 h]
 | some c => simp only [Option.isSome_some, iff_true]; exact List.mem_map.2 ⟨_, gget_mem h, rfl⟩
theorem rd_map {l l' : Files} {y : ByteArray} (h : (gget l' y).map (·.data) = (gget l y).map (·.data)) : (rdS l' y).1 = (rdS l y).1 := by
 unfold rdS
 cases h1 : gget l' y with
 | none =>
  cases h2 : gget l y with
  | none => rfl
  | some c => rw [h1, h2] at h; cases h
 | some d =>
  cases h2 : gget l y with
  | none => rw [h1, h2] at h; cases h
  | some c =>
   rw [h1, h2] at h
   injection h
theorem some_map {l l' : Files} {y : ByteArray} (h : (gget l' y).map (·.data) = (gget l y).map (·.data)) : (gget l' y).isSome = (gget l y).isSome := by
 cases h1 : gget l' y <;> cases h2 : gget l y <;> rw [h1, h2] at h <;> first | rfl | cases h
theorem open_again {P : ByteArray} {s : DSt} (hn : (s.files.map (·.1)).Nodup) (hf : FullF s.files) :
  let l' := (openS P s (nmS s.files)).2.1.files
  Eff s.files l' ∧ (scanS l' P st0 ((nmS l').filter (isSegN P))).1.ents = (scanS s.files P st0 ((nmS s.files).filter (isSegN P))).1.ents := by
 intro l'
 obtain ⟨M, hM⟩ : ∃ M, M = (nmS s.files).filter (isSegN P) := ⟨_, rfl⟩
 have hMn : M.Nodup := by rw [hM]; exact (nm_nodup hn).filter _
 have hMx : ∀ y ∈ M, (gget s.files y).isSome = true := fun y hy => by
  rw [hM] at hy
  exact key_get.1 (nm_mem.1 (List.mem_filter.1 hy).1)
 have hN : ∀ l'' : Files, Eff s.files l'' → (nmS l'').filter (isSegN P) = M.filter fun y => (gget l'' y).isSome := fun l'' he => by
  rw [nm_filter hn (he.nd hn) he.sub, hM, List.filter_filter, List.filter_filter]
  refine List.filter_congr fun y _ => ?_
  rw [Bool.and_comm]
  congr 1
  rw [Bool.eq_iff_iff, decide_eq_true_iff]
  exact key_get
 have hl' : l' = if (end0 P s (scanS s.files P st0 M).1.segs (scanS s.files P st0 M).2).1 = 0 then (syAll (end0 P s (scanS s.files P st0 M).1.segs (scanS s.files P st0 M).2).2 ((scanS s.files P st0 M).1.segs.map fun x => bnm P x.1)).2.files else (end0 P s (scanS s.files P st0 M).1.segs (scanS s.files P st0 M).2).2.files := by
  show (openS P s (nmS s.files)).2.1.files = _
  unfold openS
  rw [← hM]
  simp only
  split <;> rfl
 obtain ⟨q, hq⟩ : ∃ q, q = end0 P s (scanS s.files P st0 M).1.segs (scanS s.files P st0 M).2 := ⟨_, rfl⟩
 rw [← hq] at hl'
 have hdat : Eff q.2.files l' ∧ ∀ y, (gget l' y).map (·.data) = (gget q.2.files y).map (·.data) := by
  rw [hl']
  split
  ·exact syAll_eff _ _
  ·exact ⟨Eff.refl _, fun _ => rfl⟩
 suffices hk : Eff s.files q.2.files ∧ (scanS q.2.files P st0 (M.filter fun y => (gget q.2.files y).isSome)).1.ents = (scanS s.files P st0 M).1.ents by
  refine ⟨hk.1.trans hdat.1, ?_⟩
  rw [hN l' (hk.1.trans hdat.1), ← hM, ← hk.2]
  have e1 : (fun y => (gget l' y).isSome) = fun y => (gget q.2.files y).isSome := funext fun y => some_map (hdat.2 y)
  rw [e1, scan_data _ _ fun y _ => rd_map (hdat.2 y)]
 rcases scan_split (l := s.files) (P := P) M st0 with h | ⟨N1, x, r, stm, h1, h2, h3, h4⟩
 ·rw [h] at hq
  have hq' : q = (0, s) := hq
  rw [hq']
  refine ⟨Eff.refl _, ?_⟩
  rw [List.filter_eq_self.2 hMx]
 ·rw [h4] at hq ⊢
  have hq' : q = endS P s (takeS s.files P stm x).1.segs x r := hq
  rw [h1] at hMn hMx ⊢
  obtain ⟨hn1, hn2, hn3⟩ := List.nodup_append.1 hMn
  obtain ⟨hxr, hnr⟩ := List.nodup_cons.1 hn2
  have hx1 : x ∉ N1 := fun hx => hn3 x hx x (List.mem_cons_self ..) rfl
  have hr1 : ∀ y ∈ N1, y ∉ r := fun y hy hy' => hn3 y hy y (List.mem_cons_of_mem _ hy') rfl
  obtain ⟨k1, k2, k3, k4⟩ := rmAll_eff r.reverse s
  obtain ⟨s1, hs1⟩ : ∃ s1, s1 = (rmAll s r.reverse).2 := ⟨_, rfl⟩
  rw [← hs1] at k1 k2 k3 k4
  have k2' : ∀ y, y ∉ r → gget s1.files y = gget s.files y := fun y hy => k2 y (by simpa using hy)
  have hsame : ∀ l'' : Files, (∀ y, y ∉ r → gget l'' y = gget s.files y) → (scanS l'' P st0 ((N1 ++ x :: r).filter fun y => (gget l'' y).isSome)).1.ents = (takeS s.files P stm x).1.ents := fun l'' hl => by
   have e1 : N1.filter (fun y => (gget l'' y).isSome) = N1 := List.filter_eq_self.2 fun y hy => by
    rw [hl y (hr1 y hy)]
    exact hMx y (List.mem_append_left _ hy)
   have hrd : ∀ y, y ∉ r → (rdS l'' y).1 = (rdS s.files y).1 := fun y hy => by unfold rdS; rw [hl y hy]
   have e2 : scanS l'' P st0 N1 = (stm, []) := by rw [scan_data N1 st0 fun y hy => hrd y (hr1 y hy)]; exact h2
   have e3 : takeS l'' P stm x = takeS s.files P stm x := take_data (hrd x hxr)
   rw [List.filter_append, e1, List.filter_cons, if_pos (by rw [hl x hxr]; exact hMx x (by simp)), scan_stop e2 (by rw [e3]; exact h3), e3]
  rw [hq']
  unfold endS
  rw [← hs1]
  by_cases h0 : (rmAll s r.reverse).1 = 0
  ·rw [if_pos h0]
   have k3' : ∀ y ∈ r, gget s1.files y = none := fun y hy => k3 h0 y (by simpa using hy)
   have hgone : ∀ l'' : Files, (∀ y, gget l'' y = if y = x then none else gget s1.files y) → (takeS s.files P stm x).1.ents = stm.ents → (scanS l'' P st0 ((N1 ++ x :: r).filter fun y => (gget l'' y).isSome)).1.ents = (takeS s.files P stm x).1.ents := fun l'' hl he => by
    have hl1 : ∀ y ∈ N1, gget l'' y = gget s.files y := fun y hy => by rw [hl, if_neg (fun e : y = x => hx1 (e ▸ hy)), k2' y (hr1 y hy)]
    have e1 : N1.filter (fun y => (gget l'' y).isSome) = N1 := List.filter_eq_self.2 fun y hy => by
     rw [hl1 y hy]
     exact hMx y (List.mem_append_left _ hy)
    have e2 : (x :: r).filter (fun y => (gget l'' y).isSome) = [] := List.filter_eq_nil_iff.2 fun y hy => by
     rw [hl]
     rcases List.mem_cons.1 hy with e | e
     ·rw [if_pos e]; simp
     ·rw [k3' y e]; simp
    have e3 : scanS l'' P st0 N1 = (stm, []) := by
     rw [scan_data (l := s.files) (l' := l'') N1 st0 fun y hy => by unfold rdS; rw [hl1 y hy]]
     exact h2
    rw [List.filter_append, e1, e2, List.append_nil, e3, he]
   have hrm : (takeS s.files P stm x).1.ents = stm.ents → Eff s.files (rmS s1 x).2.files ∧ (scanS (rmS s1 x).2.files P st0 ((N1 ++ x :: r).filter fun y => (gget (rmS s1 x).2.files y).isSome)).1.ents = (takeS s.files P stm x).1.ents := fun he => by
    obtain ⟨j1, j2⟩ := rm_eff s1 x
    refine ⟨k1.trans j1, ?_⟩
    rcases j2 with j2 | ⟨_, j2⟩
    ·exact hsame _ fun y hy => by rw [j2, k2' y hy]
    ·exact hgone _ j2 he
   have hseg : ∀ z ∈ stm.segs, bnm P z.1 ∈ N1 := fun z hz => by
    have := scan_names s.files P N1 st0 z (by rw [h2]; exact hz)
    rcases this with h | h
    ·cases h
    ·exact h
   unfold takeS at h3
   by_cases hy : x = bnm P (stm.ents.length + 1)
   ·rw [if_pos hy] at h3
    simp only [decide_eq_false_iff_not] at h3
    obtain ⟨g, hg⟩ : ∃ g, g = (entsF (stm.ents.length + 1) (rdS s.files x).1).2 := ⟨_, rfl⟩
    rw [← hg] at h3
    have htk : takeS s.files P stm x = ({ stm with ents := stm.ents ++ (entsF (stm.ents.length + 1) (rdS s.files x).1).1, segs := if 0 < g ∨ (rdS s.files x).1.length = 0 then stm.segs ++ [(stm.ents.length + 1, g)] else stm.segs }, decide (g = (rdS s.files x).1.length)) := by
     unfold takeS
     rw [if_pos hy, ← hg]
    by_cases hg0 : g = 0
    ·have hno : (takeS s.files P stm x).1.segs = stm.segs := by
      rw [htk]
      simp only
      rw [if_neg (by omega)]
     have he : (takeS s.files P stm x).1.ents = stm.ents := by
      rw [htk]
      simp only
      rw [entsF_zero (by omega), List.append_nil]
     rw [hno, end_gone fun z hz (e : bnm P z.1 = x) => hx1 (e ▸ hseg z hz)]
     exact hrm he
    ·have hyes : (takeS s.files P stm x).1.segs = stm.segs ++ [(stm.ents.length + 1, g)] := by
      rw [htk]
      simp only
      rw [if_pos (.inl (Nat.pos_of_ne_zero hg0))]
     rw [hyes]
     have hec : endOne P s1 (stm.segs ++ [(stm.ents.length + 1, g)]) x = cuS s1 x (g : Int) := by
      rw [hy]
      exact end_cut
     rw [hec]
     obtain ⟨j1, j2⟩ := cu_eff x g (k1.full hf)
     refine ⟨k1.trans j1, ?_⟩
     rcases j2 with j2 | ⟨c, hc, j2⟩
     ·exact hsame _ fun y hy => by rw [j2, k2' y hy]
     ·obtain ⟨l'', hl''⟩ : ∃ l'', l'' = (cuS s1 x (g : Int)).2.files := ⟨_, rfl⟩
      rw [← hl''] at j2 ⊢
      have hl1 : ∀ y ∈ N1, gget l'' y = gget s.files y := fun y hy => by rw [j2, if_neg (fun e : y = x => hx1 (e ▸ hy)), k2' y (hr1 y hy)]
      have e1 : N1.filter (fun y => (gget l'' y).isSome) = N1 := List.filter_eq_self.2 fun y hy => by
       rw [hl1 y hy]
       exact hMx y (List.mem_append_left _ hy)
      have e2 : r.filter (fun y => (gget l'' y).isSome) = [] := List.filter_eq_nil_iff.2 fun y hy => by
       rw [j2, if_neg (fun e : y = x => hxr (e ▸ hy)), k3' y hy]
       simp
      have e3 : scanS l'' P st0 N1 = (stm, []) := by
       rw [scan_data (l := s.files) (l' := l'') N1 st0 fun y hy => by unfold rdS; rw [hl1 y hy]]
       exact h2
      have hcx : (rdS s.files x).1 = c.data := rd_get (by rw [← k2' x hxr]; exact hc)
      have hrx : (rdS l'' x).1 = (rdS s.files x).1.take g := by
       rw [hcx]
       exact rd_get (by rw [j2, if_pos rfl])
      have hle := entsF_le (rdS s.files x).1 (stm.ents.length + 1)
      have het := entsF_take _ (rdS s.files x).1 (stm.ents.length + 1) (Nat.le_refl _)
      rw [← hg] at hle het
      have e4 : (takeS l'' P stm x).2 = true ∧ (takeS l'' P stm x).1.ents = (takeS s.files P stm x).1.ents := by
       rw [htk]
       unfold takeS
       rw [if_pos hy, hrx, het]
       refine ⟨?_, rfl⟩
       simp only [decide_eq_true_eq, List.length_take, ← hg]
       omega
      rw [List.filter_append, e1, List.filter_cons, if_pos (by rw [j2, if_pos rfl]; rfl), e2, scan_step e3 e4.1]
      exact e4.2
   ·have htk : takeS s.files P stm x = (stm, false) := by
     unfold takeS
     rw [if_neg hy]
    rw [htk]
    rw [htk] at hrm
    show Eff s.files (endOne P s1 stm.segs x).2.files ∧ _
    rw [end_gone fun z hz (e : bnm P z.1 = x) => hx1 (e ▸ hseg z hz)]
    exact hrm rfl
  ·rw [if_neg h0]
   have e : rmAll s r.reverse = ((rmAll s r.reverse).1, s1) := by rw [hs1]
   rw [e]
   refine ⟨k1, ?_⟩
   have e1 : N1.filter (fun y => (gget s1.files y).isSome) = N1 := List.filter_eq_self.2 fun y hy => by
    rw [k2' y (hr1 y hy)]
    exact hMx y (List.mem_append_left _ hy)
   exact hsame _ k2'
theorem open_twice {P : ByteArray} {s : DSt} (h : Free s) (hf : FullF s.files) (k : Int) (again : Int) :
  (openS P (crS (openS P (fuS s k) (nmS s.files)).2.1 again 0) (nmS (crS (openS P (fuS s k) (nmS s.files)).2.1 again 0).files)).2.2.ents = (openS P s (nmS s.files)).2.2.ents := by
 obtain ⟨s2, hs2⟩ : ∃ s2, s2 = (openS P (fuS s k) (nmS s.files)).2.1 := ⟨_, rfl⟩
 have hoa := open_again (P := P) (s := fuS s k) h.nodup hf
 have hfs : (fuS s k).files = s.files := rfl
 rw [hfs] at hoa
 rw [← hs2] at hoa ⊢
 obtain ⟨he, hsc⟩ := hoa
 have hcf := crS_full (he.full hf) again
 obtain ⟨s', st', h1, h2⟩ := open_free P h
 have hfr : Free (crS s2 again 0) := ⟨rfl, by rw [hcf]; exact he.nd h.nodup, by
  rw [hcf]
  intro p hp
  obtain ⟨q, hq, e⟩ := List.mem_map.1 (he.sub p.1 (List.mem_map.2 ⟨p, hp, rfl⟩))
  rw [← e]
  exact h.ok q hq⟩
 obtain ⟨s4, st4, h3, h4⟩ := open_free P hfr
 rw [h3, h1]
 show st4.ents = st'.ents
 rw [h4.scan.1, h2.scan.1, hcf, hsc]
end Go.Proofs.YtdibkdgafidjgaaGreatDoor
namespace Go.Proofs.YtdibkdgafidjgaaGreatDoor
open Go.RowKit Go.Mer
theorem DiskAt.own {w : World} {d : Nat} {s : DSt} {F : Nat → Prop} (h : DiskAt w d s F) : F d := by
 obtain ⟨_, _, _, _, _, _, _, h, _⟩ := h
 exact h d (.inl rfl)
section
variable {w W W' : World} {p d r l x : Nat} {P : ByteArray} {s1 s2 s' : DSt} {st1 st2 st' : LSt} {Z : Nat → Prop}
theorem PL.diskZ (h : PL w W p d r l x P s1 st1 s2 st2 Z) : ∃ F, DiskAt W d s1 F ∧ (∀ k, F k → w.heap.size ≤ k ∧ Z k) ∧ ¬ F p ∧
  ∀ W' s' F', DiskAt W' d s' F' → Foot F F' W → Kp F W W' → ∃ Z', PL w W' p d r l x P s' st1 s2 st2 Z' ∧ Foot Z Z' W ∧ Kp Z W W' := by
 obtain ⟨F, G, H, K, h1, h2, h3, h4, rfl⟩ := h
 refine ⟨F, h2.disk, fun k hk => ⟨h4.an k (.inl hk), .inr (.inl (.inl hk))⟩, fun hp => h4.pa (.inl hp), fun W' s' F' k1 k2 k3 => ?_⟩
 have h2' := h2.turnD k1 k2 k3
 have k3' : Kp (Both F G) W W' := k3.mono fun _ _ x => .inl x
 obtain ⟨t1, t2, t3⟩ := h4.left (A' := Both F' G) (fun k hk => hk.elim (fun y => (k2 k y).imp .inl id) fun y => .inl (.inr y)) k3' (fun k hk => hk.elim (h2'.disk.lt k) (h2'.log.lt k))
 exact ⟨_, ⟨F', G, H, K, k3'.get h1 h4.pa, h2', ⟨h3.disk.keep k3' fun k hk hf => h4.dis k hf (.inl hk), h3.log.keep k3' fun k hk hf => h4.dis k hf (.inr hk), h3.sep⟩, t1, rfl⟩, t2, t3⟩
theorem PL.rdiskZ (h : PL w W p d r l x P s1 st1 s2 st2 Z) : ∃ H, RAt W r s2 H ∧ (∀ k, H k → w.heap.size ≤ k ∧ Z k) ∧ ¬ H p ∧
  ∀ W' s' H', RAt W' r s' H' → Foot H H' W → Kp H W W' → ∃ Z', PL w W' p d r l x P s1 st1 s' st2 Z' ∧ Foot Z Z' W ∧ Kp Z W W' := by
 obtain ⟨F, G, H, K, h1, h2, h3, h4, rfl⟩ := h
 refine ⟨H, h3.disk, fun k hk => ⟨h4.bn k (.inl hk), .inr (.inr (.inl hk))⟩, fun hp => h4.pb (.inl hp), fun W' s' H' k1 k2 k3 => ?_⟩
 have h3' := h3.turnD k1 k2 k3
 have k3' : Kp (Both H K) W W' := k3.mono fun _ _ x => .inl x
 obtain ⟨t1, t2, t3⟩ := h4.right (B' := Both H' K) (fun k hk => hk.elim (fun y => (k2 k y).imp .inl id) fun y => .inl (.inr y)) k3' (fun k hk => hk.elim (h3'.disk.lt k) (h3'.log.lt k))
 exact ⟨_, ⟨F, G, H', K, k3'.get h1 h4.pb, ⟨h2.disk.keep k3' fun k hk hf => h4.dis k (.inl hk) hf, h2.log.keep k3' fun k hk hf => h4.dis k (.inr hk) hf, h2.sep⟩, h3', t1, rfl⟩, t2, t3⟩
end
theorem LogAt.apart {W W' : World} {l d : Nat} {P : ByteArray} {st : LSt} {G Z Z' : Nat → Prop} (h : LogAt W l d P st G) (hG : ∀ k, G k → ¬ Z k) (hk : Kp Z W W') (hf : Foot Z Z' W) : LogAt W' l d P st G ∧ ∀ k, G k → ¬ Z' k :=
 ⟨h.keep hk hG, fun k hg hz => (hf k hz).elim (hG k hg) fun h1 => by have := h.lt k hg; omega⟩
section
variable {w W W' : World} {p d r l x : Nat} {P : ByteArray} {s1 s2 s' : DSt} {st1 st2 st' : LSt} {Z : Nat → Prop}
theorem PL.diskX (h : PL w W p d r l x P s1 st1 s2 st2 Z) : ∃ F, DiskAt W d s1 F ∧ (∀ k, F k → w.heap.size ≤ k ∧ Z k) ∧ ¬ F p ∧
  ∀ W' s' F', DiskAt W' d s' F' → Foot F F' W → Kp F W W' → ∃ Z', PL w W' p d r l x P s' st1 s2 st2 Z' ∧ Foot Z Z' W ∧ Kp Z W W' ∧ ∀ k, Z' k → Z k ∨ F' k := by
 obtain ⟨F, G, H, K, h1, h2, h3, h4, rfl⟩ := h
 refine ⟨F, h2.disk, fun k hk => ⟨h4.an k (.inl hk), .inr (.inl (.inl hk))⟩, fun hp => h4.pa (.inl hp), fun W' s' F' k1 k2 k3 => ?_⟩
 have h2' := h2.turnD k1 k2 k3
 have k3' : Kp (Both F G) W W' := k3.mono fun _ _ x => .inl x
 obtain ⟨t1, t2, t3⟩ := h4.left (A' := Both F' G) (fun k hk => hk.elim (fun y => (k2 k y).imp .inl id) fun y => .inl (.inr y)) k3' (fun k hk => hk.elim (h2'.disk.lt k) (h2'.log.lt k))
 refine ⟨_, ⟨F', G, H, K, k3'.get h1 h4.pa, h2', ⟨h3.disk.keep k3' fun k hk hf => h4.dis k hf (.inl hk), h3.log.keep k3' fun k hk hf => h4.dis k hf (.inr hk), h3.sep⟩, t1, rfl⟩, t2, t3, ?_⟩
 rintro k (rfl | (hk | hk) | hk)
 ·exact .inl (.inl rfl)
 ·exact .inr hk
 ·exact .inl (.inr (.inl (.inr hk)))
 ·exact .inl (.inr (.inr hk))
end
theorem DiskAt.le {w : World} {d : Nat} {s : DSt} {F : Nat → Prop} (h : DiskAt w d s F) : ∀ q ∈ s.files, q.2.lasts ≤ q.2.data.length := by
 obtain ⟨m, fused, left, L, hC, hf, hs, hF, hFs⟩ := h
 intro q hq
 rw [hs] at hq
 obtain ⟨c, hc, rfl⟩ := List.mem_map.1 hq
 exact (hC.files c hc).2.2
theorem crS_isFull {s : DSt} (h : ∀ q ∈ s.files, q.2.lasts ≤ q.2.data.length) (keep : Int) (t : UInt8) : FullF (crS s keep t).files := fun q hq => by
 obtain ⟨c, hc, rfl⟩ := List.mem_map.1 hq
 have h1 := h c hc
 have h2 : stays keep c.2 ≤ c.2.data.length := by
  unfold stays
  have := Nat.mod_lt keep.toNat (show 0 < c.2.data.length - c.2.lasts + 1 by omega)
  omega
 show stays keep c.2 = (torn (c.2.data.take (stays keep c.2)) _ _ t).length
 rw [torn_length, List.length_take]
 omega
theorem crS_free {s : DSt} (hok : FilesOk s.files) (hn : (s.files.map (·.1)).Nodup) (keep : Int) (t : UInt8) : Free (crS s keep t) := by
 have hcr := cr_ok hok keep t
 refine ⟨hcr.2.2, ?_, hcr.1⟩
 show ((s.files.map fun p => (p.1, crF keep t p.2)).map (·.1)).Nodup
 rw [List.map_map]
 exact hn
theorem rd_name {W : World} {a : Option Addr} {c m : Nat} {L : List ByteArray} (h : Own W 9 1 (.slice a L.length c) L.length (L.map Value.string)) (hm : m < L.length) : ∃ g off, a = some ⟨g, off, none⟩ ∧ g < W.heap.size ∧ (Value.slice a L.length c).ownBlock = some g ∧ W.cell? ⟨g, off + m, none⟩ = some (.string L[m]) := by
 obtain ⟨g, off, rfl, hg, _, hc⟩ := h.rd'.at_ (i := m) (u := .string L[m]) (by simp [hm])
 refine ⟨g, off, rfl, hg, rfl, hc⟩
section
variable {w W W' : World} {p d r l x : Nat} {P : ByteArray} {s1 s2 s' : DSt} {st1 st2 st' : LSt} {Z : Nat → Prop}
theorem PL.rdiskX (h : PL w W p d r l x P s1 st1 s2 st2 Z) : ∃ H, RAt W r s2 H ∧ (∀ k, H k → w.heap.size ≤ k ∧ Z k) ∧ ¬ H p ∧
  ∀ W' s' H', RAt W' r s' H' → Foot H H' W → Kp H W W' → ∃ Z', PL w W' p d r l x P s1 st1 s' st2 Z' ∧ Foot Z Z' W ∧ Kp Z W W' ∧ ∀ k, Z' k → Z k ∨ H' k := by
 obtain ⟨F, G, H, K, h1, h2, h3, h4, rfl⟩ := h
 refine ⟨H, h3.disk, fun k hk => ⟨h4.bn k (.inl hk), .inr (.inr (.inl hk))⟩, fun hp => h4.pb (.inl hp), fun W' s' H' k1 k2 k3 => ?_⟩
 have h3' := h3.turnD k1 k2 k3
 have k3' : Kp (Both H K) W W' := k3.mono fun _ _ x => .inl x
 obtain ⟨t1, t2, t3⟩ := h4.right (B' := Both H' K) (fun k hk => hk.elim (fun y => (k2 k y).imp .inl id) fun y => .inl (.inr y)) k3' (fun k hk => hk.elim (h3'.disk.lt k) (h3'.log.lt k))
 refine ⟨_, ⟨F, G, H', K, k3'.get h1 h4.pb, ⟨h2.disk.keep k3' fun k hk hf => h4.dis k (.inl hk) hf, h2.log.keep k3' fun k hk hf => h4.dis k (.inr hk) hf, h2.sep⟩, h3', t1, rfl⟩, t2, t3, ?_⟩
 rintro k (rfl | hk | (hk | hk))
 ·exact .inl (.inl rfl)
 ·exact .inl (.inr (.inl hk))
 ·exact .inr hk
 ·exact .inl (.inr (.inr (.inr hk)))
end
theorem own_apart {W W' : World} {e sz n : Nat} {v : Value} {xs : List Value} {Z Z' : Nat → Prop} (h : Own W e sz v n xs) (hG : ∀ g, v.ownBlock = some g → ¬ Z g) (hk : Kp Z W W') (hf : Foot Z Z' W) : Own W' e sz v n xs ∧ ∀ g, v.ownBlock = some g → ¬ Z' g :=
 ⟨h.keep hk hG, fun g hg hz => (hf g hz).elim (hG g hg) fun h1 => by have := h.lt g hg; omega⟩
end Go.Proofs.YtdibkdgafidjgaaGreatDoor

