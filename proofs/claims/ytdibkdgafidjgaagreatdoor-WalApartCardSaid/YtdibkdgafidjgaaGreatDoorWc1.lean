/-
  Texts laid together: WFit, WFit2, WFit3.
-/
import Derived.Test.YtdibkdgafidjgaaGreatDoorXOpenM
namespace Go.Proofs.YtdibkdgafidjgaaGreatDoor
open Go.RowKit Go.Mer
section
variable {β : Type}
theorem gget_gset_ne (l : List (ByteArray × β)) {k y : ByteArray} (v : β) (h : y ≠ k) : gget (gset l k v) y = gget l y := by
 unfold gset
 split
 ·induction l with
  | nil => rfl
  | cons p l ih =>
   have ih' : gget (l.map fun p => if p.1 = k then (k, v) else p) y = gget l y := by
    by_cases hk : k ∈ l.map (·.1)
    ·exact ih hk
    ·congr 1
     conv => rhs; rw [← List.map_id l]
     refine List.map_congr_left fun q hq => ?_
     rw [if_neg fun e => hk (List.mem_map.2 ⟨q, hq, e⟩)]
     rfl
   unfold gget at ih' ⊢
   rw [List.map_cons, List.find?_cons, List.find?_cons]
   by_cases hp : p.1 = k
   ·rw [if_pos hp]
    have e1 : decide (k = y) = false := decide_eq_false (fun e => h e.symm)
    have e2 : decide (p.1 = y) = false := decide_eq_false (fun e => h (by rw [← e, hp]))
    simp only [e1, e2]
    exact ih'
   ·rw [if_neg hp]
    cases hd : decide (p.1 = y)
    ·exact ih'
    ·rfl
 ·unfold gget
  rw [List.find?_append]
  cases hf : l.find? fun p => decide (p.1 = y) with
  | some p => rfl
  | none =>
   have e1 : decide (k = y) = false := decide_eq_false (fun e => h e.symm)
   simp [e1]
theorem gget_gdel (l : List (ByteArray × β)) (k y : ByteArray) : gget (gdel l k) y = if y = k then none else gget l y := by
 split
 ·next h => rw [h]; exact gdel_no l k
 ·next h =>
  unfold gget gdel
  rw [List.find?_filter]
  congr 1
  congr 1
  funext p
  by_cases hp : p.1 = y
  ·simp [hp, h]
  ·simp [hp]
theorem gget_is {l : List (ByteArray × β)} (k y : ByteArray) (v : β) : gget (gset l k v) y = if y = k then some v else gget l y := by
 split
 ·next h => rw [h]; exact gget_gset l k v
 ·next h => exact gget_gset_ne l v h
end
theorem gset_nodup {β : Type} {l : List (ByteArray × β)} {k : ByteArray} {v : β} (h : (l.map (·.1)).Nodup) : ((gset l k v).map (·.1)).Nodup := by
 unfold gset
 split
 ·have : (l.map fun p => if p.1 = k then (k, v) else p).map (·.1) = l.map (·.1) := by
   rw [List.map_map]
   refine List.map_congr_left fun p _ => ?_
   simp only [Function.comp_def]
   split
   ·next h => exact h.symm
   ·rfl
  rw [this]
  exact h
 ·next hk =>
  rw [List.map_append, List.nodup_append]
  refine ⟨h, by simp, fun a ha b hb => ?_⟩
  simp only [List.map_cons, List.map_nil, List.mem_singleton] at hb
  rintro rfl
  exact hk (hb ▸ ha)
theorem gset_mem_key {β : Type} {l : List (ByteArray × β)} {k : ByteArray} {v : β} {p : ByteArray × β} (h : p ∈ gset l k v) : p.1 = k ∨ ∃ q ∈ l, q.1 = p.1 := by
 unfold gset at h
 split at h
 ·obtain ⟨q, hq, rfl⟩ := List.mem_map.1 h
  split
  ·exact .inl rfl
  ·exact .inr ⟨q, hq, rfl⟩
 ·rcases List.mem_append.1 h with h | h
  ·exact .inr ⟨p, h, rfl⟩
  ·obtain rfl := List.mem_singleton.1 h
   exact .inl rfl
theorem ok_gset {l : Files} {k : ByteArray} {v : FileS} (h : FilesOk l) (hk : nameOk k = true) : FilesOk (gset l k v) := fun p hp => by
 rcases gset_mem_key hp with e | ⟨q, hq, e⟩
 ·rw [e]; exact hk
 ·rw [← e]; exact h q hq
theorem ok_gdel {l : Files} {k : ByteArray} (h : FilesOk l) : FilesOk (gdel l k) := fun p hp => h p (List.mem_filter.1 hp).1
theorem ok_get {l : Files} {x : ByteArray} {c : FileS} (h : FilesOk l) (hc : gget l x = some c) : nameOk x = true := h _ (gget_mem hc)
theorem get_ex {l : Files} {x : ByteArray} (h : x ∈ l.map (·.1)) : ∃ c, gget l x = some c := by
 cases hg : gget l x with
 | none => exact absurd h (gget_none_iff.1 hg)
 | some c => exact ⟨c, rfl⟩
theorem rd_get {l : Files} {x : ByteArray} {c : FileS} (h : gget l x = some c) : (rdS l x).1 = c.data := by unfold rdS; rw [h]
theorem rd_none {l : Files} {x : ByteArray} (h : gget l x = none) : (rdS l x).1 = [] := by unfold rdS; rw [h]
structure Free (s : DSt) : Prop where
 fuse : s.fuse = none
 nodup : (s.files.map (·.1)).Nodup
 ok : FilesOk s.files
theorem five_free {s : DSt} {x : ByteArray} {c : Int} {fs : Files} (hf : s.fuse = none) (hx : nameOk x = true) : five s [x] c fs = if c = 0 then (0, { s with files := fs }) else (c, s) := by
 unfold five
 rw [hf, if_neg (by simp), if_pos (by simp [hx])]
 obtain ⟨r, f, l⟩ := s
 simp only at hf
 subst hf
 rfl
theorem rm_free {s : DSt} (h : Free s) {x : ByteArray} {c : FileS} (hc : gget s.files x = some c) : rmS s x = (0, { s with files := gdel s.files x }) ∧ Free { s with files := gdel s.files x } := by
 refine ⟨?_, h.fuse, gdel_keys x h.nodup, ok_gdel h.ok⟩
 unfold rmS rmCode
 rw [hc, if_neg (by simp), five_free h.fuse (ok_get h.ok hc), if_pos rfl]
theorem sy_free {s : DSt} (h : Free s) {x : ByteArray} {c : FileS} (hc : gget s.files x = some c) : syS s x = (0, { s with files := gset s.files x ⟨c.data, c.data.length⟩ }) ∧ Free { s with files := gset s.files x ⟨c.data, c.data.length⟩ } := by
 refine ⟨?_, h.fuse, gset_nodup h.nodup, ok_gset h.ok (ok_get h.ok hc)⟩
 unfold syS syCode syFiles
 rw [hc, if_neg (by simp), five_free h.fuse (ok_get h.ok hc), if_pos rfl]
theorem cu_free {s : DSt} (h : Free s) {x : ByteArray} {c : FileS} (hc : gget s.files x = some c) {n : Nat} (hn : n ≤ c.data.length) : cuS s x (n : Int) = (0, { s with files := gset s.files x ⟨c.data.take n, min c.lasts n⟩ }) ∧ Free { s with files := gset s.files x ⟨c.data.take n, min c.lasts n⟩ } := by
 refine ⟨?_, h.fuse, gset_nodup h.nodup, ok_gset h.ok (ok_get h.ok hc)⟩
 unfold cuS cuCode cuFiles
 rw [hc]
 simp only
 rw [if_neg (by omega), five_free h.fuse (ok_get h.ok hc), if_pos rfl, Int.toNat_natCast]
theorem rmAll_free : ∀ (R : List ByteArray) (s : DSt), Free s → R.Nodup → (∀ x ∈ R, ∃ c, gget s.files x = some c) → ∃ s', rmAll s R = (0, s') ∧ Free s' ∧ s'.room = s.room ∧ ∀ y, gget s'.files y = if y ∈ R then none else gget s.files y
 | [], s, h, _, _ => ⟨s, rfl, h, rfl, fun y => by simp⟩
 | x :: R, s, h, hn, hx => by
  obtain ⟨c, hc⟩ := hx x (List.mem_cons_self ..)
  obtain ⟨h1, h2⟩ := rm_free h hc
  obtain ⟨hn1, hn2⟩ := List.nodup_cons.1 hn
  obtain ⟨s', h3, h4, h5, h6⟩ := rmAll_free R _ h2 hn2 (fun y hy => by
   obtain ⟨c', hc'⟩ := hx y (List.mem_cons_of_mem _ hy)
   refine ⟨c', ?_⟩
   show gget (gdel s.files x) y = _
   rw [gget_gdel, if_neg (fun e : y = x => hn1 (e ▸ hy))]
   exact hc')
  refine ⟨s', ?_, h4, h5, fun y => ?_⟩
  ·rw [rmAll, h1, if_pos rfl]
   exact h3
  ·rw [h6 y]
   show (if y ∈ R then none else gget (gdel s.files x) y) = _
   rw [gget_gdel]
   by_cases hyx : y = x
   ·simp [hyx]
   ·simp [hyx]
theorem syAll_free : ∀ (R : List ByteArray) (s : DSt), Free s → (∀ x ∈ R, ∃ c, gget s.files x = some c) → ∃ s', syAll s R = (0, s') ∧ Free s' ∧ s'.room = s.room ∧ ∀ y, gget s'.files y = if y ∈ R then (gget s.files y).map (fun c => ⟨c.data, c.data.length⟩) else gget s.files y
 | [], s, h, _ => ⟨s, rfl, h, rfl, fun y => by simp⟩
 | x :: R, s, h, hx => by
  obtain ⟨c, hc⟩ := hx x (List.mem_cons_self ..)
  obtain ⟨h1, h2⟩ := sy_free h hc
  obtain ⟨s', h3, h4, h5, h6⟩ := syAll_free R _ h2 (fun y hy => by
   obtain ⟨c', hc'⟩ := hx y (List.mem_cons_of_mem _ hy)
   show ∃ c, gget (gset s.files x _) y = some c
   rw [gget_is]
   split
   ·exact ⟨_, rfl⟩
   ·exact ⟨c', hc'⟩)
  refine ⟨s', ?_, h4, h5, fun y => ?_⟩
  ·rw [syAll, h1, if_pos rfl]
   exact h3
  ·rw [h6 y]
   show (if y ∈ R then (gget (gset s.files x _) y).map _ else gget (gset s.files x _) y) = _
   rw [gget_is]
   by_cases hyx : y = x
   ·subst hyx
    rw [if_pos rfl, if_pos (List.mem_cons_self ..), hc]
    by_cases hy : y ∈ R
    ·rw [if_pos hy]; rfl
    ·rw [if_neg hy]; rfl
   ·rw [if_neg hyx]
    by_cases hy : y ∈ R
    ·rw [if_pos hy, if_pos (List.mem_cons_of_mem _ hy)]
    ·rw [if_neg hy, if_neg (fun h => (List.mem_cons.1 h).elim hyx hy)]
theorem bnm_inj {P : ByteArray} {m n : Nat} (h : bnm P m = bnm P n) : m = n := by
 unfold bnm at h
 have := congrArg (fun x : ByteArray => x.data.toList) h
 exact nameL_inj (p := P.data.toList) (by simpa using this)
theorem bnm_seg {P : ByteArray} {n : Nat} (h : n < 100000000) : isSegN P (bnm P n) = true := by
 unfold isSegN bnm
 simp only
 rw [segNo_name _ h]
 rfl
theorem ents_pos {k : Nat} {b : List UInt8} (h : 0 < (entsF k b).2) : (entsF k b).1 ≠ [] := by
 cases hd : deF b with
 | none => rw [entsF_none k hd] at h; exact absurd h (Nat.lt_irrefl 0)
 | some x =>
  obtain ⟨p, n⟩ := x
  by_cases hq : ∃ q, numD 0 0 p = some (k, q)
  ·obtain ⟨q, hq⟩ := hq
   rw [entsF_more hd hq]
   simp
  ·rw [entsF_bad hd fun q h => hq ⟨q, h⟩] at h
   exact absurd h (Nat.lt_irrefl 0)
structure Sc (l : Files) (P : ByteArray) (st : LSt) (A : List ByteArray) : Prop where
 names : st.segs.map (fun z => bnm P z.1) = A
 full : ∀ z ∈ st.segs, z.2 = (rdS l (bnm P z.1)).1.length
 no : ∀ z ∈ st.segs, z.1 ≤ st.ents.length + 1
 rise : st.segs.Pairwise fun y z => y.1 < z.1
 pos : ∀ z ∈ st.segs, 0 < z.2 → z.1 ≤ st.ents.length
theorem Sc.take {l : Files} {P : ByteArray} {st : LSt} {A : List ByteArray} {x : ByteArray} (h : Sc l P st A) (hx : x ∉ A) (ht : (takeS l P st x).2 = true) : Sc l P (takeS l P st x).1 (A ++ [x]) := by
 unfold takeS at ht ⊢
 split at ht
 ·next hy =>
  simp only [decide_eq_true_eq] at ht
  rw [if_pos hy, if_pos (show 0 < (entsF (st.ents.length + 1) (rdS l x).1).2 ∨ (rdS l x).1.length = 0 by omega)]
  have hne : ∀ z ∈ st.segs, z.1 < st.ents.length + 1 := fun z hz => by
   have h1 := h.no z hz
   rcases Nat.lt_or_ge z.1 (st.ents.length + 1) with h2 | h2
   ·exact h2
   ·exfalso
    apply hx
    rw [← h.names, hy]
    exact List.mem_map.2 ⟨z, hz, by rw [show z.1 = st.ents.length + 1 by omega]⟩
  refine ⟨?_, ?_, ?_, ?_, ?_⟩
  ·simp only [List.map_append, List.map_cons, List.map_nil, h.names, ← hy]
  ·intro z hz
   rcases List.mem_append.1 hz with hz | hz
   ·exact h.full z hz
   ·obtain rfl := List.mem_singleton.1 hz
    simp only [← hy]
    exact ht
  ·intro z hz
   simp only [List.length_append]
   rcases List.mem_append.1 hz with hz | hz
   ·have := h.no z hz; omega
   ·obtain rfl := List.mem_singleton.1 hz
    simp only
    omega
  ·refine List.pairwise_append.2 ⟨h.rise, List.pairwise_singleton _ _, fun y hy z hz => ?_⟩
   obtain rfl := List.mem_singleton.1 hz
   exact hne y hy
  ·intro z hz hp
   simp only [List.length_append]
   rcases List.mem_append.1 hz with hz | hz
   ·have := h.pos z hz hp; omega
   ·obtain rfl := List.mem_singleton.1 hz
    simp only at hp ⊢
    have := List.length_pos_iff.2 (ents_pos hp)
    omega
 ·cases ht
theorem scan_all {l : Files} {P : ByteArray} : ∀ (N : List ByteArray) (st : LSt) (A : List ByteArray), Sc l P st A → (A ++ N).Nodup →
  ((scanS l P st N).2 = [] ∧ Sc l P (scanS l P st N).1 (A ++ N)) ∨ ∃ N1 x r stm, N = N1 ++ x :: r ∧ Sc l P stm (A ++ N1) ∧ (takeS l P stm x).2 = false ∧ scanS l P st N = ((takeS l P stm x).1, x :: r)
 | [], st, A, h, _ => .inl ⟨rfl, by simpa [scanS] using h⟩
 | x :: N, st, A, h, hn => by
  rw [scanS]
  have hx : x ∉ A := fun hx => (List.nodup_append.1 hn).2.2 x hx x (List.mem_cons_self ..) rfl
  by_cases ht : (takeS l P st x).2 = true
  ·rw [if_pos ht]
   have h1 := h.take hx ht
   rcases scan_all N _ (A ++ [x]) h1 (by rw [List.append_assoc]; exact hn) with ⟨h2, h3⟩ | ⟨N1, y, r, stm, h2, h3, h4, h5⟩
   ·exact .inl ⟨h2, by rw [List.append_assoc] at h3; exact h3⟩
   ·exact .inr ⟨x :: N1, y, r, stm, by rw [h2]; rfl, by rw [List.append_assoc] at h3; exact h3, h4, h5⟩
  ·rw [if_neg ht]
   exact .inr ⟨[], x, N, st, rfl, by simpa using h, by simpa using ht, rfl⟩
theorem sc0 (l : Files) (P : ByteArray) : Sc l P st0 [] := ⟨rfl, fun _ h => (by cases h), fun _ h => (by cases h), List.Pairwise.nil, fun _ h => (by cases h)⟩
theorem Sc.stop {l : Files} {P : ByteArray} {st : LSt} {A : List ByteArray} {x : ByteArray} (h : Sc l P st A) (hx : x ∉ A) (ht : (takeS l P st x).2 = false) :
  (takeS l P st x).1 = st ∨
  (x = bnm P (st.ents.length + 1) ∧ ∃ g, (takeS l P st x).1 = { st with ents := st.ents ++ (entsF (st.ents.length + 1) (rdS l x).1).1, segs := st.segs ++ [(st.ents.length + 1, g)] } ∧ 0 < g ∧ g = (entsF (st.ents.length + 1) (rdS l x).1).2 ∧ g < (rdS l x).1.length ∧ (∀ z ∈ st.segs, z.1 < st.ents.length + 1) ∧ (entsF (st.ents.length + 1) (rdS l x).1).1 ≠ []) := by
 unfold takeS at ht ⊢
 split at ht
 ·next hy =>
  simp only [decide_eq_false_iff_not] at ht
  have hle := entsF_le (rdS l x).1 (st.ents.length + 1)
  rw [if_pos hy]
  by_cases h0 : (entsF (st.ents.length + 1) (rdS l x).1).2 = 0
  ·left
   rw [if_neg (by omega), entsF_zero h0, List.append_nil]
  ·right
   refine ⟨hy, _, ?_, Nat.pos_of_ne_zero h0, rfl, by omega, fun z hz => ?_, ents_pos (Nat.pos_of_ne_zero h0)⟩
   ·rw [if_pos (.inl (Nat.pos_of_ne_zero h0))]
   ·have h1 := h.no z hz
    rcases Nat.lt_or_ge z.1 (st.ents.length + 1) with h2 | h2
    ·exact h2
    ·exfalso
     apply hx
     rw [← h.names, hy]
     exact List.mem_map.2 ⟨z, hz, by rw [show z.1 = st.ents.length + 1 by omega]⟩
 ·left
  next hy =>
  rw [if_neg hy]
end Go.Proofs.YtdibkdgafidjgaaGreatDoor
namespace Go.Proofs.YtdibkdgafidjgaaGreatDoor
open Go.RowKit Go.Mer
structure Opened (P : ByteArray) (s s' : DSt) (st : LSt) : Prop where
 free : Free s'
 room : s'.room = s.room
 dead : st.dead = false
 sync : st.synced = st.ents.length
 other : ∀ y, isSegN P y = false → gget s'.files y = gget s.files y
 seg : ∀ z ∈ st.segs, ∃ c, gget s.files (bnm P z.1) = some c ∧ z.2 ≤ c.data.length ∧ gget s'.files (bnm P z.1) = some ⟨c.data.take z.2, z.2⟩ ∧ isSegN P (bnm P z.1) = true
 gone : ∀ y, isSegN P y = true → (∀ z ∈ st.segs, y ≠ bnm P z.1) → gget s'.files y = none
 no : ∀ z ∈ st.segs, z.1 ≤ st.ents.length + 1
 rise : st.segs.Pairwise fun y z => y.1 < z.1
 pos : ∀ z ∈ st.segs, 0 < z.2 → z.1 ≤ st.ents.length
 scan : st.ents = (scanS s.files P st0 ((nmS s.files).filter (isSegN P))).1.ents ∧ st.segs = (scanS s.files P st0 ((nmS s.files).filter (isSegN P))).1.segs
theorem openS_syn {P : ByteArray} {s s1 s2 : DSt} {N : List ByteArray} {st' : LSt} {rest : List ByteArray} (hz : scanS s.files P st0 (N.filter (isSegN P)) = (st', rest)) (hq : end0 P s st'.segs rest = (0, s1)) (hy : syAll s1 (st'.segs.map fun x => bnm P x.1) = (0, s2)) :
  openS P s N = (0, s2, { st' with synced := st'.ents.length }) := by
 unfold openS
 simp only [hz, hq, hy, if_true]
theorem seg_file {P : ByteArray} {s : DSt} {y : ByteArray} (h : y ∈ (nmS s.files).filter (isSegN P)) : isSegN P y = true ∧ ∃ c, gget s.files y = some c := by
 obtain ⟨h1, h2⟩ := List.mem_filter.1 h
 exact ⟨h2, get_ex (nm_mem.1 h1)⟩
theorem seg_none {P : ByteArray} {s : DSt} {y : ByteArray} (h : y ∉ (nmS s.files).filter (isSegN P)) (hy : isSegN P y = true) : gget s.files y = none := by
 rw [gget_none_iff]
 exact fun hm => h (List.mem_filter.2 ⟨nm_mem.2 hm, hy⟩)
theorem end_gone {P : ByteArray} {s : DSt} {segs : List (Nat × Nat)} {x : ByteArray} (h : ∀ z ∈ segs, bnm P z.1 ≠ x) : endOne P s segs x = rmS s x := by
 unfold endOne
 split
 ·rfl
 ·next z hz => rw [if_neg (h z (List.mem_of_getLast? hz))]
theorem end_cut {P : ByteArray} {s : DSt} {segs : List (Nat × Nat)} {n g : Nat} : endOne P s (segs ++ [(n, g)]) (bnm P n) = cuS s (bnm P n) (g : Int) := by
 unfold endOne
 rw [List.getLast?_append]
 simp
theorem open_free (P : ByteArray) {s : DSt} (h : Free s) : ∃ s' st', openS P s (nmS s.files) = (0, s', st') ∧ Opened P s s' st' := by
 obtain ⟨M, hM⟩ : ∃ M, M = (nmS s.files).filter (isSegN P) := ⟨_, rfl⟩
 have hMn : M.Nodup := by rw [hM]; exact (nm_nodup h.nodup).filter _
 have hMx : ∀ y ∈ M, isSegN P y = true ∧ ∃ c, gget s.files y = some c := fun y hy => seg_file (hM ▸ hy)
 have hMo : ∀ y, y ∉ M → isSegN P y = true → gget s.files y = none := fun y hy => seg_none (hM ▸ hy)
 have hdead : (scanS s.files P st0 M).1.dead = false := (scan_no s.files P M st0 (fun _ h => (by cases h))).2
 rcases scan_all (l := s.files) (P := P) M st0 [] (sc0 _ _) (by simpa using hMn) with ⟨h1, h2⟩ | ⟨N1, x, r, stm, h1, h2, h3, h4⟩
 ·rw [List.nil_append] at h2
  obtain ⟨st', hst⟩ : ∃ st', st' = (scanS s.files P st0 M).1 := ⟨_, rfl⟩
  have hz : scanS s.files P st0 M = (st', []) := by rw [hst, ← h1]
  rw [← hst] at h2 hdead
  have hnm : ∀ z ∈ st'.segs, bnm P z.1 ∈ M := fun z hz => h2.names ▸ List.mem_map.2 ⟨z, hz, rfl⟩
  obtain ⟨s2, e2, f2, r2, g2⟩ := syAll_free M s h (fun y hy => (hMx y hy).2)
  refine ⟨s2, _, openS_syn (st' := st') (rest := []) (by rw [← hM]; exact hz) rfl (by rw [h2.names]; exact e2), f2, r2, hdead, rfl, fun y hy => ?_, fun z hz => ?_, fun y hy hyz => ?_, h2.no, h2.rise, h2.pos, ?_⟩
  ·rw [g2, if_neg fun hm => by rw [(hMx y hm).1] at hy; cases hy]
  ·obtain ⟨hs, c, hc⟩ := hMx _ (hnm z hz)
   have hf := h2.full z hz
   rw [rd_get hc] at hf
   refine ⟨c, hc, by omega, ?_, hs⟩
   rw [g2, if_pos (hnm z hz), hc, hf, List.take_length]
   rfl
  ·rw [g2, if_neg, hMo y ?_ hy]
   ·intro hm
    rw [← h2.names] at hm
    obtain ⟨z, hz, e⟩ := List.mem_map.1 hm
    exact hyz z hz e.symm
   ·intro hm
    rw [← h2.names] at hm
    obtain ⟨z, hz, e⟩ := List.mem_map.1 hm
    exact hyz z hz e.symm
  ·rw [← hM, hz]
   exact ⟨rfl, rfl⟩
 ·rw [List.nil_append] at h2
  have hnd := hMn
  rw [h1] at hnd
  obtain ⟨hn1, hn2, hn3⟩ := List.nodup_append.1 hnd
  obtain ⟨hxr, hnr⟩ := List.nodup_cons.1 hn2
  have hx1 : x ∉ N1 := fun hx => hn3 x hx x (List.mem_cons_self ..) rfl
  have hr1 : ∀ y ∈ r, y ∉ N1 := fun y hy hy' => hn3 y hy' y (List.mem_cons_of_mem _ hy) rfl
  have hM1 : ∀ y ∈ N1, y ∈ M := fun y hy => by rw [h1]; exact List.mem_append_left _ hy
  have hMr : ∀ y ∈ r, y ∈ M := fun y hy => by rw [h1]; exact List.mem_append_right _ (List.mem_cons_of_mem _ hy)
  have hMx' : x ∈ M := by rw [h1]; exact List.mem_append_right _ (List.mem_cons_self ..)
  have hMiff : ∀ y, y ∈ M ↔ y ∈ N1 ∨ y = x ∨ y ∈ r := fun y => by rw [h1]; simp
  obtain ⟨s1, e1, f1, r1, g1⟩ := rmAll_free r.reverse s h ((List.reverse_perm r).nodup_iff.2 hnr) (fun y hy => (hMx y (hMr y (by simpa using hy))).2)
  have g1' : ∀ y, gget s1.files y = if y ∈ r then none else gget s.files y := fun y => by rw [g1]; simp
  obtain ⟨cx, hcx⟩ := (hMx x hMx').2
  have hcx1 : gget s1.files x = some cx := by rw [g1', if_neg hxr]; exact hcx
  have hnm : ∀ z ∈ stm.segs, bnm P z.1 ∈ N1 := fun z hz => h2.names ▸ List.mem_map.2 ⟨z, hz, rfl⟩
  rcases h2.stop hx1 h3 with h5 | ⟨h5, g, h6, h7, h8, h9, h10, h11⟩
  ·rw [h5] at h4
   rw [h4] at hdead
   obtain ⟨e2, f2⟩ := rm_free f1 hcx1
   obtain ⟨s3, e3, f3, r3, g3⟩ := syAll_free N1 _ f2 (fun y hy => by
    obtain ⟨c, hc⟩ := (hMx y (hM1 y hy)).2
    refine ⟨c, ?_⟩
    show gget (gdel s1.files x) y = _
    rw [gget_gdel, if_neg (fun e : y = x => hx1 (e ▸ hy)), g1', if_neg (fun e => hr1 y e hy)]
    exact hc)
   have g4 : ∀ y, gget s3.files y = if y ∈ N1 then (gget s.files y).map (fun c => ⟨c.data, c.data.length⟩) else if y = x ∨ y ∈ r then none else gget s.files y := fun y => by
    rw [g3]
    show (if y ∈ N1 then (gget (gdel s1.files x) y).map _ else gget (gdel s1.files x) y) = _
    rw [gget_gdel, g1']
    by_cases hy : y ∈ N1
    ·rw [if_pos hy, if_pos hy, if_neg (fun e : y = x => hx1 (e ▸ hy)), if_neg (fun e => hr1 y e hy)]
    ·rw [if_neg hy, if_neg hy]
     by_cases hyx : y = x
     ·rw [if_pos hyx, if_pos (.inl hyx)]
     ·rw [if_neg hyx]
      by_cases hyr : y ∈ r
      ·rw [if_pos hyr, if_pos (.inr hyr)]
      ·rw [if_neg hyr, if_neg (fun e => e.elim hyx hyr)]
   refine ⟨s3, _, openS_syn (st' := stm) (rest := x :: r) (by rw [← hM]; exact h4) (s1 := { s1 with files := gdel s1.files x }) ?_ (by rw [h2.names]; exact e3), f3, r3.trans r1, hdead, rfl, fun y hy => ?_, fun z hz => ?_, fun y hy hyz => ?_, h2.no, h2.rise, h2.pos, ?_⟩
   ·show endS P s stm.segs x r = _
    rw [endS_ok e1, end_gone (fun z hz (e : bnm P z.1 = x) => hx1 (e ▸ hnm z hz))]
    exact e2
   ·have hno : y ∉ M := fun hm => by rw [(hMx y hm).1] at hy; cases hy
    rw [hMiff] at hno
    rw [g4, if_neg (fun e => hno (.inl e)), if_neg (fun e => hno (.inr e))]
   ·obtain ⟨hs, c, hc⟩ := hMx _ (hM1 _ (hnm z hz))
    have hf := h2.full z hz
    rw [rd_get hc] at hf
    refine ⟨c, hc, by omega, ?_, hs⟩
    rw [g4, if_pos (hnm z hz), hc, hf, List.take_length]
    rfl
   ·have hy1 : y ∉ N1 := fun hm => by
     rw [← h2.names] at hm
     obtain ⟨z, hz, e⟩ := List.mem_map.1 hm
     exact hyz z hz e.symm
    rw [g4, if_neg hy1]
    split
    ·rfl
    ·next hno => exact hMo y (fun hm => (hMiff y).1 hm |>.elim hy1 hno) hy
   ·rw [← hM, h4]
    exact ⟨rfl, rfl⟩
  ·rw [h6] at h4
   rw [h4] at hdead
   rw [rd_get hcx] at h9
   obtain ⟨e2, f2⟩ := cu_free f1 hcx1 (Nat.le_of_lt h9)
   have hxs : isSegN P x = true := (hMx x hMx').1
   obtain ⟨s3, e3, f3, r3, g3⟩ := syAll_free (N1 ++ [x]) _ f2 (fun y hy => by
    show ∃ c, gget (gset s1.files x _) y = some c
    rw [gget_is]
    split
    ·exact ⟨_, rfl⟩
    ·next hyx =>
     have hy1 : y ∈ N1 := by simpa [hyx] using hy
     obtain ⟨c, hc⟩ := (hMx y (hM1 y hy1)).2
     exact ⟨c, by rw [g1', if_neg (fun e => hr1 y e hy1)]; exact hc⟩)
   have g4 : ∀ y, gget s3.files y = if y = x then some ⟨cx.data.take g, g⟩ else if y ∈ N1 then (gget s.files y).map (fun c => ⟨c.data, c.data.length⟩) else if y ∈ r then none else gget s.files y := fun y => by
    rw [g3]
    show (if y ∈ N1 ++ [x] then (gget (gset s1.files x _) y).map _ else gget (gset s1.files x _) y) = _
    rw [gget_is, g1']
    by_cases hyx : y = x
    ·rw [if_pos hyx, if_pos hyx, if_pos (by rw [hyx]; simp)]
     simp only [Option.map_some, List.length_take, Option.some.injEq, FileS.mk.injEq, true_and]
     omega
    ·rw [if_neg hyx, if_neg hyx]
     by_cases hy : y ∈ N1
     ·rw [if_pos (List.mem_append_left _ hy), if_pos hy, if_neg (fun e => hr1 y e hy)]
     ·rw [if_neg (by simp [hy, hyx]), if_neg hy]
   refine ⟨s3, _, openS_syn (st' := { stm with ents := stm.ents ++ (entsF (stm.ents.length + 1) (rdS s.files x).1).1, segs := stm.segs ++ [(stm.ents.length + 1, g)] }) (rest := x :: r) (by rw [← hM]; exact h4) (s1 := { s1 with files := gset s1.files x ⟨cx.data.take g, min cx.lasts g⟩ }) ?_ ?_, f3, r3.trans r1, hdead, rfl, fun y hy => ?_, fun z hz => ?_, fun y hy hyz => ?_, fun z hz => ?_, ?_, fun z hz hp => ?_, ?_⟩
   ·show endS P s (stm.segs ++ [(stm.ents.length + 1, g)]) x r = _
    rw [endS_ok e1, h5, end_cut, ← h5]
    exact e2
   ·simp only [List.map_append, List.map_cons, List.map_nil, h2.names, ← h5]
    exact e3
   ·have hno : y ∉ M := fun hm => by rw [(hMx y hm).1] at hy; cases hy
    rw [hMiff] at hno
    rw [g4, if_neg (fun e => hno (.inr (.inl e))), if_neg (fun e => hno (.inl e)), if_neg (fun e => hno (.inr (.inr e)))]
   ·rcases List.mem_append.1 hz with hz | hz
    ·have hz1 := hnm z hz
     obtain ⟨hs, c, hc⟩ := hMx _ (hM1 _ hz1)
     have hf := h2.full z hz
     rw [rd_get hc] at hf
     refine ⟨c, hc, by omega, ?_, hs⟩
     rw [g4, if_neg (fun e : bnm P z.1 = x => hx1 (e ▸ hz1)), if_pos hz1, hc, hf, List.take_length]
     rfl
    ·obtain rfl := List.mem_singleton.1 hz
     simp only
     rw [← h5]
     refine ⟨cx, hcx, Nat.le_of_lt h9, ?_, hxs⟩
     rw [g4, if_pos rfl]
   ·have hyx : y ≠ x := fun e => hyz (stm.ents.length + 1, g) (List.mem_append_right _ (List.mem_singleton.2 rfl)) (by rw [e, h5])
    have hy1 : y ∉ N1 := fun hm => by
     rw [← h2.names] at hm
     obtain ⟨z, hz, e⟩ := List.mem_map.1 hm
     exact hyz z (List.mem_append_left _ hz) e.symm
    rw [g4, if_neg hyx, if_neg hy1]
    split
    ·rfl
    ·next hno => exact hMo y (fun hm => (hMiff y).1 hm |>.elim hy1 fun hm => hm.elim hyx hno) hy
   ·simp only [List.length_append]
    rcases List.mem_append.1 hz with hz | hz
    ·have := h2.no z hz; omega
    ·obtain rfl := List.mem_singleton.1 hz
     simp only
     omega
   ·refine List.pairwise_append.2 ⟨h2.rise, List.pairwise_singleton _ _, fun y hy z hz => ?_⟩
    obtain rfl := List.mem_singleton.1 hz
    exact h10 y hy
   ·simp only [List.length_append]
    have hl := List.length_pos_iff.2 h11
    rcases List.mem_append.1 hz with hz | hz
    ·have := h2.pos z hz hp; omega
    ·obtain rfl := List.mem_singleton.1 hz
     simp only
     omega
   ·rw [← hM, h4]
    exact ⟨rfl, rfl⟩
end Go.Proofs.YtdibkdgafidjgaaGreatDoor
namespace Go.Proofs.YtdibkdgafidjgaaGreatDoor
open Go.RowKit Go.Mer
structure Fit (k : Nat) (P : ByteArray) (s : DSt) (st : LSt) : Prop where
 room : s.room ≤ 1048576
 ok : FilesOk s.files
 hne : st.segs = [] → st.ents.length ≤ st.synced
 hsl : st.synced ≤ st.ents.length
 no : ∀ z ∈ st.segs, z.1 ≤ st.ents.length + 1
 ents : st.ents.length ≤ 90000 + k
 segs : st.segs.length ≤ 5000 + k
 big : ∀ z ∈ st.segs, z.2 ≤ 300000 * (k + 7)
theorem Fit.mono {k k' : Nat} {P : ByteArray} {s : DSt} {st : LSt} (h : Fit k P s st) (hk : k ≤ k') : Fit k' P s st :=
 ⟨h.room, h.ok, h.hne, h.hsl, h.no, by have := h.ents; omega, by have := h.segs; omega, fun z hz => by have := h.big z hz; omega⟩
structure Whole (P : ByteArray) (s : DSt) (st : LSt) : Prop where
 tr : Tracked P s st
 only : ∀ p ∈ s.files, isSegN P p.1 = true → ∃ z ∈ st.segs, p.1 = bnm P z.1
 rise : st.segs.Pairwise fun y z => y.1 < z.1
 pos : ∀ z ∈ st.segs, 0 < z.2 → z.1 ≤ st.ents.length
theorem Opened.fit {P : ByteArray} {s s' : DSt} {st : LSt} (h : Opened P s s' st) (hroom : s.room ≤ 1048576) (hfew : s.files.length ≤ 4096) (hnd : (s.files.map (·.1)).Nodup) (htot : totF s.files ≤ s.room) : Fit 0 P s' st := by
 obtain ⟨h1, h2⟩ := h.scan
 have hfe := scan_few s.files P ((nmS s.files).filter (isSegN P)) st0
 have hsu := sumR_le hnd (N := (nmS s.files).filter (isSegN P)) ((nm_nodup hnd).filter _)
 have hse := scan_segs s.files P ((nmS s.files).filter (isSegN P)) st0
 rw [← h1] at hfe
 rw [← h2] at hse
 have hfl : ((nmS s.files).filter (isSegN P)).length ≤ s.files.length := by
  have := List.length_filter_le (isSegN P) (nmS s.files)
  rwa [nm_len] at this
 have e1 : st0.ents.length = 0 := rfl
 have e2 : st0.segs.length = 0 := rfl
 refine ⟨by rw [h.room]; exact hroom, h.free.ok, fun _ => by rw [h.sync]; exact Nat.le_refl _, by rw [h.sync]; exact Nat.le_refl _, h.no, by omega, by omega, fun z hz => ?_⟩
 obtain ⟨c, hc, hl, _⟩ := h.seg z hz
 have := mem_len (gget_mem hc)
 simp only at this
 omega
theorem Opened.whole {P : ByteArray} {s s' : DSt} {st : LSt} (h : Opened P s s' st) : Whole P s' st := by
 refine ⟨fun S1 z hz => ?_, fun p hp hs => ?_, h.rise, h.pos⟩
 ·obtain ⟨c, _, hl, hg, _⟩ := h.seg z (by rw [hz]; simp)
  rw [rd_get hg, List.length_take]
  omega
 ·apply Decidable.byContradiction
  intro hn
  have := h.gone p.1 hs (fun z hz e => hn ⟨z, hz, e⟩)
  rw [gget_some h.free.nodup (k := p.1) (v := p.2) hp] at this
  cases this
theorem five_ok {s : DSt} {x : ByteArray} {c : Int} {fs : Files} (h : FilesOk s.files) (hf : nameOk x = true → FilesOk fs) : FilesOk (five s [x] c fs).2.files ∧ (five s [x] c fs).2.room = s.room := by
 unfold five
 split
 ·exact ⟨h, rfl⟩
 ·split
  ·next hx =>
   split
   ·exact ⟨hf (by simpa using hx), rfl⟩
   ·exact ⟨h, rfl⟩
  ·exact ⟨h, rfl⟩
theorem five_no {s : DSt} {ns : List ByteArray} {c : Int} {fs : Files} (h : (five s ns c fs).1 ≠ 0) : (five s ns c fs).2 = s := by
 unfold five at h ⊢
 split
 ·rfl
 ·next h1 =>
  rw [if_neg h1] at h
  split
  ·next h2 =>
   rw [if_pos h2] at h
   split
   ·next h3 => rw [if_pos h3] at h; exact absurd rfl h
   ·rfl
  ·rfl
theorem five_yes {s : DSt} {ns : List ByteArray} {c : Int} {fs : Files} (h : (five s ns c fs).1 = 0) : c = 0 ∧ ns.all nameOk = true ∧ (five s ns c fs).2 = { s with fuse := s.fuse.map (· - 1), files := fs } := by
 unfold five at h ⊢
 split
 ·next h1 => rw [if_pos h1] at h; cases h
 ·next h1 =>
  rw [if_neg h1] at h
  split
  ·next h2 =>
   rw [if_pos h2] at h
   split
   ·next h3 => exact ⟨h3, h2, rfl⟩
   ·next h3 => rw [if_neg h3] at h; exact absurd h h3
  ·next h2 => rw [if_neg h2] at h; cases h
theorem sy_ok {s : DSt} (h : FilesOk s.files) (x : ByteArray) : FilesOk (syS s x).2.files ∧ (syS s x).2.room = s.room := five_ok h fun hx => by
 unfold syFiles
 split
 ·exact ok_gset h hx
 ·exact h
theorem wr_ok {s : DSt} (h : FilesOk s.files) (x : ByteArray) (p : List UInt8) : FilesOk (wrS s x p).2.files ∧ (wrS s x p).2.room = s.room := five_ok h fun hx => by
 unfold wrFiles
 split
 ·exact ok_gset h hx
 ·exact ok_gset h hx
theorem cu_ok {s : DSt} (h : FilesOk s.files) (x : ByteArray) (n : Int) : FilesOk (cuS s x n).2.files ∧ (cuS s x n).2.room = s.room := five_ok h fun hx => by
 unfold cuFiles
 split
 ·exact ok_gset h hx
 ·exact h
theorem cr_ok {s : DSt} (h : FilesOk s.files) (keep : Int) (t : UInt8) : FilesOk (crS s keep t).files ∧ (crS s keep t).room = s.room ∧ (crS s keep t).fuse = none := ⟨fun p hp => by
 obtain ⟨q, hq, rfl⟩ := List.mem_map.1 hp
 exact h q hq, rfl, rfl⟩
def SameData (l l' : Files) : Prop := (∀ y, (rdS l' y).1 = (rdS l y).1) ∧ ∀ p ∈ l', ∃ q ∈ l, q.1 = p.1
theorem SameData.refl (l : Files) : SameData l l := ⟨fun _ => rfl, fun p hp => ⟨p, hp, rfl⟩⟩
theorem sy_data (s : DSt) (x : ByteArray) : SameData s.files (syS s x).2.files := by
 by_cases h : (syS s x).1 = 0
 ·obtain ⟨h1, h2, h3⟩ := five_yes h
  have e : (syS s x).2.files = syFiles s.files x := by unfold syS; rw [h3]
  rw [e]
  unfold syFiles
  cases hg : gget s.files x with
  | none => exact SameData.refl _
  | some c =>
   refine ⟨fun y => ?_, fun p hp => ?_⟩
   ·unfold rdS
    simp only
    rw [gget_is]
    by_cases hy : y = x
    ·rw [if_pos hy, hy, hg]
    ·rw [if_neg hy]
   ·rcases gset_mem_key hp with e | h
    ·exact ⟨_, gget_mem hg, e.symm⟩
    ·exact h
 ·have e : (syS s x).2 = s := five_no h
  rw [e]
  exact SameData.refl _
theorem Whole.same {P : ByteArray} {s s' : DSt} {st st' : LSt} (h : Whole P s st) (hd : SameData s.files s'.files) (he : st'.ents = st.ents) (hs : st'.segs = st.segs) : Whole P s' st' := by
 refine ⟨fun S1 z hz => ?_, fun p hp hx => ?_, by rw [hs]; exact h.rise, by rw [hs, he]; exact h.pos⟩
 ·rw [hd.1]
  exact h.tr S1 z (hs ▸ hz)
 ·obtain ⟨q, hq, e⟩ := hd.2 p hp
  rw [← e] at hx ⊢
  rw [hs]
  exact h.only q hq hx
theorem syncs_data (P : ByteArray) (s : DSt) (st : LSt) : SameData s.files (syncsS P s st).2.1.files := by
 unfold syncsS
 split
 ·split
  ·exact SameData.refl _
  ·exact sy_data s _
 ·exact SameData.refl _
theorem fit_syncs {k : Nat} {P : ByteArray} {s : DSt} {st : LSt} (h : Fit k P s st) : Fit k P (syncsS P s st).2.1 (syncsS P s st).2.2 := by
 unfold syncsS
 split
 ·split
  ·exact h
  ·next z _ =>
   have h1 := sy_ok h.ok (bnm P z.1)
   simp only
   split
   ·exact ⟨by rw [h1.2]; exact h.room, h1.1, fun _ => Nat.le_refl _, Nat.le_refl _, h.no, h.ents, h.segs, h.big⟩
   ·exact ⟨by rw [h1.2]; exact h.room, h1.1, h.hne, h.hsl, h.no, h.ents, h.segs, h.big⟩
 ·exact h
theorem Fit.dead {k : Nat} {P : ByteArray} {s : DSt} {st : LSt} (h : Fit k P s st) (b : Bool) : Fit k P s { st with dead := b } := ⟨h.room, h.ok, h.hne, h.hsl, h.no, h.ents, h.segs, h.big⟩
theorem fit_snc {k : Nat} {P : ByteArray} {s : DSt} {st : LSt} (h : Fit k P s st) : Fit k P (sncS P s st).2.1 (sncS P s st).2.2 := by
 unfold sncS
 split
 ·exact h
 ·exact (fit_syncs h).dead _
theorem whole_snc {P : ByteArray} {s : DSt} {st : LSt} (h : Whole P s st) : Whole P (sncS P s st).2.1 (sncS P s st).2.2 := by
 unfold sncS
 split
 ·exact h
 ·obtain ⟨h1, h2, _⟩ := syncs_same P s st
  exact h.same (syncs_data P s st) h1 h2
theorem fit_pre {k : Nat} {P : ByteArray} {s : DSt} {st : LSt} (h : Fit k P s st) : Fit k P (preS P s st).2.1 (preS P s st).2.2 := by
 unfold preS
 split
 ·exact fit_syncs h
 ·exact h
theorem pre_same (P : ByteArray) (s : DSt) (st : LSt) : (preS P s st).2.2.ents = st.ents ∧ (preS P s st).2.2.segs = st.segs ∧ (preS P s st).2.2.dead = st.dead := by
 unfold preS
 split
 ·exact syncs_same P s st
 ·exact ⟨rfl, rfl, rfl⟩
theorem pre_data (P : ByteArray) (s : DSt) (st : LSt) : SameData s.files (preS P s st).2.1.files := by
 unfold preS
 split
 ·exact syncs_data P s st
 ·exact SameData.refl _
theorem pre_not6 (P : ByteArray) (s : DSt) (st : LSt) : (preS P s st).1 ≠ 6 := by
 unfold preS
 split
 ·exact syncs_not6 P s st
 ·simp
theorem segs_cases (st : LSt) : st.segs = [] ∨ ∃ S1 z, st.segs = S1 ++ [z] := by
 rcases List.eq_nil_or_concat st.segs with h | ⟨S1, z, h⟩
 ·exact .inl h
 ·exact .inr ⟨S1, z, by rw [h, List.concat_eq_append]⟩
theorem add_segs {st : LSt} {p : List UInt8} : (freshS st = true ∧ (addS st p).segs = st.segs ++ [(st.ents.length + 1, (entL (st.ents.length + 1) p).length)]) ∨
  (freshS st = false ∧ ∃ S1 z, st.segs = S1 ++ [z] ∧ (addS st p).segs = S1 ++ [(z.1, z.2 + (entL (st.ents.length + 1) p).length)]) := by
 cases hf : freshS st with
 | true => exact .inl ⟨rfl, by unfold addS; rw [if_pos hf]⟩
 | false =>
  rcases segs_cases st with h | ⟨S1, z, h⟩
  ·rw [fresh_none h] at hf; cases hf
  ·refine .inr ⟨rfl, S1, z, h, ?_⟩
   rw [add_old hf h]
theorem fit_add {k : Nat} {P : ByteArray} {s : DSt} {st : LSt} (h : Fit k P s st) (hk : k ≤ 100000) {p : List UInt8} (hp : p.length ≤ 262134) {s' : DSt} (hs : FilesOk s'.files ∧ s'.room = s.room) : Fit (k + 1) P s' (addS st p) := by
 have he := h.ents
 have hsg := h.segs
 have hel := entL_len (st.ents.length + 1) (by omega) p
 have hea : (addS st p).ents = st.ents ++ [p] := rfl
 have hsa : (addS st p).synced = st.synced := rfl
 have hsl := h.hsl
 refine ⟨by rw [hs.2]; exact h.room, hs.1, fun h0 => ?_, ?_, fun z hz => ?_, ?_, ?_, fun z hz => ?_⟩
 ·rcases add_segs (st := st) (p := p) with ⟨_, h1⟩ | ⟨_, S1, z, _, h1⟩ <;> rw [h1] at h0 <;> simp at h0
 ·rw [hea, hsa, List.length_append]; omega
 ·rw [hea, List.length_append, List.length_singleton]
  rcases add_segs (st := st) (p := p) with ⟨_, h1⟩ | ⟨_, S1, z', h2, h1⟩
  ·rw [h1] at hz
   rcases List.mem_append.1 hz with hz | hz
   ·have := h.no z hz; omega
   ·obtain rfl := List.mem_singleton.1 hz
    simp only
    omega
  ·rw [h1] at hz
   rcases List.mem_append.1 hz with hz | hz
   ·have := h.no z (by rw [h2]; exact List.mem_append_left _ hz); omega
   ·obtain rfl := List.mem_singleton.1 hz
    have := h.no z' (by rw [h2]; simp)
    simp only
    omega
 ·rw [hea, List.length_append, List.length_singleton]; omega
 ·rcases add_segs (st := st) (p := p) with ⟨_, h1⟩ | ⟨_, S1, z', h2, h1⟩
  ·rw [h1, List.length_append, List.length_singleton]; omega
  ·rw [h2] at hsg
   rw [h1]
   simp only [List.length_append, List.length_singleton] at hsg ⊢
   omega
 ·rcases add_segs (st := st) (p := p) with ⟨_, h1⟩ | ⟨_, S1, z', h2, h1⟩
  ·rw [h1] at hz
   rcases List.mem_append.1 hz with hz | hz
   ·have := h.big z hz; omega
   ·obtain rfl := List.mem_singleton.1 hz
    simp only
    omega
  ·rw [h1] at hz
   rcases List.mem_append.1 hz with hz | hz
   ·have := h.big z (by rw [h2]; exact List.mem_append_left _ hz); omega
   ·obtain rfl := List.mem_singleton.1 hz
    have := h.big z' (by rw [h2]; simp)
    simp only
    omega
theorem fit_app {k : Nat} {P : ByteArray} {s : DSt} {st : LSt} (h : Fit k P s st) (hk : k ≤ 100000) (p : List UInt8) : Fit (k + 1) P (appS P s st p).2.1 (appS P s st p).2.2 := by
 have hm := fun {s : DSt} {st : LSt} (h : Fit k P s st) => h.mono (Nat.le_succ k)
 unfold appS
 split
 ·exact hm h
 ·split
  ·exact hm h
  ·next hpl =>
   have h1 := fit_pre h
   split
   ·simp only
    have h2 := wr_ok h1.ok (toN P st) (entL (st.ents.length + 1) p)
    split
    ·exact fit_add h1 hk (by omega) h2
    ·exact hm ((⟨by rw [h2.2]; exact h1.room, h2.1, h1.hne, h1.hsl, h1.no, h1.ents, h1.segs, h1.big⟩ : Fit k P _ _).dead _)
   ·exact hm (h1.dead _)
theorem wr_data {s : DSt} {x : ByteArray} {b : List UInt8} (h : (wrS s x b).1 = 0) : (wrS s x b).2.files = wrFiles s.files x b := by
 obtain ⟨_, _, h3⟩ := five_yes h
 unfold wrS
 rw [h3]
theorem wr_rd (l : Files) (x : ByteArray) (b : List UInt8) (y : ByteArray) : (rdS (wrFiles l x b) y).1 = if y = x then (rdS l x).1 ++ b else (rdS l y).1 := by
 unfold wrFiles
 cases hg : gget l x with
 | none =>
  simp only
  unfold rdS
  rw [gget_is]
  by_cases hy : y = x
  ·rw [if_pos hy, if_pos hy, hg]; rfl
  ·rw [if_neg hy, if_neg hy]
 | some c =>
  simp only
  unfold rdS
  rw [gget_is]
  by_cases hy : y = x
  ·rw [if_pos hy, if_pos hy, hg]
  ·rw [if_neg hy, if_neg hy]
theorem wr_keys {l : Files} {x : ByteArray} {b : List UInt8} {p : ByteArray × FileS} (h : p ∈ wrFiles l x b) : p.1 = x ∨ ∃ q ∈ l, q.1 = p.1 := by
 unfold wrFiles at h
 split at h
 ·exact gset_mem_key h
 ·exact gset_mem_key h
theorem whole_add {k : Nat} {P : ByteArray} {s : DSt} {st : LSt} (h : Whole P s st) (hF : Fit k P s st) (hk : k ≤ 100000) {p b : List UInt8} (hb : b = entL (st.ents.length + 1) p) {s' : DSt} (hs : s'.files = wrFiles s.files (toN P st) b) : Whole P s' (addS st p) := by
 have he := hF.ents
 have hea : (addS st p).ents = st.ents ++ [p] := rfl
 rcases add_segs (st := st) (p := p) with ⟨hf, h1⟩ | ⟨hf, S1, z', h2, h1⟩
 ·have hto : toN P st = bnm P (st.ents.length + 1) := by unfold toN; rw [if_pos hf]
  have hlt : ∀ z ∈ st.segs, z.1 < st.ents.length + 1 := by
   rcases segs_cases st with h3 | ⟨S1, z, h3⟩
   ·rw [h3]; exact fun _ h => (by cases h)
   ·rw [fresh_last h3, decide_eq_true_iff] at hf
    have h4 := h.pos z (by rw [h3]; simp) (by omega)
    have h5 := h.rise
    rw [h3] at h5 ⊢
    intro y hy
    rcases List.mem_append.1 hy with hy | hy
    ·have := (List.pairwise_append.1 h5).2.2 y hy z (List.mem_singleton.2 rfl)
     omega
    ·obtain rfl := List.mem_singleton.1 hy
     omega
  have hno : (rdS s.files (toN P st)).1 = [] := by
   refine rd_none ?_
   rw [gget_none_iff]
   intro hm
   obtain ⟨q, hq, e⟩ := List.mem_map.1 hm
   rw [hto] at e
   obtain ⟨z, hz, e2⟩ := h.only q hq (by rw [e]; exact bnm_seg (by omega))
   have e3 := bnm_inj (e.symm.trans e2)
   have := hlt z hz
   omega
  refine ⟨fun S2 z hz => ?_, fun q hq hx => ?_, ?_, fun z hz hp => ?_⟩
  ·rw [h1] at hz
   have e4 := List.append_inj_right' hz rfl
   injection e4 with e4
   rw [hs, wr_rd, ← e4, hto, if_pos rfl, ← hto, hno, ← hb]
   rfl
  ·rw [h1]
   rw [hs] at hq
   rcases wr_keys hq with e | ⟨q', hq', e⟩
   ·exact ⟨_, List.mem_append_right _ (List.mem_singleton.2 rfl), by rw [e, hto]⟩
   ·rw [← e] at hx ⊢
    obtain ⟨z, hz, e2⟩ := h.only q' hq' hx
    exact ⟨z, List.mem_append_left _ hz, e2⟩
  ·rw [h1]
   refine List.pairwise_append.2 ⟨h.rise, List.pairwise_singleton _ _, fun y hy z hz => ?_⟩
   obtain rfl := List.mem_singleton.1 hz
   exact hlt y hy
  ·rw [hea, List.length_append, List.length_singleton]
   rw [h1] at hz
   rcases List.mem_append.1 hz with hz | hz
   ·have := hlt z hz; omega
   ·obtain rfl := List.mem_singleton.1 hz
    exact Nat.le_refl _
 ·have hto : toN P st = bnm P z'.1 := by unfold toN; rw [if_neg (by rw [hf]; simp), lastNo_last h2]
  have hr := h.rise
  rw [h2] at hr
  obtain ⟨hr1, _, hr2⟩ := List.pairwise_append.1 hr
  refine ⟨fun S2 z hz => ?_, fun q hq hx => ?_, ?_, fun z hz hp => ?_⟩
  ·rw [h1] at hz
   have e4 := List.append_inj_right' hz rfl
   injection e4 with e4
   rw [hs, wr_rd, ← e4, hto]
   rw [if_pos rfl, List.length_append, h.tr S1 z' h2, hb]
  ·rw [h1]
   rw [hs] at hq
   have hlast : ∀ q' ∈ s.files, isSegN P q'.1 = true → ∃ z ∈ S1 ++ [(z'.1, z'.2 + (entL (st.ents.length + 1) p).length)], q'.1 = bnm P z.1 := fun q' hq' hx' => by
    obtain ⟨z, hz, e2⟩ := h.only q' hq' hx'
    rw [h2] at hz
    rcases List.mem_append.1 hz with hz | hz
    ·exact ⟨z, List.mem_append_left _ hz, e2⟩
    ·obtain rfl := List.mem_singleton.1 hz
     exact ⟨_, List.mem_append_right _ (List.mem_singleton.2 rfl), e2⟩
   rcases wr_keys hq with e | ⟨q', hq', e⟩
   ·exact ⟨_, List.mem_append_right _ (List.mem_singleton.2 rfl), by rw [e, hto]⟩
   ·rw [← e] at hx ⊢
    exact hlast q' hq' hx
  ·rw [h1]
   refine List.pairwise_append.2 ⟨hr1, List.pairwise_singleton _ _, fun y hy z hz => ?_⟩
   obtain rfl := List.mem_singleton.1 hz
   exact hr2 y hy z' (List.mem_singleton.2 rfl)
  ·rw [hea, List.length_append, List.length_singleton]
   rw [h1] at hz
   rcases List.mem_append.1 hz with hz | hz
   ·have := hF.no z (by rw [h2]; exact List.mem_append_left _ hz); omega
   ·obtain rfl := List.mem_singleton.1 hz
    have := hF.no z' (by rw [h2]; simp)
    simp only
    omega
theorem whole_app {k : Nat} {P : ByteArray} {s : DSt} {st : LSt} (h : Whole P s st) (hF : Fit k P s st) (hk : k ≤ 100000) (p : List UInt8) (hd0 : st.dead = false) (hdead : (appS P s st p).2.2.dead = false) : Whole P (appS P s st p).2.1 (appS P s st p).2.2 := by
 have hsame := pre_same P s st
 have h1 := h.same (pre_data P s st) hsame.1 hsame.2.1
 have hF1 := fit_pre hF
 unfold appS at hdead ⊢
 rw [if_neg (by rw [hd0]; simp)] at hdead ⊢
 split
 ·exact h
 ·next hpl =>
  rw [if_neg hpl] at hdead
  split
  ·next h2 =>
   rw [if_pos h2] at hdead
   simp only at hdead ⊢
   split
   ·next h3 =>
    have hto : toN P (preS P s st).2.2 = toN P st := by
     unfold toN freshS lastNo
     rw [hsame.1, hsame.2.1]
    refine whole_add h1 hF1 hk (b := entL (st.ents.length + 1) p) (by rw [hsame.1]) ?_
    rw [hto]
    exact wr_data h3
   ·next h3 =>
    have e : (wrS (preS P s st).2.1 (toN P st) (entL (st.ents.length + 1) p)).2 = (preS P s st).2.1 := five_no h3
    rw [e]
    exact h1.same (SameData.refl _) rfl rfl
  ·next h2 =>
   rw [if_neg h2] at hdead
   simp only [decide_eq_false_iff_not, ne_eq, Decidable.not_not] at hdead
   exact absurd hdead (pre_not6 P s st)
end Go.Proofs.YtdibkdgafidjgaaGreatDoor

