/-
  Texts laid together: WFree, WManyP, WKeepsP.
-/
import Derived.Test.YtdibkdgafidjgaaGreatDoorWd4
namespace Go.Proofs.YtdibkdgafidjgaaGreatDoor
open Go.RowKit Go.Mer
theorem bnm_size (P : ByteArray) {n : Nat} (hn : n < 100000000) : (bnm P n).size = P.size + 8 := by
 show (nameL P.data.toList n).toArray.size = _
 rw [List.size_toArray, nameL_len _ hn, Array.length_toList]
 rfl
theorem bnm_ok {P : ByteArray} (hP : P.size ≤ 50) {n : Nat} (hn : n < 100000000) : nameOk (bnm P n) = true := by
 unfold nameOk
 rw [bnm_size P hn, Bool.and_eq_true, decide_eq_true_iff, decide_eq_true_iff]
 omega
theorem seg_size {P y : ByteArray} (h : isSegN P y = true) : y.size = P.size + 8 := by
 unfold isSegN at h
 rw [Option.isSome_iff_exists] at h
 obtain ⟨m, hm⟩ := h
 obtain ⟨d, h1, h2, _⟩ := segNo_some hm
 have := congrArg List.length h1
 rw [List.length_append, h2, Array.length_toList, Array.length_toList] at this
 exact this
theorem len_gset {β : Type} (l : List (ByteArray × β)) (k : ByteArray) (v : β) : (gset l k v).length ≤ l.length + 1 := by
 unfold gset
 split
 ·rw [List.length_map]; omega
 ·rw [List.length_append, List.length_singleton]; exact Nat.le_refl _
theorem len_gset_old {β : Type} {l : List (ByteArray × β)} {k : ByteArray} {c : β} (v : β) (h : gget l k = some c) : (gset l k v).length = l.length := by
 unfold gset
 rw [if_pos (List.mem_map.2 ⟨_, gget_mem h, rfl⟩), List.length_map]
theorem wr_freeF {s : DSt} (h : Free s) (x : ByteArray) (b : List UInt8) : Free (wrS s x b).2 := by
 obtain ⟨h1, h2⟩ := wr_ok h.ok x b
 refine ⟨?_, ?_, h1⟩
 ·unfold wrS five
  split
  ·exact h.fuse
  ·split
   ·split
    ·simp [h.fuse]
    ·exact h.fuse
   ·exact h.fuse
 ·rcases five_keep s [x] (wrCode s x b) (wrFiles s.files x b) with e | ⟨_, e⟩
  ·unfold wrS; rw [e]; exact h.nodup
  ·unfold wrS; rw [e]
   unfold wrFiles
   split
   ·exact gset_nodup h.nodup
   ·exact gset_nodup h.nodup
structure Roomy (s : DSt) (T N : Nat) : Prop where
 free : Free s
 room : s.room = 1048576
 tot : totF s.files ≤ T
 len : s.files.length ≤ N
def Others (P : ByteArray) (s s' : DSt) : Prop := ∀ y, isSegN P y = false → gget s'.files y = gget s.files y
theorem Others.refl (P : ByteArray) (s : DSt) : Others P s s := fun _ _ => rfl
section
variable {P : ByteArray} {s : DSt} {st : LSt} {A : List Grp} {T N : Nat}
theorem syncs_free (h : Laid P s st A) (hr : Roomy s T N) (hn : st.ents.length < 900000) : (syncsS P s st).1 = 0 ∧ Roomy (syncsS P s st).2.1 T N ∧ (syncsS P s st).2.2.dead = st.dead ∧ Others P s (syncsS P s st).2.1 := by
 unfold syncsS
 split
 ·next hlt =>
  rcases snoc_cases A with rfl | ⟨A0, g, rfl⟩
  ·have := h.ents
   rw [this] at hlt
   exact absurd hlt (Nat.not_lt_zero _)
  ·have hlast : st.segs.getLast? = some (g.1, (layL g.1 g.2).length) := by rw [h.segs, segsA_snoc]; simp
   rw [hlast]
   simp only
   obtain ⟨c, hc⟩ := get_ex (h.key g (by simp))
   obtain ⟨h1, h2⟩ := sy_free hr.free hc
   rw [h1, if_pos rfl]
   have ht := totF_gset (y := ⟨c.data, c.data.length⟩) hr.free.nodup hc
   simp only at ht
   refine ⟨rfl, ⟨h2, hr.room, ?_, ?_⟩, rfl, fun y hy => ?_⟩
   ·have := hr.tot; simp only; omega
   ·simp only; rw [len_gset_old _ hc]; exact hr.len
   ·show gget (gset s.files (bnm P g.1) _) y = _
    rw [gget_gset_ne]
    rintro rfl
    rw [bnm_seg (by have := h.few hn g (by simp); omega)] at hy
    cases hy
 ·exact ⟨rfl, hr, rfl, Others.refl _ _⟩
theorem pre_free (h : Laid P s st A) (hr : Roomy s T N) (hn : st.ents.length < 900000) : (preS P s st).1 = 0 ∧ Roomy (preS P s st).2.1 T N ∧ (preS P s st).2.2.dead = st.dead ∧ Others P s (preS P s st).2.1 := by
 unfold preS
 split
 ·exact syncs_free h hr hn
 ·exact ⟨rfl, hr, rfl, Others.refl _ _⟩
theorem snc_free (h : Laid P s st A) (hr : Roomy s T N) (hd : st.dead = false) (hn : st.ents.length < 900000) : (sncS P s st).1 = 0 ∧ Roomy (sncS P s st).2.1 T N ∧ (sncS P s st).2.2.dead = false ∧ (sncS P s st).2.2.segs = st.segs ∧ Others P s (sncS P s st).2.1 := by
 obtain ⟨h1, h2, h3, h4⟩ := syncs_free h hr hn
 obtain ⟨_, _, _, k4, _⟩ := laid_syncs h hn
 unfold sncS
 rw [if_neg (by rw [hd]; simp)]
 exact ⟨h1, h2, by simp [h1], k4, h4⟩
theorem to_ok (h : Laid P s st A) (hP : P.size ≤ 50) (hn : st.ents.length < 900000) : ∃ n, n < 100000000 ∧ toN P st = bnm P n := by
 unfold toN
 split
 ·exact ⟨_, by omega, rfl⟩
 ·rcases snoc_cases A with rfl | ⟨A0, g, rfl⟩
  ·next hf => exact absurd (fresh_none (by rw [h.segs]; rfl)) hf
  ·have hsg : st.segs = segsA A0 ++ [(g.1, (layL g.1 g.2).length)] := by rw [h.segs, segsA_snoc]
   rw [lastNo_last hsg]
   exact ⟨g.1, by have := h.few hn g (by simp); omega, rfl⟩
theorem app_free (h : Laid P s st A) (hr : Roomy s T N) (hP : P.size ≤ 50) (hd : st.dead = false) (hn : st.ents.length < 900000) {p : List UInt8} (hp : p.length ≤ 262134) (hT : T + (p.length + 16) ≤ 1048576) (hN : N < 4096) :
  (appS P s st p).1 = (st.ents.length + 1, 0) ∧ Roomy (appS P s st p).2.1 (T + (p.length + 16)) (N + 1) ∧ (appS P s st p).2.2.dead = false ∧ (appS P s st p).2.2.segs = (addS st p).segs ∧ Others P s (appS P s st p).2.1 := by
 obtain ⟨h1, h2, h3, h4⟩ := pre_free h hr hn
 obtain ⟨k1, k2, k3, k4, k5⟩ := laid_pre h hn
 obtain ⟨m, hm, hto⟩ := to_ok h hP hn
 have hel : (entL (st.ents.length + 1) p).length ≤ p.length + 16 := by
  have hl := numL_length 3 (st.ents.length + 1) (by omega)
  unfold entL
  rw [frameL_length, List.length_append]
  omega
 obtain ⟨s2, hs2⟩ : ∃ s2, s2 = (preS P s st).2.1 := ⟨_, rfl⟩
 obtain ⟨st2, hst2⟩ : ∃ st2, st2 = (preS P s st).2.2 := ⟨_, rfl⟩
 rw [← hs2] at h2 h4
 rw [← hst2] at h3 k3 k4
 have hcode : wrCode s2 (toN P st) (entL (st.ents.length + 1) p) = 0 := by
  unfold wrCode
  rw [if_neg]
  have a1 := h2.room
  have a2 := h2.tot
  have a3 := h2.len
  rintro (e | ⟨_, e⟩)
  ·omega
  ·omega
 have hwr : wrS s2 (toN P st) (entL (st.ents.length + 1) p) = (0, { s2 with files := wrFiles s2.files (toN P st) (entL (st.ents.length + 1) p) }) := by
  unfold wrS
  rw [hcode, five_free h2.free.fuse (by rw [hto]; exact bnm_ok hP hm), if_pos rfl]
 have happ : appS P s st p = ((st.ents.length + 1, 0), { s2 with files := wrFiles s2.files (toN P st) (entL (st.ents.length + 1) p) }, addS st2 p) := by
  unfold appS
  rw [if_neg (by rw [hd]; simp), if_neg (by omega), if_pos h1, ← hs2, ← hst2]
  simp only [hwr, if_true]
 rw [happ]
 have hsd : (addS st2 p).segs = (addS st p).segs := by
  unfold addS freshS bump
  rw [k3, k4]
 refine ⟨rfl, ⟨?_, h2.room, ?_, ?_⟩, h3.trans hd, hsd, fun y hy => ?_⟩
 ·have := wr_freeF h2.free (toN P st) (entL (st.ents.length + 1) p)
  rw [hwr] at this
  exact this
 ·show totF (wrFiles s2.files _ _) ≤ _
  unfold wrFiles
  cases hg : gget s2.files (toN P st) with
  | none =>
   simp only
   rw [totF_gset_new hg]
   have := h2.tot
   simp only
   omega
  | some c =>
   simp only
   have ht := totF_gset (y := ⟨c.data ++ entL (st.ents.length + 1) p, c.lasts⟩) h2.free.nodup hg
   have := h2.tot
   simp only [List.length_append] at ht
   omega
 ·show (wrFiles s2.files _ _).length ≤ _
  unfold wrFiles
  have := h2.len
  split
  ·exact Nat.le_trans (len_gset _ _ _) (by omega)
  ·exact Nat.le_trans (len_gset _ _ _) (by omega)
 ·show gget (wrFiles s2.files _ _) y = _
  rw [← h4 y hy]
  have hne : y ≠ toN P st := by
   rintro rfl
   rw [hto, bnm_seg hm] at hy
   cases hy
  unfold wrFiles
  split
  ·rw [gget_gset_ne _ _ hne]
  ·rw [gget_gset_ne _ _ hne]
theorem Laid.others {s' : DSt} {Q : ByteArray} (h : Laid P s st A) (ho : Others Q s s') (hPQ : P.size ≠ Q.size) (hn : st.ents.length < 900000) : Laid P s' st A := by
 have hg : ∀ y, isSegN P y = true → gget s'.files y = gget s.files y := fun y hy => ho y (by
  cases hb : isSegN Q y with
  | false => rfl
  | true =>
   exfalso
   have := seg_size hy
   have := seg_size hb
   omega)
 exact h.turn rfl rfl rfl (fun y hy => by rw [key_get, key_get, hg y hy]) (fun y hy => by unfold rdS; rw [hg y hy]) (fun y hy => by unfold lastsOf; rw [hg y hy]; exact Nat.le_refl _) hn
end
theorem crS_freeF {s : DSt} (hok : FilesOk s.files) (hn : (s.files.map (·.1)).Nodup) (keep : Int) (t : UInt8) : Free (crS s keep t) := by
 have hcr := cr_ok hok keep t
 refine ⟨hcr.2.2, ?_, hcr.1⟩
 show ((s.files.map fun p => (p.1, crF keep t p.2)).map (·.1)).Nodup
 rw [List.map_map]
 exact hn
theorem crS_fullT {s : DSt} (h : FullF s.files) (keep : Int) (t : UInt8) : (crS s keep t).files = s.files := by
 show s.files.map (fun p => (p.1, crF keep t p.2)) = s.files
 conv => rhs; rw [← List.map_id s.files]
 refine List.map_congr_left fun p hp => ?_
 have hl := h p hp
 obtain ⟨x, d, la⟩ := p
 simp only at hl
 subst hl
 have hs : stays keep ⟨d, d.length⟩ = d.length := by
  unfold stays
  simp only [Nat.sub_self, Nat.zero_add, Nat.mod_one, Nat.add_zero]
 simp only [id_eq, crF, hs, List.take_length, Prod.mk.injEq, FileS.mk.injEq, and_true, true_and]
 unfold torn
 refine List.ext_getElem? fun i => ?_
 rw [List.getElem?_mapIdx]
 have : ¬ (max d.length ((d.length - 1) / 16 * 16) ≤ i ∧ i < d.length) := by omega
 simp only [if_neg this]
 simp
theorem Laid.fullAt {P : ByteArray} {s : DSt} {st : LSt} {A : List Grp} (h : Laid P s st A) (hf : Free s) (hs : st.synced = st.ents.length) (hle : ∀ q ∈ s.files, q.2.lasts ≤ q.2.data.length) : ∀ q ∈ s.files, isSegN P q.1 = true → q.2.lasts = q.2.data.length := fun q hq hx => by
 obtain ⟨g, hg, e⟩ := h.only q hq hx
 have h1 := h.all hs g hg
 have hget : gget s.files (bnm P g.1) = some q.2 := by
  rw [← e]
  exact gget_some hf.nodup (k := q.1) (v := q.2) hq
 rw [lasts_get hget] at h1
 have h2 := h.data g hg
 rw [rd_get hget] at h2
 rw [← h2] at h1
 have := hle q hq
 omega
end Go.Proofs.YtdibkdgafidjgaaGreatDoor
namespace Go.Proofs.YtdibkdgafidjgaaGreatDoor
open Go.RowKit Go.Mer
def rowM (size i : Nat) : List UInt8 := (List.replicate size 0).set (i % size) (UInt8.ofNat i)
theorem rowM_len (size i : Nat) : (rowM size i).length = size := by unfold rowM; simp
def entsM (size n : Nat) : List (List UInt8) := (List.range n).map (rowM size)
theorem entsM_len (size n : Nat) : (entsM size n).length = n := by unfold entsM; simp
theorem entsM_succ (size n : Nat) : entsM size (n + 1) = entsM size n ++ [rowM size n] := by unfold entsM; rw [List.range_succ, List.map_append]; rfl
def SegB (size : Nat) (S : List (Nat × Nat)) : Prop := (∀ z ∈ S, z.2 ≤ 1024 + size + 30) ∧ ∀ S1 z, S = S1 ++ [z] → ∀ y ∈ S1, 1024 ≤ y.2
structure ManyI (size i : Nat) (P : ByteArray) (s : DSt) (st : LSt) (A : List Grp) : Prop where
 laid : Laid P s st A
 roomy : Roomy s (i * (size + 16)) i
 dead : st.dead = false
 ents : st.ents = entsM size i
 segs : SegB size st.segs
 only : ∀ q ∈ s.files, isSegN P q.1 = true
theorem many0 (size : Nat) (P : ByteArray) : ManyI size 0 P ⟨1048576, none, []⟩ st0 [] :=
 ⟨laid0 P _, ⟨⟨rfl, List.nodup_nil, fun _ h => (by cases h)⟩, rfl, by simp [totF_nil], Nat.le_refl _⟩, rfl, rfl, ⟨fun _ h => (by cases h), fun S1 z h => (by cases S1 <;> cases h)⟩, fun _ h => (by cases h)⟩
theorem only_others {P : ByteArray} {s s' : DSt} (ho : Others P s s') (h : ∀ q ∈ s.files, isSegN P q.1 = true) : ∀ q ∈ s'.files, isSegN P q.1 = true := fun q hq => by
 cases hb : isSegN P q.1 with
 | true => rfl
 | false =>
  exfalso
  have h1 := ho q.1 hb
  have h2 : q.1 ∈ s'.files.map (·.1) := List.mem_map.2 ⟨q, hq, rfl⟩
  rw [key_get, h1, ← key_get] at h2
  obtain ⟨q', hq', e⟩ := List.mem_map.1 h2
  have := h q' hq'
  rw [e, hb] at this
  cases this
theorem segB_add {size : Nat} {st : LSt} {p : List UInt8} (h : SegB size st.segs) (hp : (entL (st.ents.length + 1) p).length ≤ size + 16) : SegB size (addS st p).segs := by
 rcases add_segs (st := st) (p := p) with ⟨hf, h1⟩ | ⟨hf, S1, z, h2, h1⟩
 ·rw [h1]
  refine ⟨fun y hy => ?_, fun S2 y hS x hx => ?_⟩
  ·rcases List.mem_append.1 hy with hy | hy
   ·exact h.1 y hy
   ·obtain rfl := List.mem_singleton.1 hy
    simp only
    omega
  ·obtain ⟨rfl, rfl⟩ := snoc_inj hS
   rcases snoc_cases st.segs with e | ⟨S3, y, e⟩
   ·rw [e] at hx; cases hx
   ·rw [fresh_last e, decide_eq_true_iff] at hf
    rw [e] at hx
    rcases List.mem_append.1 hx with hx | hx
    ·exact h.2 S3 y e x hx
    ·obtain rfl := List.mem_singleton.1 hx
     exact hf
 ·rw [h1]
  rw [fresh_last h2, decide_eq_false_iff_not] at hf
  refine ⟨fun y hy => ?_, fun S2 y hS x hx => ?_⟩
  ·rcases List.mem_append.1 hy with hy | hy
   ·exact h.1 y (by rw [h2]; exact List.mem_append_left _ hy)
   ·obtain rfl := List.mem_singleton.1 hy
    simp only
    omega
  ·obtain ⟨rfl, rfl⟩ := snoc_inj hS
   exact h.2 S1 z h2 x hx
theorem many_app {size i : Nat} {P : ByteArray} {s : DSt} {st : LSt} {A : List Grp} (h : ManyI size i P s st A) (hi : i < 300) (hs : size ≤ 200) (hP : P.size ≤ 50) :
  (appS P s st (rowM size i)).1 = (i + 1, 0) ∧ ∃ A', ManyI size (i + 1) P (appS P s st (rowM size i)).2.1 (appS P s st (rowM size i)).2.2 A' := by
 have hl : st.ents.length = i := by rw [h.ents, entsM_len]
 have hrl := rowM_len size i
 have hT : i * (size + 16) + ((rowM size i).length + 16) ≤ 1048576 := by
  rw [hrl]
  have : i * (size + 16) ≤ 300 * 216 := Nat.mul_le_mul (by omega) (by omega)
  omega
 obtain ⟨h1, h2, h3, h4, h5⟩ := app_free h.laid h.roomy hP h.dead (by omega) (p := rowM size i) (by omega) hT (by omega)
 obtain ⟨A', k1, k2, _, _⟩ := laid_app h.laid (by omega) (rowM size i)
 rw [hl] at h1
 have hel : (entL (st.ents.length + 1) (rowM size i)).length ≤ size + 16 := by
  have := numL_length 3 (st.ents.length + 1) (by omega)
  unfold entL
  rw [frameL_length, List.length_append, hrl]
  omega
 refine ⟨h1, A', k1, ⟨h2.free, h2.room, ?_, h2.len⟩, h3, ?_, ?_, only_others h5 h.only⟩
 ·have := h2.tot
  rw [hrl] at this
  rw [Nat.succ_mul]
  exact this
 ·rw [k2 (by rw [h1]), h.ents, entsM_succ]
 ·rw [h4]
  exact segB_add h.segs hel
theorem many_seg {size i : Nat} {P : ByteArray} {s : DSt} {st : LSt} {A : List Grp} (h : ManyI size i P s st A) {k : Nat} (hk : k < st.segs.length) : (rdS s.files (bnm P (st.segs[k]).1)).1.length = (st.segs[k]).2 := by
 have hs := h.laid.segs
 have hkA : k < A.length := by rw [hs] at hk; unfold segsA at hk; rwa [List.length_map] at hk
 have e : st.segs[k] = (A[k].1, (layL A[k].1 A[k].2).length) := by
  simp only [hs, segsA, List.getElem_map]
 rw [e]
 simp only
 rw [h.laid.data _ (List.getElem_mem hkA)]
theorem many_mid {size i : Nat} {P : ByteArray} {s : DSt} {st : LSt} {A : List Grp} (h : ManyI size i P s st A) {k : Nat} (hk : k + 1 < st.segs.length) : 1024 ≤ (st.segs[k]'(by omega)).2 ∧ (st.segs[k]'(by omega)).2 ≤ 1024 + size + 30 := by
 refine ⟨?_, h.segs.1 _ (List.getElem_mem _)⟩
 rcases snoc_cases st.segs with e | ⟨S1, z, e⟩
 ·rw [e] at hk; simp at hk
 ·have hk1 : k < S1.length := by rw [e, List.length_append, List.length_singleton] at hk; omega
  have : st.segs[k]'(by omega) = S1[k] := by simp only [e]; rw [List.getElem_append_left hk1]
  rw [this]
  exact h.segs.2 S1 z e _ (List.getElem_mem hk1)
theorem many_end {size n : Nat} {P : ByteArray} {s : DSt} {st : LSt} {A : List Grp} (h : ManyI size n P s st A) (hn : n ≤ 300) (keep : Int) (t : UInt8) (hle : ∀ q ∈ (sncS P s st).2.1.files, q.2.lasts ≤ q.2.data.length) :
  (sncS P s st).1 = 0 ∧ Free (crS (sncS P s st).2.1 keep t) ∧ (crS (sncS P s st).2.1 keep t).room = 1048576 ∧ ∃ s' st', openS P (crS (sncS P s st).2.1 keep t) (nmS (crS (sncS P s st).2.1 keep t).files) = (0, s', st') ∧ Opened P (crS (sncS P s st).2.1 keep t) s' st' ∧ st'.ents = entsM size n ∧ st'.segs = st.segs := by
 have hl : st.ents.length = n := by rw [h.ents, entsM_len]
 obtain ⟨h1, h2, h3, h4, h5⟩ := snc_free h.laid h.roomy h.dead (by omega)
 obtain ⟨k1, k2, k3, _⟩ := laid_snc h.laid (by omega)
 have hsy := k2 h1
 rw [← k3] at hsy
 have hon := only_others h5 h.only
 have hfull : FullF (sncS P s st).2.1.files := fun q hq => k1.fullAt h2.free hsy hle q hq (hon q hq)
 have hfr : Free (crS (sncS P s st).2.1 keep t) := crS_freeF h2.free.ok h2.free.nodup keep t
 have hla : Laid P (crS (sncS P s st).2.1 keep t) (sncS P s st).2.2 A := k1.disk (crS_fullT hfull keep t)
 obtain ⟨s', st', o1, o2, o3, o4⟩ := laid_open hla hfr (by rw [k3]; omega)
 exact ⟨h1, hfr, h2.room, s', st', o1, o2, by rw [o3, ← k1.ents, k3, h.ents], by rw [o4, ← h.laid.segs]⟩
theorem many_first {size n : Nat} {P : ByteArray} {s : DSt} {st : LSt} {A : List Grp} (h : ManyI size n P s st A) (hn : 1 ≤ n) : ∃ h0 : 0 < st.segs.length, (st.segs[0]'h0).1 = 1 := by
 have hl : st.ents.length = n := by rw [h.ents, entsM_len]
 have hs := h.laid.segs
 cases hA : A with
 | nil => rw [h.laid.ents, hA] at hl; simp [entsA] at hl; omega
 | cons g B =>
  have hc := h.laid.chain
  rw [hA] at hc
  have h0 : 0 < st.segs.length := by rw [hs, hA]; simp [segsA]
  refine ⟨h0, ?_⟩
  simp only [hs, hA, segsA, List.map_cons, List.getElem_cons_zero]
  exact hc.1
end Go.Proofs.YtdibkdgafidjgaaGreatDoor
namespace Go.Proofs.YtdibkdgafidjgaaGreatDoor
open Go.RowKit Go.Mer
theorem crS_get (s : DSt) (keep : Int) (t : UInt8) (y : ByteArray) : gget (crS s keep t).files y = (gget s.files y).map (crF keep t) := gget_mapv _ _ _
theorem crF_full {c : FileS} (h : c.lasts = c.data.length) (keep : Int) (t : UInt8) : (crF keep t c).data = c.data := by
 obtain ⟨d, la⟩ := c
 simp only at h
 subst h
 have hs : stays keep ⟨d, d.length⟩ = d.length := by
  unfold stays
  simp only [Nat.sub_self, Nat.zero_add, Nat.mod_one, Nat.add_zero]
 simp only [crF, hs, List.take_length]
 rw [torn_tornF t (Nat.le_refl _), tornF_no (by omega)]
theorem keeps_open {P : ByteArray} {s : DSt} {st : LSt} {A : List Grp} (h : Laid P s st A) (hn : st.ents.length < 900000) (hok : FilesOk s.files) (hnd : (s.files.map (·.1)).Nodup) (hle : ∀ q ∈ s.files, q.2.lasts ≤ q.2.data.length) (keep : Int) (t : UInt8) :
  ∃ s' st', openS P (crS s keep t) (nmS (crS s keep t).files) = (0, s', st') ∧ Opened P (crS s keep t) s' st' ∧ ∃ j e, st'.ents = st.ents.take j ++ e ∧ j + e.length ≤ st.ents.length ∧ e.length ≤ 1 ∧ st.synced ≤ j := by
 obtain ⟨s3, hs3⟩ : ∃ s3, s3 = crS s keep t := ⟨_, rfl⟩
 have hfr : Free s3 := by rw [hs3]; exact crS_freeF hok hnd keep t
 rw [← hs3]
 obtain ⟨s', st', o1, o2⟩ := open_free P hfr
 refine ⟨s', st', o1, o2, ?_⟩
 have hkeys : ∀ y, y ∈ s3.files.map (·.1) ↔ y ∈ s.files.map (·.1) := fun y => by
  rw [key_get, key_get, hs3, crS_get]
  cases gget s.files y <;> simp
 have honly : ∀ p ∈ s3.files, isSegN P p.1 = true → ∃ g ∈ A, p.1 = bnm P g.1 := fun p hp hx => by
  obtain ⟨q, hq, e⟩ := List.mem_map.1 ((hkeys p.1).1 (List.mem_map.2 ⟨p, hp, rfl⟩))
  rw [← e] at hx ⊢
  exact h.only q hq hx
 have ho : (nmS s3.files).filter (isSegN P) = A.map fun g => bnm P g.1 := by
  have := segs_order (P := P) (l := s3.files) (S := A.map (·.1)) hfr.nodup (chain_rise A 1 h.chain) (fun n hn' => by
   obtain ⟨g, hg, rfl⟩ := List.mem_map.1 hn'
   have := h.few hn g hg
   omega) (fun n hn' => by
   obtain ⟨g, hg, rfl⟩ := List.mem_map.1 hn'
   exact (hkeys _).2 (h.key g hg)) (fun p hp hx => by
   obtain ⟨g, hg, e⟩ := honly p hp hx
   exact ⟨g.1, List.mem_map.2 ⟨g, hg, rfl⟩, e⟩)
  rw [this, List.map_map]
  rfl
 have hsc := o2.scan.1
 rw [ho] at hsc
 rcases snoc_cases A with rfl | ⟨A0, g, rfl⟩
 ·refine ⟨0, [], ?_, ?_, by simp, ?_⟩
  ·rw [hsc]; rfl
  ·simp
  ·have := h.snc; rw [h.ents] at this; exact this
 ·obtain ⟨hc1, hc2, hc3⟩ := h.at_last
  obtain ⟨hl1, hl2⟩ := h.last A0 g rfl
  have hents := h.ents
  rw [entsA_snoc] at hents
  have hd0 : ∀ q ∈ A0, (rdS s3.files (bnm P q.1)).1 = layL q.1 q.2 := fun q hq => by
   obtain ⟨c, hc⟩ := get_ex (h.key q (List.mem_append_left _ hq))
   have h1 := hl1 q hq
   have h2 := h.data q (List.mem_append_left _ hq)
   rw [lasts_get hc] at h1
   rw [rd_get hc] at h2
   have h3 := hle _ (gget_mem hc)
   simp only at h3
   have h4 : gget s3.files (bnm P q.1) = some (crF keep t c) := by rw [hs3, crS_get, hc]; rfl
   rw [rd_get h4, crF_full (by rw [← h2] at h1; omega), h2]
  have hsA0 := scan_lay (l := s3.files) (P := P) A0 st0 hc1 (fun p hp => h.sized p (by rw [hents]; exact List.mem_append_left _ hp)) (by have : st0.ents.length = 0 := rfl; rw [hents, List.length_append] at hn; omega) hd0
  obtain ⟨c, hc⟩ := get_ex (h.key g (by simp))
  have hcd : c.data = layL g.1 g.2 := by rw [← h.data g (by simp), rd_get hc]
  rw [lasts_get hc] at hl2
  have hcl := hle _ (gget_mem hc)
  simp only at hcl
  obtain ⟨σ, hσ⟩ : ∃ σ, σ = stays keep c := ⟨_, rfl⟩
  have hσ1 : c.lasts ≤ σ := by rw [hσ]; unfold stays; omega
  have h4 : gget s3.files (bnm P g.1) = some (crF keep t c) := by rw [hs3, crS_get, hc]; rfl
  have hdat : ∃ a, c.lasts ≤ a ∧ (t ≠ 0 ∨ σ ≤ a) ∧ (rdS s3.files (bnm P g.1)).1 = tornF a t ((layL g.1 g.2).take σ) := by
   have e1 : (rdS s3.files (bnm P g.1)).1 = tornF (max c.lasts ((σ - 1) / 16 * 16)) t ((layL g.1 g.2).take σ) := by
    rw [rd_get h4]
    show torn (c.data.take (stays keep c)) _ _ t = _
    rw [← hσ, torn_tornF t (by rw [List.length_take]; omega), hcd]
   by_cases ht : t = 0
   ·subst ht
    refine ⟨max c.lasts σ, by omega, .inr (by omega), ?_⟩
    rw [e1, tornF_zero, tornF_zero]
   ·exact ⟨_, by omega, .inl ht, e1⟩
  obtain ⟨a, ha1, ha2, hdat⟩ := hdat
  obtain ⟨j, e, t1, t2, t3, t4⟩ := torn_ents g.2 g.1 a σ (fun p hp => h.sized p (by rw [hents]; exact List.mem_append_right _ hp)) (by rw [hents, List.length_append] at hn; omega) ha2
  obtain ⟨st1, hst1⟩ : ∃ st1 : LSt, st1 = { st0 with ents := st0.ents ++ entsA A0, segs := st0.segs ++ segsA A0 } := ⟨_, rfl⟩
  rw [← hst1] at hsA0
  have hs1e : st1.ents = entsA A0 := by rw [hst1]; rfl
  have hfin : (scanS s3.files P st0 ((A0 ++ [g]).map fun g => bnm P g.1)).1.ents = entsA A0 ++ (entsF g.1 (rdS s3.files (bnm P g.1)).1).1 := by
   rw [List.map_append, List.map_cons, List.map_nil]
   have htk : (takeS s3.files P st1 (bnm P g.1)).1.ents = entsA A0 ++ (entsF g.1 (rdS s3.files (bnm P g.1)).1).1 := by
    unfold takeS
    have e0 : st1.ents.length + 1 = g.1 := by rw [hs1e]; omega
    rw [if_pos (by rw [e0]), e0, hs1e]
   by_cases hw : (takeS s3.files P st1 (bnm P g.1)).2 = true
   ·rw [scan_step hsA0 hw]; exact htk
   ·rw [scan_stop (r := []) hsA0 (by simpa using hw)]; exact htk
  rw [hfin, hdat, t1] at hsc
  have hn0 : g.2.length + (entsA A0).length = st.ents.length := by rw [hents, List.length_append]; omega
  have hm := t4 (st.synced - (entsA A0).length) (by have := h.snc; omega) (by omega)
  refine ⟨(entsA A0).length + j, e, ?_, by omega, t3, by omega⟩
  rw [hsc, hents, List.take_length_add_append, List.append_assoc]
theorem app_zero {P : ByteArray} {s : DSt} {st : LSt} {p : List UInt8} (h : (appS P s st p).1.2 = 0) : st.dead = false ∧ (appS P s st p).2.2.dead = false := by
 have hsy : (syncsS P s st).2.2.dead = st.dead := by
  unfold syncsS
  split
  ·split
   ·rfl
   ·simp only
    split <;> rfl
  ·rfl
 have hpr : (preS P s st).2.2.dead = st.dead := by
  unfold preS
  split
  ·exact hsy
  ·rfl
 unfold appS at h ⊢
 split at h
 ·cases h
 ·next hd =>
  have hd' : st.dead = false := by simpa using hd
  rw [if_neg hd]
  split at h
  ·cases h
  ·next hl =>
   rw [if_neg hl]
   split at h
   ·next h0 =>
    rw [if_pos h0]
    simp only at h ⊢
    split at h
    ·next h1 =>
     rw [if_pos h1]
     exact ⟨hd', hpr.trans hd'⟩
    ·next h1 => exact absurd h h1
   ·next h0 => exact absurd h h0
end Go.Proofs.YtdibkdgafidjgaaGreatDoor

