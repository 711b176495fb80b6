/-
  A log on a disk with room and no fuse, plainly: nothing fails.
-/
import Derived.Test.YtdibkdgafidjgaaGreatDoorWd4
namespace Go.Proofs.YtdibkdgafidjgaaGreatDoor
open Go.RowKit Go.Mer
theorem bnm_size (P : ByteArray) {n : Nat} (hn : n < 100000000) : (bnm P n).size = P.size + 8 := by
 show (nameL P.data.toList n).toArray.size = _
 rw [List.size_toArray, nameL_len _ hn, Array.length_toList]
 rfl
theorem bnm_ok {P : ByteArray} (hP : P.size ≤ 50) {n : Nat} (hn : n < 100000000) : nameOk (bnm P n) = true := by
 unfold nameOk
 rw [bnm_size P hn, Bool.and_eq_true, decide_eq_true_iff, decide_eq_true_iff]
 omega
theorem seg_size {P y : ByteArray} (h : isSegN P y = true) : y.size = P.size + 8 := by
 unfold isSegN at h
 rw [Option.isSome_iff_exists] at h
 obtain ⟨m, hm⟩ := h
 obtain ⟨d, h1, h2, _⟩ := segNo_some hm
 have := congrArg List.length h1
 rw [List.length_append, h2, Array.length_toList, Array.length_toList] at this
 exact this
theorem len_gset {β : Type} (l : List (ByteArray × β)) (k : ByteArray) (v : β) : (gset l k v).length ≤ l.length + 1 := by
 unfold gset
 split
 ·rw [List.length_map]; omega
 ·rw [List.length_append, List.length_singleton]; exact Nat.le_refl _
theorem len_gset_old {β : Type} {l : List (ByteArray × β)} {k : ByteArray} {c : β} (v : β) (h : gget l k = some c) : (gset l k v).length = l.length := by
 unfold gset
 rw [if_pos (List.mem_map.2 ⟨_, gget_mem h, rfl⟩), List.length_map]
theorem wr_freeF {s : DSt} (h : Free s) (x : ByteArray) (b : List UInt8) : Free (wrS s x b).2 := by
 obtain ⟨h1, h2⟩ := wr_ok h.ok x b
 refine ⟨?_, ?_, h1⟩
 ·unfold wrS five
  split
  ·exact h.fuse
  ·split
   ·split
    ·simp [h.fuse]
    ·exact h.fuse
   ·exact h.fuse
 ·rcases five_keep s [x] (wrCode s x b) (wrFiles s.files x b) with e | ⟨_, e⟩
  ·unfold wrS; rw [e]; exact h.nodup
  ·unfold wrS; rw [e]
   unfold wrFiles
   split
   ·exact gset_nodup h.nodup
   ·exact gset_nodup h.nodup
structure Roomy (s : DSt) (T N : Nat) : Prop where
 free : Free s
 room : s.room = 1048576
 tot : totF s.files ≤ T
 len : s.files.length ≤ N
def Others (P : ByteArray) (s s' : DSt) : Prop := ∀ y, isSegN P y = false → gget s'.files y = gget s.files y
theorem Others.refl (P : ByteArray) (s : DSt) : Others P s s := fun _ _ => rfl
section
variable {P : ByteArray} {s : DSt} {st : LSt} {A : List Grp} {T N : Nat}
theorem syncs_free (h : Laid P s st A) (hr : Roomy s T N) (hn : st.ents.length < 900000) : (syncsS P s st).1 = 0 ∧ Roomy (syncsS P s st).2.1 T N ∧ (syncsS P s st).2.2.dead = st.dead ∧ Others P s (syncsS P s st).2.1 := by
 unfold syncsS
 split
 ·next hlt =>
  rcases snoc_cases A with rfl | ⟨A0, g, rfl⟩
  ·have := h.ents
   rw [this] at hlt
   exact absurd hlt (Nat.not_lt_zero _)
  ·have hlast : st.segs.getLast? = some (g.1, (layL g.1 g.2).length) := by rw [h.segs, segsA_snoc]; simp
   rw [hlast]
   simp only
   obtain ⟨c, hc⟩ := get_ex (h.key g (by simp))
   obtain ⟨h1, h2⟩ := sy_free hr.free hc
   rw [h1, if_pos rfl]
   have ht := totF_gset (y := ⟨c.data, c.data.length⟩) hr.free.nodup hc
   simp only at ht
   refine ⟨rfl, ⟨h2, hr.room, ?_, ?_⟩, rfl, fun y hy => ?_⟩
   ·have := hr.tot; simp only; omega
   ·simp only; rw [len_gset_old _ hc]; exact hr.len
   ·show gget (gset s.files (bnm P g.1) _) y = _
    rw [gget_gset_ne]
    rintro rfl
    rw [bnm_seg (by have := h.few hn g (by simp); omega)] at hy
    cases hy
 ·exact ⟨rfl, hr, rfl, Others.refl _ _⟩
theorem pre_free (h : Laid P s st A) (hr : Roomy s T N) (hn : st.ents.length < 900000) : (preS P s st).1 = 0 ∧ Roomy (preS P s st).2.1 T N ∧ (preS P s st).2.2.dead = st.dead ∧ Others P s (preS P s st).2.1 := by
 unfold preS
 split
 ·exact syncs_free h hr hn
 ·exact ⟨rfl, hr, rfl, Others.refl _ _⟩
theorem snc_free (h : Laid P s st A) (hr : Roomy s T N) (hd : st.dead = false) (hn : st.ents.length < 900000) : (sncS P s st).1 = 0 ∧ Roomy (sncS P s st).2.1 T N ∧ (sncS P s st).2.2.dead = false ∧ (sncS P s st).2.2.segs = st.segs ∧ Others P s (sncS P s st).2.1 := by
 obtain ⟨h1, h2, h3, h4⟩ := syncs_free h hr hn
 obtain ⟨_, _, _, k4, _⟩ := laid_syncs h hn
 unfold sncS
 rw [if_neg (by rw [hd]; simp)]
 exact ⟨h1, h2, by simp [h1], k4, h4⟩
theorem to_ok (h : Laid P s st A) (hP : P.size ≤ 50) (hn : st.ents.length < 900000) : ∃ n, n < 100000000 ∧ toN P st = bnm P n := by
 unfold toN
 split
 ·exact ⟨_, by omega, rfl⟩
 ·rcases snoc_cases A with rfl | ⟨A0, g, rfl⟩
  ·next hf => exact absurd (fresh_none (by rw [h.segs]; rfl)) hf
  ·have hsg : st.segs = segsA A0 ++ [(g.1, (layL g.1 g.2).length)] := by rw [h.segs, segsA_snoc]
   rw [lastNo_last hsg]
   exact ⟨g.1, by have := h.few hn g (by simp); omega, rfl⟩
theorem app_free (h : Laid P s st A) (hr : Roomy s T N) (hP : P.size ≤ 50) (hd : st.dead = false) (hn : st.ents.length < 900000) {p : List UInt8} (hp : p.length ≤ 262134) (hT : T + (p.length + 16) ≤ 1048576) (hN : N < 4096) :
  (appS P s st p).1 = (st.ents.length + 1, 0) ∧ Roomy (appS P s st p).2.1 (T + (p.length + 16)) (N + 1) ∧ (appS P s st p).2.2.dead = false ∧ (appS P s st p).2.2.segs = (addS st p).segs ∧ Others P s (appS P s st p).2.1 := by
 obtain ⟨h1, h2, h3, h4⟩ := pre_free h hr hn
 obtain ⟨k1, k2, k3, k4, k5⟩ := laid_pre h hn
 obtain ⟨m, hm, hto⟩ := to_ok h hP hn
 have hel : (entL (st.ents.length + 1) p).length ≤ p.length + 16 := by
  have hl := numL_length 3 (st.ents.length + 1) (by omega)
  unfold entL
  rw [frameL_length, List.length_append]
  omega
 obtain ⟨s2, hs2⟩ : ∃ s2, s2 = (preS P s st).2.1 := ⟨_, rfl⟩
 obtain ⟨st2, hst2⟩ : ∃ st2, st2 = (preS P s st).2.2 := ⟨_, rfl⟩
 rw [← hs2] at h2 h4
 rw [← hst2] at h3 k3 k4
 have hcode : wrCode s2 (toN P st) (entL (st.ents.length + 1) p) = 0 := by
  unfold wrCode
  rw [if_neg]
  have a1 := h2.room
  have a2 := h2.tot
  have a3 := h2.len
  rintro (e | ⟨_, e⟩)
  ·omega
  ·omega
 have hwr : wrS s2 (toN P st) (entL (st.ents.length + 1) p) = (0, { s2 with files := wrFiles s2.files (toN P st) (entL (st.ents.length + 1) p) }) := by
  unfold wrS
  rw [hcode, five_free h2.free.fuse (by rw [hto]; exact bnm_ok hP hm), if_pos rfl]
 have happ : appS P s st p = ((st.ents.length + 1, 0), { s2 with files := wrFiles s2.files (toN P st) (entL (st.ents.length + 1) p) }, addS st2 p) := by
  unfold appS
  rw [if_neg (by rw [hd]; simp), if_neg (by omega), if_pos h1, ← hs2, ← hst2]
  simp only [hwr, if_true]
 rw [happ]
 have hsd : (addS st2 p).segs = (addS st p).segs := by
  unfold addS freshS bump
  rw [k3, k4]
 refine ⟨rfl, ⟨?_, h2.room, ?_, ?_⟩, h3.trans hd, hsd, fun y hy => ?_⟩
 ·have := wr_freeF h2.free (toN P st) (entL (st.ents.length + 1) p)
  rw [hwr] at this
  exact this
 ·show totF (wrFiles s2.files _ _) ≤ _
  unfold wrFiles
  cases hg : gget s2.files (toN P st) with
  | none =>
   simp only
   rw [totF_gset_new hg]
   have := h2.tot
   simp only
   omega
  | some c =>
   simp only
   have ht := totF_gset (y := ⟨c.data ++ entL (st.ents.length + 1) p, c.lasts⟩) h2.free.nodup hg
   have := h2.tot
   simp only [List.length_append] at ht
   omega
 ·show (wrFiles s2.files _ _).length ≤ _
  unfold wrFiles
  have := h2.len
  split
  ·exact Nat.le_trans (len_gset _ _ _) (by omega)
  ·exact Nat.le_trans (len_gset _ _ _) (by omega)
 ·show gget (wrFiles s2.files _ _) y = _
  rw [← h4 y hy]
  have hne : y ≠ toN P st := by
   rintro rfl
   rw [hto, bnm_seg hm] at hy
   cases hy
  unfold wrFiles
  split
  ·rw [gget_gset_ne _ _ hne]
  ·rw [gget_gset_ne _ _ hne]
theorem Laid.others {s' : DSt} {Q : ByteArray} (h : Laid P s st A) (ho : Others Q s s') (hPQ : P.size ≠ Q.size) (hn : st.ents.length < 900000) : Laid P s' st A := by
 have hg : ∀ y, isSegN P y = true → gget s'.files y = gget s.files y := fun y hy => ho y (by
  cases hb : isSegN Q y with
  | false => rfl
  | true =>
   exfalso
   have := seg_size hy
   have := seg_size hb
   omega)
 exact h.turn rfl rfl rfl (fun y hy => by rw [key_get, key_get, hg y hy]) (fun y hy => by unfold rdS; rw [hg y hy]) (fun y hy => by unfold lastsOf; rw [hg y hy]; exact Nat.le_refl _) hn
end
theorem crS_freeF {s : DSt} (hok : FilesOk s.files) (hn : (s.files.map (·.1)).Nodup) (keep : Int) (t : UInt8) : Free (crS s keep t) := by
 have hcr := cr_ok hok keep t
 refine ⟨hcr.2.2, ?_, hcr.1⟩
 show ((s.files.map fun p => (p.1, crF keep t p.2)).map (·.1)).Nodup
 rw [List.map_map]
 exact hn
theorem crS_fullT {s : DSt} (h : FullF s.files) (keep : Int) (t : UInt8) : (crS s keep t).files = s.files := by
 show s.files.map (fun p => (p.1, crF keep t p.2)) = s.files
 conv => rhs; rw [← List.map_id s.files]
 refine List.map_congr_left fun p hp => ?_
 have hl := h p hp
 obtain ⟨x, d, la⟩ := p
 simp only at hl
 subst hl
 have hs : stays keep ⟨d, d.length⟩ = d.length := by
  unfold stays
  simp only [Nat.sub_self, Nat.zero_add, Nat.mod_one, Nat.add_zero]
 simp only [id_eq, crF, hs, List.take_length, Prod.mk.injEq, FileS.mk.injEq, and_true, true_and]
 unfold torn
 refine List.ext_getElem? fun i => ?_
 rw [List.getElem?_mapIdx]
 have : ¬ (max d.length ((d.length - 1) / 16 * 16) ≤ i ∧ i < d.length) := by omega
 simp only [if_neg this]
 simp
theorem Laid.fullAt {P : ByteArray} {s : DSt} {st : LSt} {A : List Grp} (h : Laid P s st A) (hf : Free s) (hs : st.synced = st.ents.length) (hle : ∀ q ∈ s.files, q.2.lasts ≤ q.2.data.length) : ∀ q ∈ s.files, isSegN P q.1 = true → q.2.lasts = q.2.data.length := fun q hq hx => by
 obtain ⟨g, hg, e⟩ := h.only q hq hx
 have h1 := h.all hs g hg
 have hget : gget s.files (bnm P g.1) = some q.2 := by
  rw [← e]
  exact gget_some hf.nodup (k := q.1) (v := q.2) hq
 rw [lasts_get hget] at h1
 have h2 := h.data g hg
 rw [rd_get hget] at h2
 rw [← h2] at h1
 have := hle q hq
 omega
end Go.Proofs.YtdibkdgafidjgaaGreatDoor

