/-
  Texts laid together: WLay, WLaidL.
-/
import Derived.Test.YtdibkdgafidjgaaGreatDoorWd0
namespace Go.Proofs.YtdibkdgafidjgaaGreatDoor
open Go.RowKit Go.Mer
theorem digits_lt : ∀ (a b : List UInt8), a.length = b.length → a.all dgB = true → b.all dgB = true → dcF 0 a < dcF 0 b → a < b := by
 intro a
 induction a with
 | nil =>
  intro b hl _ _ h
  rw [List.eq_nil_of_length_eq_zero hl.symm] at h
  exact absurd h (Nat.lt_irrefl _)
 | cons x a ih =>
  intro b hl ha hb h
  cases b with
  | nil => cases hl
  | cons y b =>
   simp only [List.all_cons, Bool.and_eq_true, List.length_cons] at ha hb hl
   have hl' : a.length = b.length := by omega
   have hx := dgB_le ha.1
   have hy := dgB_le hb.1
   rw [dcF_cons, dcF_cons, dcF_add a, dcF_add b, ← hl', Nat.mul_zero, Nat.zero_add, Nat.zero_add] at h
   have h1 := dcF_lt a ha.2 0
   have h2 := dcF_lt b hb.2 0
   rw [Nat.zero_add, Nat.one_mul] at h1 h2
   rw [← hl'] at h2
   rw [List.cons_lt_cons_iff]
   rcases Nat.lt_trichotomy x.toNat y.toNat with hxy | hxy | hxy
   ·exact .inl (UInt8.lt_iff_toNat_lt.2 hxy)
   ·right
    have hxe : x = y := UInt8.toNat_inj.1 hxy
    subst hxe
    exact ⟨rfl, ih b hl' ha.2 hb.2 (by omega)⟩
   ·exfalso
    have h3 : (y.toNat - 48 + 1) * 10 ^ a.length ≤ (x.toNat - 48) * 10 ^ a.length := Nat.mul_le_mul_right _ (by omega)
    rw [Nat.add_mul, Nat.one_mul] at h3
    omega
theorem pre_lt (p : List UInt8) {a b : List UInt8} (h : a < b) : p ++ a < p ++ b := by
 induction p with
 | nil => exact h
 | cons x p ih => exact List.cons_lt_cons_iff.2 (.inr ⟨rfl, ih⟩)
theorem bnm_lt (P : ByteArray) {m n : Nat} (h : m < n) (hn : n < 100000000) : NLt (bnm P m) (bnm P n) := by
 show nameL P.data.toList m < nameL P.data.toList n
 unfold nameL
 exact pre_lt _ (digits_lt _ _ (by rw [pad8_len (by omega), pad8_len hn]) (pad8_dig m) (pad8_dig n) (by rw [pad8_num, pad8_num]; exact h))
theorem segs_order {P : ByteArray} {l : Files} {S : List Nat} (hl : (l.map (·.1)).Nodup) (hr : S.Pairwise fun a b => a < b) (hb : ∀ n ∈ S, n < 100000000) (hin : ∀ n ∈ S, bnm P n ∈ l.map (·.1)) (honly : ∀ p ∈ l, isSegN P p.1 = true → ∃ n ∈ S, p.1 = bnm P n) :
  (nmS l).filter (isSegN P) = S.map (bnm P) := by
 have h2 : (S.map (bnm P)).Pairwise NLt := by
  rw [List.pairwise_map]
  exact List.Pairwise.imp_of_mem (fun {a b} _ hb' h => bnm_lt P h (hb b hb')) hr
 have hnd : (S.map (bnm P)).Nodup := by
  refine List.Pairwise.imp ?_ h2
  intro a b h e
  exact nlt_irr b (e ▸ h)
 refine List.Perm.eq_of_pairwise (le := NLt) (fun a b _ _ h1 h2 => absurd (nlt_trans h1 h2) (nlt_irr a)) ((nm_pair hl).filter _) h2 ?_
 refine (List.perm_ext_iff_of_nodup ((nm_nodup hl).filter _) hnd).2 fun y => ?_
 rw [List.mem_filter, nm_mem, List.mem_map, List.mem_map]
 constructor
 ·rintro ⟨h3, h4⟩
  obtain ⟨p, hp, rfl⟩ := h3
  obtain ⟨n, hn, e⟩ := honly p hp h4
  exact ⟨n, hn, e.symm⟩
 ·rintro ⟨n, hn, rfl⟩
  exact ⟨List.mem_map.1 (hin n hn), bnm_seg (hb n hn)⟩
abbrev Grp := Nat × List (List UInt8)
def layL : Nat → List (List UInt8) → List UInt8
 | _, [] => []
 | n, p :: l => entL n p ++ layL (n + 1) l
def GChain : Nat → List Grp → Prop
 | _, [] => True
 | n, g :: A => g.1 = n ∧ g.2 ≠ [] ∧ GChain (n + g.2.length) A
def entsA (A : List Grp) : List (List UInt8) := A.flatMap (·.2)
def segsA (A : List Grp) : List (Nat × Nat) := A.map fun g => (g.1, (layL g.1 g.2).length)
theorem layL_append : ∀ (l : List (List UInt8)) (n : Nat) (l' : List (List UInt8)), layL n (l ++ l') = layL n l ++ layL (n + l.length) l'
 | [], n, l' => rfl
 | p :: l, n, l' => by
  rw [List.cons_append, layL, layL, layL_append l (n + 1) l', List.append_assoc, List.length_cons]
  congr 3
  omega
theorem layL_one (n : Nat) (p : List UInt8) : layL n [p] = entL n p := by rw [layL, layL, List.append_nil]
theorem entL_pos (n : Nat) (p : List UInt8) : 0 < (entL n p).length := by unfold entL; rw [frameL_length]; omega
theorem layL_len (n : Nat) (l : List (List UInt8)) : l.length ≤ (layL n l).length := by
 induction l generalizing n with
 | nil => exact Nat.le_refl _
 | cons p l ih =>
  rw [layL, List.length_append, List.length_cons]
  have := ih (n + 1)
  have := entL_pos n p
  omega
theorem chain_append : ∀ (A : List Grp) (n : Nat) (B : List Grp), GChain n (A ++ B) ↔ GChain n A ∧ GChain (n + (entsA A).length) B
 | [], n, B => by simp [GChain, entsA]
 | g :: A, n, B => by
  rw [List.cons_append, GChain, GChain, chain_append A _ B]
  have : n + (entsA (g :: A)).length = n + g.2.length + (entsA A).length := by
   unfold entsA
   rw [List.flatMap_cons, List.length_append]
   omega
  rw [this]
  constructor
  ·rintro ⟨h1, h2, h3, h4⟩; exact ⟨⟨h1, h2, h3⟩, h4⟩
  ·rintro ⟨⟨h1, h2, h3⟩, h4⟩; exact ⟨h1, h2, h3, h4⟩
theorem chain_ge : ∀ (A : List Grp) (n : Nat), GChain n A → ∀ g ∈ A, n ≤ g.1 ∧ g.1 + g.2.length ≤ n + (entsA A).length ∧ 0 < g.2.length
 | [], _, _, _, h => (by cases h)
 | g :: A, n, ⟨h1, h2, h3⟩, q, hq => by
  have e : (entsA (g :: A)).length = g.2.length + (entsA A).length := by
   unfold entsA
   rw [List.flatMap_cons, List.length_append]
  rcases List.mem_cons.1 hq with rfl | hq
  ·have := List.length_pos_iff.2 h2
   omega
  ·have := chain_ge A _ h3 q hq
   omega
theorem chain_rise : ∀ (A : List Grp) (n : Nat), GChain n A → (A.map (·.1)).Pairwise fun a b => a < b
 | [], _, _ => List.Pairwise.nil
 | g :: A, n, ⟨h1, h2, h3⟩ => by
  rw [List.map_cons, List.pairwise_cons]
  refine ⟨fun m hm => ?_, chain_rise A _ h3⟩
  obtain ⟨q, hq, rfl⟩ := List.mem_map.1 hm
  have := chain_ge A _ h3 q hq
  have := List.length_pos_iff.2 h2
  omega
def Sized (l : List (List UInt8)) : Prop := ∀ p ∈ l, p.length ≤ 262134
theorem de_ent {n : Nat} (hn : n < 1000000) {p : List UInt8} (hp : p.length ≤ 262134) (r : List UInt8) : deF (entL n p ++ r) = some (numL n ++ p, (entL n p).length) := by
 have hl := numL_length 3 n (by omega)
 unfold entL
 rw [deF_frame _ r (by rw [List.length_append]; omega), frameL_length]
theorem entsF_lay : ∀ (l : List (List UInt8)) (n : Nat) (r : List UInt8), Sized l → n + l.length < 1000000 → entsF n (layL n l ++ r) = (l ++ (entsF (n + l.length) r).1, (layL n l).length + (entsF (n + l.length) r).2)
 | [], n, r, _, _ => by simp [layL]
 | p :: l, n, r, hs, hn => by
  rw [List.length_cons] at hn
  rw [layL, List.append_assoc, entsF_more (de_ent (by omega) (hs p (List.mem_cons_self ..)) _) (numD_num n (by omega) p), List.drop_left,
   entsF_lay l (n + 1) r (fun q hq => hs q (List.mem_cons_of_mem _ hq)) (by omega), List.length_append, List.length_cons]
  have e : n + 1 + l.length = n + (l.length + 1) := by omega
  rw [e]
  simp only [List.cons_append, Prod.mk.injEq, true_and]
  omega
theorem entsF_lay0 {l : List (List UInt8)} {n : Nat} (hs : Sized l) (hn : n + l.length < 1000000) : entsF n (layL n l) = (l, (layL n l).length) := by
 have h := entsF_lay l n [] hs hn
 rw [List.append_nil, entsF_none _ deF_nil] at h
 rw [h, List.append_nil, Nat.add_zero]
theorem scan_lay {l : Files} {P : ByteArray} : ∀ (A : List Grp) (st : LSt), GChain (st.ents.length + 1) A → Sized (entsA A) → st.ents.length + 1 + (entsA A).length < 1000000 → (∀ g ∈ A, (rdS l (bnm P g.1)).1 = layL g.1 g.2) →
  scanS l P st (A.map fun g => bnm P g.1) = ({ st with ents := st.ents ++ entsA A, segs := st.segs ++ segsA A }, [])
 | [], st, _, _, _, _ => by simp [scanS, entsA, segsA]
 | g :: A, st, ⟨h1, h2, h3⟩, hs, hn, hd => by
  have e : entsA (g :: A) = g.2 ++ entsA A := by unfold entsA; rw [List.flatMap_cons]
  rw [e] at hs hn ⊢
  rw [List.length_append] at hn
  have hg := hd g (List.mem_cons_self ..)
  have hsz : Sized g.2 := fun p hp => hs p (List.mem_append_left _ hp)
  have hF : entsF (st.ents.length + 1) (rdS l (bnm P g.1)).1 = (g.2, (layL g.1 g.2).length) := by rw [hg, ← h1]; exact entsF_lay0 hsz (by omega)
  have hl0 : 0 < (layL g.1 g.2).length := by
   have := layL_len g.1 g.2
   have := List.length_pos_iff.2 h2
   omega
  have htk : takeS l P st (bnm P g.1) = ({ st with ents := st.ents ++ g.2, segs := st.segs ++ [(g.1, (layL g.1 g.2).length)] }, true) := by
   unfold takeS
   rw [if_pos (by rw [h1]), hF, hg]
   simp only
   rw [if_pos (.inl hl0), h1]
   simp
  rw [List.map_cons, scanS, htk, if_pos rfl]
  have hne : (st.ents ++ g.2).length + 1 = st.ents.length + 1 + g.2.length := by rw [List.length_append]; omega
  have ih := scan_lay (l := l) (P := P) A { st with ents := st.ents ++ g.2, segs := st.segs ++ [(g.1, (layL g.1 g.2).length)] } (by simp only [hne]; exact h3) (fun p hp => hs p (List.mem_append_right _ hp)) (by simp only [hne]; omega) (fun q hq => hd q (List.mem_cons_of_mem _ hq))
  simp only at ih ⊢
  rw [ih]
  simp [segsA, List.append_assoc]
end Go.Proofs.YtdibkdgafidjgaaGreatDoor
namespace Go.Proofs.YtdibkdgafidjgaaGreatDoor
open Go.RowKit Go.Mer
def lastsOf (l : Files) (y : ByteArray) : Nat := match gget l y with | some c => c.lasts | none => 0
theorem lasts_get {l : Files} {y : ByteArray} {c : FileS} (h : gget l y = some c) : lastsOf l y = c.lasts := by unfold lastsOf; rw [h]
structure Laid (P : ByteArray) (s : DSt) (st : LSt) (A : List Grp) : Prop where
 ents : st.ents = entsA A
 segs : st.segs = segsA A
 chain : GChain 1 A
 key : ∀ g ∈ A, bnm P g.1 ∈ s.files.map (·.1)
 data : ∀ g ∈ A, (rdS s.files (bnm P g.1)).1 = layL g.1 g.2
 only : ∀ p ∈ s.files, isSegN P p.1 = true → ∃ g ∈ A, p.1 = bnm P g.1
 last : ∀ A0 g, A = A0 ++ [g] → (∀ h ∈ A0, (layL h.1 h.2).length ≤ lastsOf s.files (bnm P h.1)) ∧ (layL g.1 (g.2.take (st.synced - (entsA A0).length))).length ≤ lastsOf s.files (bnm P g.1)
 snc : st.synced ≤ st.ents.length
 sized : Sized st.ents
theorem laid0 (P : ByteArray) (room : Nat) : Laid P ⟨room, none, []⟩ st0 [] :=
 ⟨rfl, rfl, trivial, fun _ h => (by cases h), fun _ h => (by cases h), fun _ h => (by cases h), fun A0 g h => (by cases A0 <;> cases h), Nat.le_refl _, fun _ h => (by cases h)⟩
theorem snoc_inj {α : Type} {A B : List α} {x y : α} (h : A ++ [x] = B ++ [y]) : A = B ∧ x = y := by
 have := List.append_inj_left' h rfl
 have h2 := List.append_inj_right' h rfl
 injection h2 with h2
 exact ⟨this, h2⟩
theorem entsA_snoc (A : List Grp) (g : Grp) : entsA (A ++ [g]) = entsA A ++ g.2 := by unfold entsA; simp
theorem segsA_snoc (A : List Grp) (g : Grp) : segsA (A ++ [g]) = segsA A ++ [(g.1, (layL g.1 g.2).length)] := by unfold segsA; simp
theorem snoc_cases {α : Type} (A : List α) : A = [] ∨ ∃ B x, A = B ++ [x] := by
 rcases List.eq_nil_or_concat A with h | ⟨B, x, h⟩
 ·exact .inl h
 ·exact .inr ⟨B, x, by rw [h, List.concat_eq_append]⟩
section
variable {P : ByteArray} {s s' : DSt} {st st' : LSt} {A : List Grp}
theorem Laid.few (h : Laid P s st A) (hn : st.ents.length < 900000) : ∀ g ∈ A, g.1 < 1000000 := fun g hg => by
 have := chain_ge A 1 h.chain g hg
 rw [h.ents] at hn
 omega
theorem Laid.at_last {A0 : List Grp} {g : Grp} (h : Laid P s st (A0 ++ [g])) : GChain 1 A0 ∧ g.1 = 1 + (entsA A0).length ∧ g.2 ≠ [] := by
 have h1 := (chain_append A0 1 [g]).1 h.chain
 exact ⟨h1.1, h1.2.1, h1.2.2.1⟩
theorem Laid.turn (h : Laid P s st A) (he : st'.ents = st.ents) (hs : st'.segs = st.segs) (hy : st'.synced = st.synced) (hk : ∀ y, isSegN P y = true → (y ∈ s'.files.map (·.1) ↔ y ∈ s.files.map (·.1))) (hd : ∀ y, isSegN P y = true → (rdS s'.files y).1 = (rdS s.files y).1)
  (hl : ∀ y, isSegN P y = true → lastsOf s.files y ≤ lastsOf s'.files y) (hn : st.ents.length < 900000) : Laid P s' st' A := by
 have hseg : ∀ g ∈ A, isSegN P (bnm P g.1) = true := fun g hg => bnm_seg (by have := h.few hn g hg; omega)
 refine ⟨he.trans h.ents, hs.trans h.segs, h.chain, fun g hg => (hk _ (hseg g hg)).2 (h.key g hg), fun g hg => by rw [hd _ (hseg g hg)]; exact h.data g hg, fun p hp hx => ?_, fun A0 g hA => ?_, by rw [he, hy]; exact h.snc, by rw [he]; exact h.sized⟩
 ·obtain ⟨q, hq, e⟩ := List.mem_map.1 ((hk p.1 hx).1 (List.mem_map.2 ⟨p, hp, rfl⟩))
  rw [← e] at hx ⊢
  exact h.only q hq hx
 ·obtain ⟨h1, h2⟩ := h.last A0 g hA
  subst hA
  refine ⟨fun q hq => Nat.le_trans (h1 q hq) (hl _ (hseg q (List.mem_append_left _ hq))), ?_⟩
  rw [hy]
  exact Nat.le_trans h2 (hl _ (hseg g (by simp)))
theorem Laid.disk (h : Laid P s st A) (hf : s'.files = s.files) : Laid P s' st A := by
 obtain ⟨h1, h2, h3, h4, h5, h6, h7, h8, h9⟩ := h
 exact ⟨h1, h2, h3, by rw [hf]; exact h4, by rw [hf]; exact h5, by rw [hf]; exact h6, by rw [hf]; exact h7, h8, h9⟩
theorem Laid.dead (h : Laid P s st A) (b : Bool) : Laid P s { st with dead := b } A := ⟨h.ents, h.segs, h.chain, h.key, h.data, h.only, h.last, h.snc, h.sized⟩
theorem lay_full {g : Grp} {k : Nat} (h : g.2.length ≤ k) : layL g.1 (g.2.take k) = layL g.1 g.2 := by rw [List.take_of_length_le h]
theorem Laid.all (h : Laid P s st A) (hs : st.synced = st.ents.length) : ∀ g ∈ A, (layL g.1 g.2).length ≤ lastsOf s.files (bnm P g.1) := fun g hg => by
 rcases snoc_cases A with rfl | ⟨A0, q, rfl⟩
 ·cases hg
 ·obtain ⟨h1, h2⟩ := h.last A0 q rfl
  rcases List.mem_append.1 hg with hg | hg
  ·exact h1 g hg
  ·obtain rfl := List.mem_singleton.1 hg
   rw [lay_full (by rw [hs, h.ents, entsA_snoc, List.length_append]; omega)] at h2
   exact h2
theorem laid_syncs (h : Laid P s st A) (_ : st.ents.length < 900000) : Laid P (syncsS P s st).2.1 (syncsS P s st).2.2 A ∧ ((syncsS P s st).1 = 0 → (syncsS P s st).2.2.synced = st.ents.length) ∧ (syncsS P s st).2.2.ents = st.ents ∧ (syncsS P s st).2.2.segs = st.segs ∧ st.synced ≤ (syncsS P s st).2.2.synced := by
 unfold syncsS
 split
 ·next hlt =>
  rcases snoc_cases A with rfl | ⟨A0, g, rfl⟩
  ·have := h.ents
   rw [this] at hlt
   exact absurd hlt (Nat.not_lt_zero _)
  ·have hlast : st.segs.getLast? = some (g.1, (layL g.1 g.2).length) := by rw [h.segs, segsA_snoc]; simp
   rw [hlast]
   simp only
   by_cases h0 : (syS s (bnm P g.1)).1 = 0
   ·rw [if_pos h0]
    obtain ⟨_, _, h3⟩ := five_yes h0
    have hfs : (syS s (bnm P g.1)).2.files = syFiles s.files (bnm P g.1) := by unfold syS; rw [h3]
    obtain ⟨c, hc⟩ := get_ex (h.key g (by simp))
    have hcd : c.data = layL g.1 g.2 := by rw [← h.data g (by simp), rd_get hc]
    have hsf : syFiles s.files (bnm P g.1) = gset s.files (bnm P g.1) ⟨c.data, c.data.length⟩ := by unfold syFiles; rw [hc]
    rw [hsf] at hfs
    have hkey : ∀ y, y ∈ (gset s.files (bnm P g.1) ⟨c.data, c.data.length⟩).map (·.1) ↔ y ∈ s.files.map (·.1) := fun y => by
     rw [key_get, key_get]
     by_cases e : y = bnm P g.1
     ·rw [gget_is, if_pos e, e, hc]; simp
     ·rw [gget_is, if_neg e]
    have hdat : ∀ y, (rdS (gset s.files (bnm P g.1) ⟨c.data, c.data.length⟩) y).1 = (rdS s.files y).1 := fun y => by
     unfold rdS
     by_cases e : y = bnm P g.1
     ·rw [gget_is, if_pos e, e, hc]
     ·rw [gget_is, if_neg e]
    have hlas : ∀ y, lastsOf (gset s.files (bnm P g.1) ⟨c.data, c.data.length⟩) y = if y = bnm P g.1 then c.data.length else lastsOf s.files y := fun y => by
     unfold lastsOf
     by_cases e : y = bnm P g.1
     ·rw [gget_is, if_pos e, if_pos e]
     ·rw [gget_is, if_neg e, if_neg e]
    refine ⟨⟨h.ents, h.segs, h.chain, fun q hq => ?_, fun q hq => ?_, fun p hp hx => ?_, fun B q hA => ?_, Nat.le_refl _, h.sized⟩, fun _ => rfl, rfl, rfl, by simp only; omega⟩
    ·rw [hfs, hkey]; exact h.key q hq
    ·rw [hfs, hdat]; exact h.data q hq
    ·rw [hfs] at hp
     obtain ⟨p', hp', e⟩ := List.mem_map.1 ((hkey p.1).1 (List.mem_map.2 ⟨p, hp, rfl⟩))
     rw [← e] at hx ⊢
     exact h.only p' hp' hx
    ·obtain ⟨rfl, rfl⟩ := snoc_inj hA
     obtain ⟨h4, h5⟩ := h.last A0 g rfl
     rw [hfs]
     refine ⟨fun q hq => ?_, ?_⟩
     ·rw [hlas]
      split
      ·next e =>
       have h6 := chain_rise _ _ h.chain
       rw [List.map_append, List.pairwise_append] at h6
       have h7 := h6.2.2 q.1 (List.mem_map.2 ⟨q, hq, rfl⟩) g.1 (by simp)
       have := bnm_inj e
       omega
      ·exact h4 q hq
     ·rw [hlas, if_pos rfl, hcd]
      have hsl : g.2.length ≤ st.ents.length - (entsA A0).length := by rw [h.ents, entsA_snoc, List.length_append]; omega
      rw [show layL g.1 (g.2.take (st.ents.length - (entsA A0).length)) = layL g.1 g.2 from lay_full hsl]
      exact Nat.le_refl _
   ·rw [if_neg h0, show (syS s (bnm P g.1)).2 = s from five_no h0]
    exact ⟨h, fun e => absurd e h0, rfl, rfl, Nat.le_refl _⟩
 ·next hge => exact ⟨h, fun _ => by have := h.snc; show st.synced = _; omega, rfl, rfl, Nat.le_refl _⟩
theorem laid_snc (h : Laid P s st A) (hn : st.ents.length < 900000) : Laid P (sncS P s st).2.1 (sncS P s st).2.2 A ∧ ((sncS P s st).1 = 0 → (sncS P s st).2.2.synced = st.ents.length) ∧ (sncS P s st).2.2.ents = st.ents ∧ st.synced ≤ (sncS P s st).2.2.synced := by
 unfold sncS
 split
 ·exact ⟨h, fun e => (by cases e), rfl, Nat.le_refl _⟩
 ·obtain ⟨h1, h2, h3, _, h5⟩ := laid_syncs h hn
  exact ⟨h1.dead _, h2, h3, h5⟩
theorem laid_pre (h : Laid P s st A) (hn : st.ents.length < 900000) : Laid P (preS P s st).2.1 (preS P s st).2.2 A ∧ ((preS P s st).1 = 0 → freshS st = true → st.segs ≠ [] → (preS P s st).2.2.synced = st.ents.length) ∧ (preS P s st).2.2.ents = st.ents ∧ (preS P s st).2.2.segs = st.segs ∧ st.synced ≤ (preS P s st).2.2.synced := by
 unfold preS
 split
 ·obtain ⟨h1, h2, h3, h4, h5⟩ := laid_syncs h hn
  exact ⟨h1, fun e _ _ => h2 e, h3, h4, h5⟩
 ·next hno => exact ⟨h, fun _ h1 h2 => absurd ⟨h1, h2⟩ hno, rfl, rfl, Nat.le_refl _⟩
theorem wr_key (l : Files) (x : ByteArray) (b : List UInt8) (y : ByteArray) : y ∈ (wrFiles l x b).map (·.1) ↔ y = x ∨ y ∈ l.map (·.1) := by
 rw [key_get, key_get]
 unfold wrFiles
 cases hg : gget l x with
 | none =>
  simp only
  by_cases e : y = x
  ·rw [gget_is, if_pos e]; simp [e]
  ·rw [gget_is, if_neg e]; simp [e]
 | some c =>
  simp only
  by_cases e : y = x
  ·rw [gget_is, if_pos e]; simp [e]
  ·rw [gget_is, if_neg e]; simp [e]
theorem wr_lasts (l : Files) (x : ByteArray) (b : List UInt8) (y : ByteArray) : lastsOf (wrFiles l x b) y = lastsOf l y := by
 unfold wrFiles lastsOf
 cases hg : gget l x with
 | none =>
  simp only
  by_cases e : y = x
  ·rw [gget_is, if_pos e, e, hg]
  ·rw [gget_is, if_neg e]
 | some c =>
  simp only
  by_cases e : y = x
  ·rw [gget_is, if_pos e, e, hg]
  ·rw [gget_is, if_neg e]
theorem laid_add (h : Laid P s st A) (hn : st.ents.length < 900000) (hfs : freshS st = true → st.segs ≠ [] → st.synced = st.ents.length) {p : List UInt8} (hp : p.length ≤ 262134) (hs : s'.files = wrFiles s.files (toN P st) (entL (st.ents.length + 1) p)) : ∃ A', Laid P s' (addS st p) A' := by
 have hea : (addS st p).ents = st.ents ++ [p] := rfl
 have hya : (addS st p).synced = st.synced := rfl
 have hsz : Sized (addS st p).ents := fun q hq => by
  rw [hea] at hq
  rcases List.mem_append.1 hq with hq | hq
  ·exact h.sized q hq
  ·obtain rfl := List.mem_singleton.1 hq; exact hp
 have hlt : ∀ g ∈ A, g.1 < st.ents.length + 1 := fun g hg => by
  have := chain_ge A 1 h.chain g hg
  rw [h.ents]
  omega
 have hb : ∀ n, n ≤ st.ents.length + 1 → isSegN P (bnm P n) = true := fun n hn' => bnm_seg (by omega)
 by_cases hf : freshS st = true
 ·have hto : toN P st = bnm P (st.ents.length + 1) := by unfold toN; rw [if_pos hf]
  rw [hto] at hs
  have hnew : bnm P (st.ents.length + 1) ∉ s.files.map (·.1) := fun hm => by
   obtain ⟨q, hq, e⟩ := List.mem_map.1 hm
   obtain ⟨g, hg, e2⟩ := h.only q hq (by rw [e]; exact hb _ (Nat.le_refl _))
   have := bnm_inj (e.symm.trans e2)
   have := hlt g hg
   omega
  have hno : (rdS s.files (bnm P (st.ents.length + 1))).1 = [] := rd_none (gget_none_iff.2 hnew)
  refine ⟨A ++ [(st.ents.length + 1, [p])], ?_, ?_, ?_, ?_, ?_, ?_, ?_, ?_, hsz⟩
  ·rw [hea, entsA_snoc, h.ents]
  ·rw [segsA_snoc, ← h.segs, layL_one]
   show (if freshS st = true then _ else _) = _
   rw [if_pos hf]
  ·rw [chain_append]
   exact ⟨h.chain, by simp only [← h.ents]; omega, by simp, trivial⟩
  ·intro g hg
   rw [hs, wr_key]
   rcases List.mem_append.1 hg with hg | hg
   ·exact .inr (h.key g hg)
   ·obtain rfl := List.mem_singleton.1 hg; exact .inl rfl
  ·intro g hg
   rw [hs, wr_rd]
   rcases List.mem_append.1 hg with hg | hg
   ·rw [if_neg (fun e => by have := bnm_inj e; have := hlt g hg; omega)]
    exact h.data g hg
   ·obtain rfl := List.mem_singleton.1 hg
    rw [if_pos rfl, hno, layL_one]
    rfl
  ·intro q hq hx
   rw [hs] at hq
   rcases wr_keys hq with e | ⟨q', hq', e⟩
   ·exact ⟨_, List.mem_append_right _ (List.mem_singleton.2 rfl), e⟩
   ·rw [← e] at hx ⊢
    obtain ⟨g, hg, e2⟩ := h.only q' hq' hx
    exact ⟨g, List.mem_append_left _ hg, e2⟩
  ·intro B g hA
   obtain ⟨rfl, rfl⟩ := snoc_inj hA
   rw [hs]
   refine ⟨fun q hq => ?_, ?_⟩
   ·rw [wr_lasts]
    refine h.all (hfs hf fun h0 => ?_) q hq
    rw [h.segs] at h0
    have : A = [] := List.map_eq_nil_iff.1 h0
    rw [this] at hq
    cases hq
   ·rw [hya, show st.synced - (entsA A).length = 0 by rw [← h.ents]; have := h.snc; omega, List.take_zero]
    exact Nat.zero_le _
  ·rw [hya, hea, List.length_append]; have := h.snc; omega
 ·have hf' : freshS st = false := by simpa using hf
  rcases snoc_cases A with rfl | ⟨A0, g, rfl⟩
  ·exact absurd (fresh_none (by rw [h.segs]; rfl)) (by rw [hf']; simp)
  obtain ⟨hc1, hc2, hc3⟩ := h.at_last
  have hsg : st.segs = segsA A0 ++ [(g.1, (layL g.1 g.2).length)] := by rw [h.segs, segsA_snoc]
  have hto : toN P st = bnm P g.1 := by unfold toN; rw [if_neg hf, lastNo_last hsg]
  rw [hto] at hs
  have hnum : g.1 + g.2.length = st.ents.length + 1 := by
   rw [h.ents, entsA_snoc, List.length_append]
   omega
  have hlay : layL g.1 (g.2 ++ [p]) = layL g.1 g.2 ++ entL (st.ents.length + 1) p := by rw [layL_append, layL_one, hnum]
  have hgl : ∀ q ∈ A0, q.1 < g.1 := fun q hq => by
   have := chain_ge A0 1 hc1 q hq
   omega
  refine ⟨A0 ++ [(g.1, g.2 ++ [p])], ?_, ?_, ?_, ?_, ?_, ?_, ?_, ?_, hsz⟩
  ·rw [hea, entsA_snoc, h.ents, entsA_snoc, List.append_assoc]
  ·rw [segsA_snoc, hlay, List.length_append]
   rw [add_old hf' hsg]
  ·rw [chain_append]
   exact ⟨hc1, hc2, by simp, trivial⟩
  ·intro q hq
   rw [hs, wr_key]
   rcases List.mem_append.1 hq with hq | hq
   ·exact .inr (h.key q (List.mem_append_left _ hq))
   ·obtain rfl := List.mem_singleton.1 hq; exact .inl rfl
  ·intro q hq
   rw [hs, wr_rd]
   rcases List.mem_append.1 hq with hq | hq
   ·rw [if_neg (fun e => by have := bnm_inj e; have := hgl q hq; omega)]
    exact h.data q (List.mem_append_left _ hq)
   ·obtain rfl := List.mem_singleton.1 hq
    show (if bnm P g.1 = bnm P g.1 then _ else _) = _
    rw [if_pos rfl, h.data g (by simp), hlay]
  ·intro q hq hx
   rw [hs] at hq
   have hall : ∀ q' ∈ s.files, isSegN P q'.1 = true → ∃ g' ∈ A0 ++ [(g.1, g.2 ++ [p])], q'.1 = bnm P g'.1 := fun q' hq' hx' => by
    obtain ⟨g', hg', e2⟩ := h.only q' hq' hx'
    rcases List.mem_append.1 hg' with hg' | hg'
    ·exact ⟨g', List.mem_append_left _ hg', e2⟩
    ·obtain rfl := List.mem_singleton.1 hg'
     exact ⟨_, List.mem_append_right _ (List.mem_singleton.2 rfl), e2⟩
   rcases wr_keys hq with e | ⟨q', hq', e⟩
   ·exact ⟨_, List.mem_append_right _ (List.mem_singleton.2 rfl), e⟩
   ·rw [← e] at hx ⊢
    exact hall q' hq' hx
  ·intro B q hA
   obtain ⟨rfl, rfl⟩ := snoc_inj hA
   obtain ⟨h4, h5⟩ := h.last A0 g rfl
   rw [hs]
   refine ⟨fun q hq => ?_, ?_⟩
   ·rw [wr_lasts]; exact h4 q hq
   ·rw [wr_lasts, hya]
    simp only
    rw [List.take_append_of_le_length (by have := h.snc; rw [h.ents, entsA_snoc, List.length_append] at this; omega)]
    exact h5
  ·rw [hya, hea, List.length_append]; have := h.snc; omega
theorem laid_app (h : Laid P s st A) (hn : st.ents.length < 900000) (p : List UInt8) : ∃ A', Laid P (appS P s st p).2.1 (appS P s st p).2.2 A' ∧ ((appS P s st p).1.2 = 0 → (appS P s st p).2.2.ents = st.ents ++ [p]) ∧ ((appS P s st p).1.2 ≠ 0 → (appS P s st p).2.2.ents = st.ents) ∧ st.synced ≤ (appS P s st p).2.2.synced := by
 unfold appS
 split
 ·exact ⟨A, h, fun e => (by cases e), fun _ => rfl, Nat.le_refl _⟩
 ·split
  ·exact ⟨A, h, fun e => (by cases e), fun _ => rfl, Nat.le_refl _⟩
  ·next hpl =>
   obtain ⟨h1, h2, h3, h4, h5⟩ := laid_pre h hn
   split
   ·next h0 =>
    simp only
    split
    ·next h6 =>
     have hfr : freshS (preS P s st).2.2 = freshS st := by unfold freshS; rw [h4]
     have hto : toN P (preS P s st).2.2 = toN P st := by unfold toN freshS lastNo; rw [h3, h4]
     obtain ⟨A', hA'⟩ := laid_add h1 (by rw [h3]; exact hn) (fun hf hs => by rw [h3]; exact h2 h0 (hfr ▸ hf) (h4 ▸ hs)) (p := p) (by omega) (s' := (wrS (preS P s st).2.1 (toN P st) (entL (st.ents.length + 1) p)).2) (by rw [hto, h3]; exact wr_data h6)
     exact ⟨A', hA', fun _ => by show (preS P s st).2.2.ents ++ [p] = _; rw [h3], fun e => absurd rfl e, h5⟩
    ·next h6 =>
     rw [show (wrS (preS P s st).2.1 (toN P st) (entL (st.ents.length + 1) p)).2 = (preS P s st).2.1 from five_no h6]
     exact ⟨A, h1.dead _, fun e => absurd e h6, fun _ => h3, h5⟩
   ·next h0 => exact ⟨A, h1.dead _, fun e => absurd e h0, fun _ => h3, h5⟩
theorem laid_open (h : Laid P s st A) (hf : Free s) (hn : st.ents.length < 900000) : ∃ s' st', openS P s (nmS s.files) = (0, s', st') ∧ Opened P s s' st' ∧ st'.ents = entsA A ∧ st'.segs = segsA A := by
 obtain ⟨s', st', h1, h2⟩ := open_free P hf
 refine ⟨s', st', h1, h2, ?_⟩
 have ho : (nmS s.files).filter (isSegN P) = A.map fun g => bnm P g.1 := by
  have := segs_order (P := P) (l := s.files) (S := A.map (·.1)) hf.nodup (chain_rise A 1 h.chain) (fun n hn' => by
   obtain ⟨g, hg, rfl⟩ := List.mem_map.1 hn'
   have := h.few hn g hg
   omega) (fun n hn' => by
   obtain ⟨g, hg, rfl⟩ := List.mem_map.1 hn'
   exact h.key g hg) (fun p hp hx => by
   obtain ⟨g, hg, e⟩ := h.only p hp hx
   exact ⟨g.1, List.mem_map.2 ⟨g, hg, rfl⟩, e⟩)
  rw [this, List.map_map]
  rfl
 have hsc := scan_lay (l := s.files) (P := P) A st0 h.chain (by rw [← h.ents]; exact h.sized) (by rw [← h.ents]; have : st0.ents.length = 0 := rfl; omega) h.data
 have hs2 := h2.scan
 rw [ho, hsc] at hs2
 exact ⟨hs2.1.trans (List.nil_append _), hs2.2.trans (List.nil_append _)⟩
end
end Go.Proofs.YtdibkdgafidjgaaGreatDoor

