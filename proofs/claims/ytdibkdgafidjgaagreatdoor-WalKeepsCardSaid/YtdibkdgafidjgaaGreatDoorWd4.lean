/-
  Texts laid together: WLay, WLaidL, WTorn.
-/
import Derived.Test.YtdibkdgafidjgaaGreatDoorWd0
namespace Go.Proofs.YtdibkdgafidjgaaGreatDoor
open Go.RowKit Go.Mer
theorem digits_lt : ∀ (a b : List UInt8), a.length = b.length → a.all dgB = true → b.all dgB = true → dcF 0 a < dcF 0 b → a < b := by
 intro a
 induction a with
 | nil =>
  intro b hl _ _ h
  rw [List.eq_nil_of_length_eq_zero hl.symm] at h
  exact absurd h (Nat.lt_irrefl _)
 | cons x a ih =>
  intro b hl ha hb h
  cases b with
  | nil => cases hl
  | cons y b =>
   simp only [List.all_cons, Bool.and_eq_true, List.length_cons] at ha hb hl
   have hl' : a.length = b.length := by omega
   have hx := dgB_le ha.1
   have hy := dgB_le hb.1
   rw [dcF_cons, dcF_cons, dcF_add a, dcF_add b, ← hl', Nat.mul_zero, Nat.zero_add, Nat.zero_add] at h
   have h1 := dcF_lt a ha.2 0
   have h2 := dcF_lt b hb.2 0
   rw [Nat.zero_add, Nat.one_mul] at h1 h2
   rw [← hl'] at h2
   rw [List.cons_lt_cons_iff]
   rcases Nat.lt_trichotomy x.toNat y.toNat with hxy | hxy | hxy
   ·exact .inl (UInt8.lt_iff_toNat_lt.2 hxy)
   ·right
    have hxe : x = y := UInt8.toNat_inj.1 hxy
    subst hxe
    exact ⟨rfl, ih b hl' ha.2 hb.2 (by omega)⟩
   ·exfalso
    have h3 : (y.toNat - 48 + 1) * 10 ^ a.length ≤ (x.toNat - 48) * 10 ^ a.length := Nat.mul_le_mul_right _ (by omega)
    rw [Nat.add_mul, Nat.one_mul] at h3
    omega
theorem pre_lt (p : List UInt8) {a b : List UInt8} (h : a < b) : p ++ a < p ++ b := by
 induction p with
 | nil => exact h
 | cons x p ih => exact List.cons_lt_cons_iff.2 (.inr ⟨rfl, ih⟩)
theorem bnm_lt (P : ByteArray) {m n : Nat} (h : m < n) (hn : n < 100000000) : NLt (bnm P m) (bnm P n) := by
 show nameL P.data.toList m < nameL P.data.toList n
 unfold nameL
 exact pre_lt _ (digits_lt _ _ (by rw [pad8_len (by omega), pad8_len hn]) (pad8_dig m) (pad8_dig n) (by rw [pad8_num, pad8_num]; exact h))
theorem segs_order {P : ByteArray} {l : Files} {S : List Nat} (hl : (l.map (·.1)).Nodup) (hr : S.Pairwise fun a b => a < b) (hb : ∀ n ∈ S, n < 100000000) (hin : ∀ n ∈ S, bnm P n ∈ l.map (·.1)) (honly : ∀ p ∈ l, isSegN P p.1 = true → ∃ n ∈ S, p.1 = bnm P n) :
  (nmS l).filter (isSegN P) = S.map (bnm P) := by
 have h2 : (S.map (bnm P)).Pairwise NLt := by
  rw [List.pairwise_map]
  exact List.Pairwise.imp_of_mem (fun {a b} _ hb' h => bnm_lt P h (hb b hb')) hr
 have hnd : (S.map (bnm P)).Nodup := by
  refine List.Pairwise.imp ?_ h2
  intro a b h e
  exact nlt_irr b (e ▸ h)
 refine List.Perm.eq_of_pairwise (le := NLt) (fun a b _ _ h1 h2 => absurd (nlt_trans h1 h2) (nlt_irr a)) ((nm_pair hl).filter _) h2 ?_
 refine (List.perm_ext_iff_of_nodup ((nm_nodup hl).filter _) hnd).2 fun y => ?_
 rw [List.mem_filter, nm_mem, List.mem_map, List.mem_map]
 constructor
 ·rintro ⟨h3, h4⟩
  obtain ⟨p, hp, rfl⟩ := h3
  obtain ⟨n, hn, e⟩ := honly p hp h4
  exact ⟨n, hn, e.symm⟩
 ·rintro ⟨n, hn, rfl⟩
  exact ⟨List.mem_map.1 (hin n hn), bnm_seg (hb n hn)⟩
abbrev Grp := Nat × List (List UInt8)
def layL : Nat → List (List UInt8) → List UInt8
 | _, [] => []
 | n, p :: l => entL n p ++ layL (n + 1) l
def GChain : Nat → List Grp → Prop
 | _, [] => True
 | n, g :: A => g.1 = n ∧ g.2 ≠ [] ∧ GChain (n + g.2.length) A
def entsA (A : List Grp) : List (List UInt8) := A.flatMap (·.2)
def segsA (A : List Grp) : List (Nat × Nat) := A.map fun g => (g.1, (layL g.1 g.2).length)
theorem layL_append : ∀ (l : List (List UInt8)) (n : Nat) (l' : List (List UInt8)), layL n (l ++ l') = layL n l ++ layL (n + l.length) l'
 | [], n, l' => rfl
 | p :: l, n, l' => by
  rw [List.cons_append, layL, layL, layL_append l (n + 1) l', List.append_assoc, List.length_cons]
  congr 3
  omega
theorem layL_one (n : Nat) (p : List UInt8) : layL n [p] = entL n p := by rw [layL, layL, List.append_nil]
theorem entL_pos (n : Nat) (p : List UInt8) : 0 < (entL n p).length := by unfold entL; rw [frameL_length]; omega
theorem layL_len (n : Nat) (l : List (List UInt8)) : l.length ≤ (layL n l).length := by
 induction l generalizing n with
 | nil => exact Nat.le_refl _
 | cons p l ih =>
  rw [layL, List.length_append, List.length_cons]
  have := ih (n + 1)
  have := entL_pos n p
  omega
theorem chain_append : ∀ (A : List Grp) (n : Nat) (B : List Grp), GChain n (A ++ B) ↔ GChain n A ∧ GChain (n + (entsA A).length) B
 | [], n, B => by simp [GChain, entsA]
 | g :: A, n, B => by
  rw [List.cons_append, GChain, GChain, chain_append A _ B]
  have : n + (entsA (g :: A)).length = n + g.2.length + (entsA A).length := by
   unfold entsA
   rw [List.flatMap_cons, List.length_append]
   omega
  rw [this]
  constructor
  ·rintro ⟨h1, h2, h3, h4⟩; exact ⟨⟨h1, h2, h3⟩, h4⟩
  ·rintro ⟨⟨h1, h2, h3⟩, h4⟩; exact ⟨h1, h2, h3, h4⟩
theorem chain_ge : ∀ (A : List Grp) (n : Nat), GChain n A → ∀ g ∈ A, n ≤ g.1 ∧ g.1 + g.2.length ≤ n + (entsA A).length ∧ 0 < g.2.length
 | [], _, _, _, h => (by cases h)
 | g :: A, n, ⟨h1, h2, h3⟩, q, hq => by
  have e : (entsA (g :: A)).length = g.2.length + (entsA A).length := by
   unfold entsA
   rw [List.flatMap_cons, List.length_append]
  rcases List.mem_cons.1 hq with rfl | hq
  ·have := List.length_pos_iff.2 h2
   omega
  ·have := chain_ge A _ h3 q hq
   omega
theorem chain_rise : ∀ (A : List Grp) (n : Nat), GChain n A → (A.map (·.1)).Pairwise fun a b => a < b
 | [], _, _ => List.Pairwise.nil
 | g :: A, n, ⟨h1, h2, h3⟩ => by
  rw [List.map_cons, List.pairwise_cons]
  refine ⟨fun m hm => ?_, chain_rise A _ h3⟩
  obtain ⟨q, hq, rfl⟩ := List.mem_map.1 hm
  have := chain_ge A _ h3 q hq
  have := List.length_pos_iff.2 h2
  omega
def Sized (l : List (List UInt8)) : Prop := ∀ p ∈ l, p.length ≤ 262134
theorem de_ent {n : Nat} (hn : n < 1000000) {p : List UInt8} (hp : p.length ≤ 262134) (r : List UInt8) : deF (entL n p ++ r) = some (numL n ++ p, (entL n p).length) := by
 have hl := numL_length 3 n (by omega)
 unfold entL
 rw [deF_frame _ r (by rw [List.length_append]; omega), frameL_length]
theorem entsF_lay : ∀ (l : List (List UInt8)) (n : Nat) (r : List UInt8), Sized l → n + l.length < 1000000 → entsF n (layL n l ++ r) = (l ++ (entsF (n + l.length) r).1, (layL n l).length + (entsF (n + l.length) r).2)
 | [], n, r, _, _ => by simp [layL]
 | p :: l, n, r, hs, hn => by
  rw [List.length_cons] at hn
  rw [layL, List.append_assoc, entsF_more (de_ent (by omega) (hs p (List.mem_cons_self ..)) _) (numD_num n (by omega) p), List.drop_left,
   entsF_lay l (n + 1) r (fun q hq => hs q (List.mem_cons_of_mem _ hq)) (by omega), List.length_append, List.length_cons]
  have e : n + 1 + l.length = n + (l.length + 1) := by omega
  rw [e]
  simp only [List.cons_append, Prod.mk.injEq, true_and]
  omega
theorem entsF_lay0 {l : List (List UInt8)} {n : Nat} (hs : Sized l) (hn : n + l.length < 1000000) : entsF n (layL n l) = (l, (layL n l).length) := by
 have h := entsF_lay l n [] hs hn
 rw [List.append_nil, entsF_none _ deF_nil] at h
 rw [h, List.append_nil, Nat.add_zero]
theorem scan_lay {l : Files} {P : ByteArray} : ∀ (A : List Grp) (st : LSt), GChain (st.ents.length + 1) A → Sized (entsA A) → st.ents.length + 1 + (entsA A).length < 1000000 → (∀ g ∈ A, (rdS l (bnm P g.1)).1 = layL g.1 g.2) →
  scanS l P st (A.map fun g => bnm P g.1) = ({ st with ents := st.ents ++ entsA A, segs := st.segs ++ segsA A }, [])
 | [], st, _, _, _, _ => by simp [scanS, entsA, segsA]
 | g :: A, st, ⟨h1, h2, h3⟩, hs, hn, hd => by
  have e : entsA (g :: A) = g.2 ++ entsA A := by unfold entsA; rw [List.flatMap_cons]
  rw [e] at hs hn ⊢
  rw [List.length_append] at hn
  have hg := hd g (List.mem_cons_self ..)
  have hsz : Sized g.2 := fun p hp => hs p (List.mem_append_left _ hp)
  have hF : entsF (st.ents.length + 1) (rdS l (bnm P g.1)).1 = (g.2, (layL g.1 g.2).length) := by rw [hg, ← h1]; exact entsF_lay0 hsz (by omega)
  have hl0 : 0 < (layL g.1 g.2).length := by
   have := layL_len g.1 g.2
   have := List.length_pos_iff.2 h2
   omega
  have htk : takeS l P st (bnm P g.1) = ({ st with ents := st.ents ++ g.2, segs := st.segs ++ [(g.1, (layL g.1 g.2).length)] }, true) := by
   unfold takeS
   rw [if_pos (by rw [h1]), hF, hg]
   simp only
   rw [if_pos (.inl hl0), h1]
   simp
  rw [List.map_cons, scanS, htk, if_pos rfl]
  have hne : (st.ents ++ g.2).length + 1 = st.ents.length + 1 + g.2.length := by rw [List.length_append]; omega
  have ih := scan_lay (l := l) (P := P) A { st with ents := st.ents ++ g.2, segs := st.segs ++ [(g.1, (layL g.1 g.2).length)] } (by simp only [hne]; exact h3) (fun p hp => hs p (List.mem_append_right _ hp)) (by simp only [hne]; omega) (fun q hq => hd q (List.mem_cons_of_mem _ hq))
  simp only at ih ⊢
  rw [ih]
  simp [segsA, List.append_assoc]
end Go.Proofs.YtdibkdgafidjgaaGreatDoor
namespace Go.Proofs.YtdibkdgafidjgaaGreatDoor
open Go.RowKit Go.Mer
def lastsOf (l : Files) (y : ByteArray) : Nat := match gget l y with | some c => c.lasts | none => 0
theorem lasts_get {l : Files} {y : ByteArray} {c : FileS} (h : gget l y = some c) : lastsOf l y = c.lasts := by unfold lastsOf; rw [h]
structure Laid (P : ByteArray) (s : DSt) (st : LSt) (A : List Grp) : Prop where
 ents : st.ents = entsA A
 segs : st.segs = segsA A
 chain : GChain 1 A
 key : ∀ g ∈ A, bnm P g.1 ∈ s.files.map (·.1)
 data : ∀ g ∈ A, (rdS s.files (bnm P g.1)).1 = layL g.1 g.2
 only : ∀ p ∈ s.files, isSegN P p.1 = true → ∃ g ∈ A, p.1 = bnm P g.1
 last : ∀ A0 g, A = A0 ++ [g] → (∀ h ∈ A0, (layL h.1 h.2).length ≤ lastsOf s.files (bnm P h.1)) ∧ (layL g.1 (g.2.take (st.synced - (entsA A0).length))).length ≤ lastsOf s.files (bnm P g.1)
 snc : st.synced ≤ st.ents.length
 sized : Sized st.ents
theorem laid0 (P : ByteArray) (room : Nat) : Laid P ⟨room, none, []⟩ st0 [] :=
 ⟨rfl, rfl, trivial, fun _ h => (by cases h), fun _ h => (by cases h), fun _ h => (by cases h), fun A0 g h => (by cases A0 <;> cases h), Nat.le_refl _, fun _ h => (by cases h)⟩
theorem snoc_inj {α : Type} {A B : List α} {x y : α} (h : A ++ [x] = B ++ [y]) : A = B ∧ x = y := by
 have := List.append_inj_left' h rfl
 have h2 := List.append_inj_right' h rfl
 injection h2 with h2
 exact ⟨this, h2⟩
theorem entsA_snoc (A : List Grp) (g : Grp) : entsA (A ++ [g]) = entsA A ++ g.2 := by unfold entsA; simp
theorem segsA_snoc (A : List Grp) (g : Grp) : segsA (A ++ [g]) = segsA A ++ [(g.1, (layL g.1 g.2).length)] := by unfold segsA; simp
theorem snoc_cases {α : Type} (A : List α) : A = [] ∨ ∃ B x, A = B ++ [x] := by
 rcases List.eq_nil_or_concat A with h | ⟨B, x, h⟩
 ·exact .inl h
 ·exact .inr ⟨B, x, by rw [h, List.concat_eq_append]⟩
section
variable {P : ByteArray} {s s' : DSt} {st st' : LSt} {A : List Grp}
theorem Laid.few (h : Laid P s st A) (hn : st.ents.length < 900000) : ∀ g ∈ A, g.1 < 1000000 := fun g hg => by
 have := chain_ge A 1 h.chain g hg
 rw [h.ents] at hn
 omega
theorem Laid.at_last {A0 : List Grp} {g : Grp} (h : Laid P s st (A0 ++ [g])) : GChain 1 A0 ∧ g.1 = 1 + (entsA A0).length ∧ g.2 ≠ [] := by
 have h1 := (chain_append A0 1 [g]).1 h.chain
 exact ⟨h1.1, h1.2.1, h1.2.2.1⟩
theorem Laid.turn (h : Laid P s st A) (he : st'.ents = st.ents) (hs : st'.segs = st.segs) (hy : st'.synced = st.synced) (hk : ∀ y, isSegN P y = true → (y ∈ s'.files.map (·.1) ↔ y ∈ s.files.map (·.1))) (hd : ∀ y, isSegN P y = true → (rdS s'.files y).1 = (rdS s.files y).1)
  (hl : ∀ y, isSegN P y = true → lastsOf s.files y ≤ lastsOf s'.files y) (hn : st.ents.length < 900000) : Laid P s' st' A := by
 have hseg : ∀ g ∈ A, isSegN P (bnm P g.1) = true := fun g hg => bnm_seg (by have := h.few hn g hg; omega)
 refine ⟨he.trans h.ents, hs.trans h.segs, h.chain, fun g hg => (hk _ (hseg g hg)).2 (h.key g hg), fun g hg => by rw [hd _ (hseg g hg)]; exact h.data g hg, fun p hp hx => ?_, fun A0 g hA => ?_, by rw [he, hy]; exact h.snc, by rw [he]; exact h.sized⟩
 ·obtain ⟨q, hq, e⟩ := List.mem_map.1 ((hk p.1 hx).1 (List.mem_map.2 ⟨p, hp, rfl⟩))
  rw [← e] at hx ⊢
  exact h.only q hq hx
 ·obtain ⟨h1, h2⟩ := h.last A0 g hA
  subst hA
  refine ⟨fun q hq => Nat.le_trans (h1 q hq) (hl _ (hseg q (List.mem_append_left _ hq))), ?_⟩
  rw [hy]
  exact Nat.le_trans h2 (hl _ (hseg g (by simp)))
theorem Laid.disk (h : Laid P s st A) (hf : s'.files = s.files) : Laid P s' st A := by
 obtain ⟨h1, h2, h3, h4, h5, h6, h7, h8, h9⟩ := h
 exact ⟨h1, h2, h3, by rw [hf]; exact h4, by rw [hf]; exact h5, by rw [hf]; exact h6, by rw [hf]; exact h7, h8, h9⟩
theorem Laid.dead (h : Laid P s st A) (b : Bool) : Laid P s { st with dead := b } A := ⟨h.ents, h.segs, h.chain, h.key, h.data, h.only, h.last, h.snc, h.sized⟩
theorem lay_full {g : Grp} {k : Nat} (h : g.2.length ≤ k) : layL g.1 (g.2.take k) = layL g.1 g.2 := by rw [List.take_of_length_le h]
theorem Laid.all (h : Laid P s st A) (hs : st.synced = st.ents.length) : ∀ g ∈ A, (layL g.1 g.2).length ≤ lastsOf s.files (bnm P g.1) := fun g hg => by
 rcases snoc_cases A with rfl | ⟨A0, q, rfl⟩
 ·cases hg
 ·obtain ⟨h1, h2⟩ := h.last A0 q rfl
  rcases List.mem_append.1 hg with hg | hg
  ·exact h1 g hg
  ·obtain rfl := List.mem_singleton.1 hg
   rw [lay_full (by rw [hs, h.ents, entsA_snoc, List.length_append]; omega)] at h2
   exact h2
theorem laid_syncs (h : Laid P s st A) (_ : st.ents.length < 900000) : Laid P (syncsS P s st).2.1 (syncsS P s st).2.2 A ∧ ((syncsS P s st).1 = 0 → (syncsS P s st).2.2.synced = st.ents.length) ∧ (syncsS P s st).2.2.ents = st.ents ∧ (syncsS P s st).2.2.segs = st.segs ∧ st.synced ≤ (syncsS P s st).2.2.synced := by
 unfold syncsS
 split
 ·next hlt =>
  rcases snoc_cases A with rfl | ⟨A0, g, rfl⟩
  ·have := h.ents
   rw [this] at hlt
   exact absurd hlt (Nat.not_lt_zero _)
  ·have hlast : st.segs.getLast? = some (g.1, (layL g.1 g.2).length) := by rw [h.segs, segsA_snoc]; simp
   rw [hlast]
   simp only
   by_cases h0 : (syS s (bnm P g.1)).1 = 0
   ·rw [if_pos h0]
    obtain ⟨_, _, h3⟩ := five_yes h0
    have hfs : (syS s (bnm P g.1)).2.files = syFiles s.files (bnm P g.1) := by unfold syS; rw [h3]
    obtain ⟨c, hc⟩ := get_ex (h.key g (by simp))
    have hcd : c.data = layL g.1 g.2 := by rw [← h.data g (by simp), rd_get hc]
    have hsf : syFiles s.files (bnm P g.1) = gset s.files (bnm P g.1) ⟨c.data, c.data.length⟩ := by unfold syFiles; rw [hc]
    rw [hsf] at hfs
    have hkey : ∀ y, y ∈ (gset s.files (bnm P g.1) ⟨c.data, c.data.length⟩).map (·.1) ↔ y ∈ s.files.map (·.1) := fun y => by
     rw [key_get, key_get]
     by_cases e : y = bnm P g.1
     ·rw [gget_is, if_pos e, e, hc]; simp
     ·rw [gget_is, if_neg e]
    have hdat : ∀ y, (rdS (gset s.files (bnm P g.1) ⟨c.data, c.data.length⟩) y).1 = (rdS s.files y).1 := fun y => by
     unfold rdS
     by_cases e : y = bnm P g.1
     ·rw [gget_is, if_pos e, e, hc]
     ·rw [gget_is, if_neg e]
    have hlas : ∀ y, lastsOf (gset s.files (bnm P g.1) ⟨c.data, c.data.length⟩) y = if y = bnm P g.1 then c.data.length else lastsOf s.files y := fun y => by
     unfold lastsOf
     by_cases e : y = bnm P g.1
     ·rw [gget_is, if_pos e, if_pos e]
     ·rw [gget_is, if_neg e, if_neg e]
    refine ⟨⟨h.ents, h.segs, h.chain, fun q hq => ?_, fun q hq => ?_, fun p hp hx => ?_, fun B q hA => ?_, Nat.le_refl _, h.sized⟩, fun _ => rfl, rfl, rfl, by simp only; omega⟩
    ·rw [hfs, hkey]; exact h.key q hq
    ·rw [hfs, hdat]; exact h.data q hq
    ·rw [hfs] at hp
     obtain ⟨p', hp', e⟩ := List.mem_map.1 ((hkey p.1).1 (List.mem_map.2 ⟨p, hp, rfl⟩))
     rw [← e] at hx ⊢
     exact h.only p' hp' hx
    ·obtain ⟨rfl, rfl⟩ := snoc_inj hA
     obtain ⟨h4, h5⟩ := h.last A0 g rfl
     rw [hfs]
     refine ⟨fun q hq => ?_, ?_⟩
     ·rw [hlas]
      split
      ·next e =>
       have h6 := chain_rise _ _ h.chain
       rw [List.map_append, List.pairwise_append] at h6
       have h7 := h6.2.2 q.1 (List.mem_map.2 ⟨q, hq, rfl⟩) g.1 (by simp)
       have := bnm_inj e
       omega
      ·exact h4 q hq
     ·rw [hlas, if_pos rfl, hcd]
      have hsl : g.2.length ≤ st.ents.length - (entsA A0).length := by rw [h.ents, entsA_snoc, List.length_append]; omega
      rw [show layL g.1 (g.2.take (st.ents.length - (entsA A0).length)) = layL g.1 g.2 from lay_full hsl]
      exact Nat.le_refl _
   ·rw [if_neg h0, show (syS s (bnm P g.1)).2 = s from five_no h0]
    exact ⟨h, fun e => absurd e h0, rfl, rfl, Nat.le_refl _⟩
 ·next hge => exact ⟨h, fun _ => by have := h.snc; show st.synced = _; omega, rfl, rfl, Nat.le_refl _⟩
theorem laid_snc (h : Laid P s st A) (hn : st.ents.length < 900000) : Laid P (sncS P s st).2.1 (sncS P s st).2.2 A ∧ ((sncS P s st).1 = 0 → (sncS P s st).2.2.synced = st.ents.length) ∧ (sncS P s st).2.2.ents = st.ents ∧ st.synced ≤ (sncS P s st).2.2.synced := by
 unfold sncS
 split
 ·exact ⟨h, fun e => (by cases e), rfl, Nat.le_refl _⟩
 ·obtain ⟨h1, h2, h3, _, h5⟩ := laid_syncs h hn
  exact ⟨h1.dead _, h2, h3, h5⟩
theorem laid_pre (h : Laid P s st A) (hn : st.ents.length < 900000) : Laid P (preS P s st).2.1 (preS P s st).2.2 A ∧ ((preS P s st).1 = 0 → freshS st = true → st.segs ≠ [] → (preS P s st).2.2.synced = st.ents.length) ∧ (preS P s st).2.2.ents = st.ents ∧ (preS P s st).2.2.segs = st.segs ∧ st.synced ≤ (preS P s st).2.2.synced := by
 unfold preS
 split
 ·obtain ⟨h1, h2, h3, h4, h5⟩ := laid_syncs h hn
  exact ⟨h1, fun e _ _ => h2 e, h3, h4, h5⟩
 ·next hno => exact ⟨h, fun _ h1 h2 => absurd ⟨h1, h2⟩ hno, rfl, rfl, Nat.le_refl _⟩
theorem wr_key (l : Files) (x : ByteArray) (b : List UInt8) (y : ByteArray) : y ∈ (wrFiles l x b).map (·.1) ↔ y = x ∨ y ∈ l.map (·.1) := by
 rw [key_get, key_get]
 unfold wrFiles
 cases hg : gget l x with
 | none =>
  simp only
  by_cases e : y = x
  ·rw [gget_is, if_pos e]; simp [e]
  ·rw [gget_is, if_neg e]; simp [e]
 | some c =>
  simp only
  by_cases e : y = x
  ·rw [gget_is, if_pos e]; simp [e]
  ·rw [gget_is, if_neg e]; simp [e]
theorem wr_lasts (l : Files) (x : ByteArray) (b : List UInt8) (y : ByteArray) : lastsOf (wrFiles l x b) y = lastsOf l y := by
 unfold wrFiles lastsOf
 cases hg : gget l x with
 | none =>
  simp only
  by_cases e : y = x
  ·rw [gget_is, if_pos e, e, hg]
  ·rw [gget_is, if_neg e]
 | some c =>
  simp only
  by_cases e : y = x
  ·rw [gget_is, if_pos e, e, hg]
  ·rw [gget_is, if_neg e]
theorem laid_add (h : Laid P s st A) (hn : st.ents.length < 900000) (hfs : freshS st = true → st.segs ≠ [] → st.synced = st.ents.length) {p : List UInt8} (hp : p.length ≤ 262134) (hs : s'.files = wrFiles s.files (toN P st) (entL (st.ents.length + 1) p)) : ∃ A', Laid P s' (addS st p) A' := by
 have hea : (addS st p).ents = st.ents ++ [p] := rfl
 have hya : (addS st p).synced = st.synced := rfl
 have hsz : Sized (addS st p).ents := fun q hq => by
  rw [hea] at hq
  rcases List.mem_append.1 hq with hq | hq
  ·exact h.sized q hq
  ·obtain rfl := List.mem_singleton.1 hq; exact hp
 have hlt : ∀ g ∈ A, g.1 < st.ents.length + 1 := fun g hg => by
  have := chain_ge A 1 h.chain g hg
  rw [h.ents]
  omega
 have hb : ∀ n, n ≤ st.ents.length + 1 → isSegN P (bnm P n) = true := fun n hn' => bnm_seg (by omega)
 by_cases hf : freshS st = true
 ·have hto : toN P st = bnm P (st.ents.length + 1) := by unfold toN; rw [if_pos hf]
  rw [hto] at hs
  have hnew : bnm P (st.ents.length + 1) ∉ s.files.map (·.1) := fun hm => by
   obtain ⟨q, hq, e⟩ := List.mem_map.1 hm
   obtain ⟨g, hg, e2⟩ := h.only q hq (by rw [e]; exact hb _ (Nat.le_refl _))
   have := bnm_inj (e.symm.trans e2)
   have := hlt g hg
   omega
  have hno : (rdS s.files (bnm P (st.ents.length + 1))).1 = [] := rd_none (gget_none_iff.2 hnew)
  refine ⟨A ++ [(st.ents.length + 1, [p])], ?_, ?_, ?_, ?_, ?_, ?_, ?_, ?_, hsz⟩
  ·rw [hea, entsA_snoc, h.ents]
  ·rw [segsA_snoc, ← h.segs, layL_one]
   show (if freshS st = true then _ else _) = _
   rw [if_pos hf]
  ·rw [chain_append]
   exact ⟨h.chain, by simp only [← h.ents]; omega, by simp, trivial⟩
  ·intro g hg
   rw [hs, wr_key]
   rcases List.mem_append.1 hg with hg | hg
   ·exact .inr (h.key g hg)
   ·obtain rfl := List.mem_singleton.1 hg; exact .inl rfl
  ·intro g hg
   rw [hs, wr_rd]
   rcases List.mem_append.1 hg with hg | hg
   ·rw [if_neg (fun e => by have := bnm_inj e; have := hlt g hg; omega)]
    exact h.data g hg
   ·obtain rfl := List.mem_singleton.1 hg
    rw [if_pos rfl, hno, layL_one]
    rfl
  ·intro q hq hx
   rw [hs] at hq
   rcases wr_keys hq with e | ⟨q', hq', e⟩
   ·exact ⟨_, List.mem_append_right _ (List.mem_singleton.2 rfl), e⟩
   ·rw [← e] at hx ⊢
    obtain ⟨g, hg, e2⟩ := h.only q' hq' hx
    exact ⟨g, List.mem_append_left _ hg, e2⟩
  ·intro B g hA
   obtain ⟨rfl, rfl⟩ := snoc_inj hA
   rw [hs]
   refine ⟨fun q hq => ?_, ?_⟩
   ·rw [wr_lasts]
    refine h.all (hfs hf fun h0 => ?_) q hq
    rw [h.segs] at h0
    have : A = [] := List.map_eq_nil_iff.1 h0
    rw [this] at hq
    cases hq
   ·rw [hya, show st.synced - (entsA A).length = 0 by rw [← h.ents]; have := h.snc; omega, List.take_zero]
    exact Nat.zero_le _
  ·rw [hya, hea, List.length_append]; have := h.snc; omega
 ·have hf' : freshS st = false := by simpa using hf
  rcases snoc_cases A with rfl | ⟨A0, g, rfl⟩
  ·exact absurd (fresh_none (by rw [h.segs]; rfl)) (by rw [hf']; simp)
  obtain ⟨hc1, hc2, hc3⟩ := h.at_last
  have hsg : st.segs = segsA A0 ++ [(g.1, (layL g.1 g.2).length)] := by rw [h.segs, segsA_snoc]
  have hto : toN P st = bnm P g.1 := by unfold toN; rw [if_neg hf, lastNo_last hsg]
  rw [hto] at hs
  have hnum : g.1 + g.2.length = st.ents.length + 1 := by
   rw [h.ents, entsA_snoc, List.length_append]
   omega
  have hlay : layL g.1 (g.2 ++ [p]) = layL g.1 g.2 ++ entL (st.ents.length + 1) p := by rw [layL_append, layL_one, hnum]
  have hgl : ∀ q ∈ A0, q.1 < g.1 := fun q hq => by
   have := chain_ge A0 1 hc1 q hq
   omega
  refine ⟨A0 ++ [(g.1, g.2 ++ [p])], ?_, ?_, ?_, ?_, ?_, ?_, ?_, ?_, hsz⟩
  ·rw [hea, entsA_snoc, h.ents, entsA_snoc, List.append_assoc]
  ·rw [segsA_snoc, hlay, List.length_append]
   rw [add_old hf' hsg]
  ·rw [chain_append]
   exact ⟨hc1, hc2, by simp, trivial⟩
  ·intro q hq
   rw [hs, wr_key]
   rcases List.mem_append.1 hq with hq | hq
   ·exact .inr (h.key q (List.mem_append_left _ hq))
   ·obtain rfl := List.mem_singleton.1 hq; exact .inl rfl
  ·intro q hq
   rw [hs, wr_rd]
   rcases List.mem_append.1 hq with hq | hq
   ·rw [if_neg (fun e => by have := bnm_inj e; have := hgl q hq; omega)]
    exact h.data q (List.mem_append_left _ hq)
   ·obtain rfl := List.mem_singleton.1 hq
    show (if bnm P g.1 = bnm P g.1 then _ else _) = _
    rw [if_pos rfl, h.data g (by simp), hlay]
  ·intro q hq hx
   rw [hs] at hq
   have hall : ∀ q' ∈ s.files, isSegN P q'.1 = true → ∃ g' ∈ A0 ++ [(g.1, g.2 ++ [p])], q'.1 = bnm P g'.1 := fun q' hq' hx' => by
    obtain ⟨g', hg', e2⟩ := h.only q' hq' hx'
    rcases List.mem_append.1 hg' with hg' | hg'
    ·exact ⟨g', List.mem_append_left _ hg', e2⟩
    ·obtain rfl := List.mem_singleton.1 hg'
     exact ⟨_, List.mem_append_right _ (List.mem_singleton.2 rfl), e2⟩
   rcases wr_keys hq with e | ⟨q', hq', e⟩
   ·exact ⟨_, List.mem_append_right _ (List.mem_singleton.2 rfl), e⟩
   ·rw [← e] at hx ⊢
    exact hall q' hq' hx
  ·intro B q hA
   obtain ⟨rfl, rfl⟩ := snoc_inj hA
   obtain ⟨h4, h5⟩ := h.last A0 g rfl
   rw [hs]
   refine ⟨fun q hq => ?_, ?_⟩
   ·rw [wr_lasts]; exact h4 q hq
   ·rw [wr_lasts, hya]
    simp only
    rw [List.take_append_of_le_length (by have := h.snc; rw [h.ents, entsA_snoc, List.length_append] at this; omega)]
    exact h5
  ·rw [hya, hea, List.length_append]; have := h.snc; omega
theorem laid_app (h : Laid P s st A) (hn : st.ents.length < 900000) (p : List UInt8) : ∃ A', Laid P (appS P s st p).2.1 (appS P s st p).2.2 A' ∧ ((appS P s st p).1.2 = 0 → (appS P s st p).2.2.ents = st.ents ++ [p]) ∧ ((appS P s st p).1.2 ≠ 0 → (appS P s st p).2.2.ents = st.ents) ∧ st.synced ≤ (appS P s st p).2.2.synced := by
 unfold appS
 split
 ·exact ⟨A, h, fun e => (by cases e), fun _ => rfl, Nat.le_refl _⟩
 ·split
  ·exact ⟨A, h, fun e => (by cases e), fun _ => rfl, Nat.le_refl _⟩
  ·next hpl =>
   obtain ⟨h1, h2, h3, h4, h5⟩ := laid_pre h hn
   split
   ·next h0 =>
    simp only
    split
    ·next h6 =>
     have hfr : freshS (preS P s st).2.2 = freshS st := by unfold freshS; rw [h4]
     have hto : toN P (preS P s st).2.2 = toN P st := by unfold toN freshS lastNo; rw [h3, h4]
     obtain ⟨A', hA'⟩ := laid_add h1 (by rw [h3]; exact hn) (fun hf hs => by rw [h3]; exact h2 h0 (hfr ▸ hf) (h4 ▸ hs)) (p := p) (by omega) (s' := (wrS (preS P s st).2.1 (toN P st) (entL (st.ents.length + 1) p)).2) (by rw [hto, h3]; exact wr_data h6)
     exact ⟨A', hA', fun _ => by show (preS P s st).2.2.ents ++ [p] = _; rw [h3], fun e => absurd rfl e, h5⟩
    ·next h6 =>
     rw [show (wrS (preS P s st).2.1 (toN P st) (entL (st.ents.length + 1) p)).2 = (preS P s st).2.1 from five_no h6]
     exact ⟨A, h1.dead _, fun e => absurd e h6, fun _ => h3, h5⟩
   ·next h0 => exact ⟨A, h1.dead _, fun e => absurd e h0, fun _ => h3, h5⟩
theorem laid_open (h : Laid P s st A) (hf : Free s) (hn : st.ents.length < 900000) : ∃ s' st', openS P s (nmS s.files) = (0, s', st') ∧ Opened P s s' st' ∧ st'.ents = entsA A ∧ st'.segs = segsA A := by
 obtain ⟨s', st', h1, h2⟩ := open_free P hf
 refine ⟨s', st', h1, h2, ?_⟩
 have ho : (nmS s.files).filter (isSegN P) = A.map fun g => bnm P g.1 := by
  have := segs_order (P := P) (l := s.files) (S := A.map (·.1)) hf.nodup (chain_rise A 1 h.chain) (fun n hn' => by
   obtain ⟨g, hg, rfl⟩ := List.mem_map.1 hn'
   have := h.few hn g hg
   omega) (fun n hn' => by
   obtain ⟨g, hg, rfl⟩ := List.mem_map.1 hn'
   exact h.key g hg) (fun p hp hx => by
   obtain ⟨g, hg, e⟩ := h.only p hp hx
   exact ⟨g.1, List.mem_map.2 ⟨g, hg, rfl⟩, e⟩)
  rw [this, List.map_map]
  rfl
 have hsc := scan_lay (l := s.files) (P := P) A st0 h.chain (by rw [← h.ents]; exact h.sized) (by rw [← h.ents]; have : st0.ents.length = 0 := rfl; omega) h.data
 have hs2 := h2.scan
 rw [ho, hsc] at hs2
 exact ⟨hs2.1.trans (List.nil_append _), hs2.2.trans (List.nil_append _)⟩
end
end Go.Proofs.YtdibkdgafidjgaaGreatDoor
namespace Go.Proofs.YtdibkdgafidjgaaGreatDoor
open Go.RowKit Go.Mer
theorem xor_div (a b : Nat) : (a ^^^ b) / 2 = a / 2 ^^^ b / 2 := by
 refine Nat.eq_of_testBit_eq fun i => ?_
 rw [Nat.testBit_div_two, Nat.testBit_xor, Nat.testBit_xor, Nat.testBit_div_two, Nat.testBit_div_two]
theorem xor_mod (a b : Nat) : (a ^^^ b) % 2 = (a % 2 + b % 2) % 2 := by
 have h : (a ^^^ b) % 2 ^ 1 = a % 2 ^ 1 ^^^ b % 2 ^ 1 := Nat.xor_mod_two_pow
 rw [Nat.pow_one] at h
 rw [h]
 rcases Nat.mod_two_eq_zero_or_one a with ha | ha <;> rcases Nat.mod_two_eq_zero_or_one b with hb | hb <;> rw [ha, hb] <;> rfl
theorem xor_join (a b x y : Nat) (hx : x < 256) (hy : y < 256) : (256 * a + x) ^^^ (256 * b + y) = 256 * (a ^^^ b) + (x ^^^ y) := by
 have e : (256 : Nat) = 2 ^ 8 := by decide
 have hxy : x ^^^ y < 2 ^ 8 := Nat.xor_lt_two_pow (by omega) (by omega)
 refine Nat.eq_of_testBit_eq fun i => ?_
 rw [e] at hx hy ⊢
 rw [Nat.testBit_xor, Nat.testBit_two_pow_mul_add _ hx, Nat.testBit_two_pow_mul_add _ hy, Nat.testBit_two_pow_mul_add _ hxy]
 split
 ·rw [Nat.testBit_xor]
 ·rw [Nat.testBit_xor]
theorem crcBit_xor (a b : Nat) : crcBit (a ^^^ b) = crcBit a ^^^ crcBit b := by
 unfold crcBit
 have h := xor_mod a b
 rw [xor_div]
 rcases Nat.mod_two_eq_zero_or_one a with ha | ha <;> rcases Nat.mod_two_eq_zero_or_one b with hb | hb <;> rw [ha, hb] at h <;> rw [ha, hb, h]
 ·rfl
 ·simp only [Nat.zero_add, Nat.one_mod, if_true, Nat.reduceEqDiff, if_false]
  rw [Nat.xor_assoc]
 ·simp only [Nat.add_zero, Nat.one_mod, if_true, Nat.reduceEqDiff, if_false]
  rw [Nat.xor_assoc, Nat.xor_comm (b / 2), ← Nat.xor_assoc]
 ·simp only [Nat.reduceAdd, Nat.reduceMod, if_true, Nat.reduceEqDiff, if_false]
  rw [Nat.xor_assoc (a / 2) 3988292384, Nat.xor_comm (b / 2) 3988292384, ← Nat.xor_assoc 3988292384 3988292384, Nat.xor_self, Nat.zero_xor]
theorem crcBits_xor (n : Nat) : ∀ a b, crcBits n (a ^^^ b) = crcBits n a ^^^ crcBits n b := by
 induction n with
 | zero => intro a b; rfl
 | succ n ih => intro a b; rw [crcBits_succ, crcBits_succ, crcBits_succ, ih, crcBit_xor]
def tornF (a : Nat) (t : UInt8) (l : List UInt8) : List UInt8 := l.mapIdx fun j x => if a ≤ j then x ^^^ t else x
theorem tornF_nil (a : Nat) (t : UInt8) : tornF a t [] = [] := rfl
theorem tornF_cons (a : Nat) (t : UInt8) (x : UInt8) (l : List UInt8) : tornF a t (x :: l) = (if a = 0 then x ^^^ t else x) :: tornF (a - 1) t l := by
 unfold tornF
 rw [List.mapIdx_cons]
 congr 1
 ·simp
 ·refine List.ext_getElem? fun i => ?_
  rw [List.getElem?_mapIdx, List.getElem?_mapIdx]
  have : (a ≤ i + 1) = (a - 1 ≤ i) := by rw [eq_iff_iff]; omega
  simp only [this]
theorem tornF_len (a : Nat) (t : UInt8) (l : List UInt8) : (tornF a t l).length = l.length := by unfold tornF; simp
theorem tornF_append (a : Nat) (t : UInt8) (l m : List UInt8) : tornF a t (l ++ m) = tornF a t l ++ tornF (a - l.length) t m := by
 induction l generalizing a with
 | nil => rfl
 | cons x l ih =>
  rw [List.cons_append, tornF_cons, tornF_cons, ih, List.cons_append, List.length_cons]
  congr 3
  omega
theorem tornF_no {a : Nat} {t : UInt8} {l : List UInt8} (h : l.length ≤ a) : tornF a t l = l := by
 induction l generalizing a with
 | nil => rfl
 | cons x l ih =>
  rw [List.length_cons] at h
  rw [tornF_cons, if_neg (by omega), ih (by omega)]
theorem tornF_zero (a : Nat) (l : List UInt8) : tornF a 0 l = l := by
 induction l generalizing a with
 | nil => rfl
 | cons x l ih =>
  rw [tornF_cons, ih]
  congr 1
  split
  ·simp
  ·rfl
theorem crcRun_torn (a : Nat) (t : UInt8) : ∀ (l : List UInt8) (c d : Nat), a ≤ l.length → crcRun (c ^^^ d) (tornF a t l) = crcRun c l ^^^ crcRun d (tornF a t (List.replicate l.length 0)) := by
 intro l
 induction l generalizing a with
 | nil => intro c d _; rfl
 | cons x l ih =>
  intro c d h
  rw [List.length_cons, List.replicate_succ, tornF_cons, tornF_cons]
  show crcRun (crcByte (c ^^^ d) _) _ = crcRun (crcByte c x) l ^^^ crcRun (crcByte d _) _
  have e : crcByte (c ^^^ d) (if a = 0 then x ^^^ t else x) = crcByte c x ^^^ crcByte d (if a = 0 then 0 ^^^ t else 0) := by
   unfold crcByte
   rw [← crcBits_xor]
   congr 1
   split
   ·rw [UInt8.toNat_xor, UInt8.toNat_xor]
    show c ^^^ d ^^^ (x.toNat ^^^ t.toNat) = c ^^^ x.toNat ^^^ (d ^^^ (0 ^^^ t.toNat))
    rw [Nat.zero_xor, Nat.xor_assoc, Nat.xor_assoc, ← Nat.xor_assoc d, Nat.xor_comm d, Nat.xor_assoc]
   ·show c ^^^ d ^^^ x.toNat = c ^^^ x.toNat ^^^ (d ^^^ 0)
    rw [Nat.xor_zero, Nat.xor_assoc, Nat.xor_comm d, ← Nat.xor_assoc]
  rw [e]
  exact ih (a - 1) _ _ (by rw [List.length_cons] at h; omega)
def headTest : Bool := (List.range 4).all fun a => (List.range 256).all fun t => t == 0 || crcRun 0 (tornF a (UInt8.ofNat t) [0, 0, 0, 0]) != t * 16843009
theorem headTest_ok : headTest = true := by kernel_rfl
theorem headTest_at {a : Nat} (ha : a < 4) {t : UInt8} (ht : t ≠ 0) : crcRun 0 (tornF a t [0, 0, 0, 0]) ≠ t.toNat * 16843009 := by
 have h := headTest_ok
 unfold headTest at h
 rw [List.all_eq_true] at h
 have h1 := h a (List.mem_range.2 ha)
 rw [List.all_eq_true] at h1
 have h2 := h1 t.toNat (List.mem_range.2 t.toNat_lt)
 have h3 : t.toNat ≠ 0 := fun e => ht (UInt8.toNat_inj.1 e)
 have h4 : UInt8.ofNat t.toNat = t := by rw [UInt8.ofNat_toNat]
 rw [h4] at h2
 simpa [h3] using h2
theorem from4_xor (b : List UInt8) (hb : b.length = 4) (t : UInt8) : from4 (tornF 0 t b) = from4 b ^^^ t.toNat * 16843009 := by
 match b, hb with
 | [b0, b1, b2, b3], _ =>
  have e : tornF 0 t [b0, b1, b2, b3] = [b0 ^^^ t, b1 ^^^ t, b2 ^^^ t, b3 ^^^ t] := rfl
  rw [e]
  have k : ∀ x0 x1 x2 x3 : UInt8, from4 [x0, x1, x2, x3] = 256 * (256 * (256 * x3.toNat + x2.toNat) + x1.toNat) + x0.toNat := fun x0 x1 x2 x3 => by
   show x0.toNat + x1.toNat * 256 + x2.toNat * 65536 + x3.toNat * 16777216 = _
   omega
  have kt : t.toNat * 16843009 = 256 * (256 * (256 * t.toNat + t.toNat) + t.toNat) + t.toNat := by omega
  rw [kt, k, k, xor_join _ _ _ _ b0.toNat_lt t.toNat_lt, xor_join _ _ _ _ b1.toNat_lt t.toNat_lt, xor_join _ _ _ _ b2.toNat_lt t.toNat_lt, UInt8.toNat_xor, UInt8.toNat_xor, UInt8.toNat_xor, UInt8.toNat_xor]
theorem torn_head {v a : Nat} (ha : a < 8) {t : UInt8} (ht : t ≠ 0) : ∀ r : List UInt8, deF (tornF a t (headL v) ++ r) = none := fun r => by
 have hlen : (tornF a t (headL v)).length = 8 := by rw [tornF_len, headL_length]
 unfold deF
 split
 ·rfl
 ·split
  ·rfl
  ·next h8 hh =>
   exfalso
   have hh' := Decidable.byContradiction hh
   rw [head_iff _ (by omega)] at hh'
   obtain ⟨u, hu⟩ : ∃ u, u = fourL v := ⟨_, rfl⟩
   have hul : u.length = 4 := by rw [hu]; rfl
   obtain ⟨c, hc⟩ : ∃ c, c = fourL (crc u) := ⟨_, rfl⟩
   have hcl : c.length = 4 := by rw [hc]; rfl
   have hhd : headL v = u ++ c := by rw [hc, hu]; rfl
   rw [hhd, tornF_append, hul, List.append_assoc] at hh'
   have h1 : (tornF a t u).length = 4 := by rw [tornF_len, hul]
   rw [List.drop_left' h1, List.take_left' h1] at hh'
   have hc4 : from4 c = crc u := by
    have := from4_four (crc u) (crc_lt u) []
    rwa [List.append_nil, ← hc] at this
   have hd4 : from4 (tornF (a - 4) t c ++ r) = from4 (tornF (a - 4) t c) := by
    rw [← from4_take _ 4 (Nat.le_refl _), List.take_left' (by rw [tornF_len, hcl])]
   rw [hd4] at hh'
   by_cases h4 : 4 ≤ a
   ·rw [tornF_no (l := u) (a := a) (by omega), ← hc4] at hh'
    have hi := from4_inj (by rw [tornF_len, hcl]; exact Nat.le_refl _) (by rw [hcl]; exact Nat.le_refl _) hh'
    rw [List.take_of_length_le (by rw [tornF_len, hcl]; exact Nat.le_refl _), List.take_of_length_le (by rw [hcl]; exact Nat.le_refl _)] at hi
    have hg := congrArg (fun l : List UInt8 => l[a - 4]?) hi
    simp only [tornF, List.getElem?_mapIdx] at hg
    rw [List.getElem?_eq_getElem (by omega)] at hg
    simp only [Option.map_some, Nat.le_refl, if_true, Option.some.injEq] at hg
    apply ht
    have h5 := congrArg (fun x => c[a - 4] ^^^ x) hg
    simp only [← UInt8.xor_assoc, UInt8.xor_self, UInt8.zero_xor] at h5
    exact h5
   ·rw [show a - 4 = 0 by omega, from4_xor c hcl t, hc4] at hh'
    have hr := crcRun_torn a t u 4294967295 0 (by omega)
    rw [Nat.xor_zero, hul] at hr
    have he : crc (tornF a t u) = crc u ^^^ crcRun 0 (tornF a t [0, 0, 0, 0]) := by
     unfold crc
     rw [hr]
     show crcRun 4294967295 u ^^^ crcRun 0 (tornF a t [0, 0, 0, 0]) ^^^ 4294967295 = _
     rw [Nat.xor_assoc, Nat.xor_comm (crcRun 0 _), ← Nat.xor_assoc]
    rw [he] at hh'
    have h6 := congrArg (fun x => crc u ^^^ x) hh'
    simp only [← Nat.xor_assoc, Nat.xor_self, Nat.zero_xor] at h6
    exact headTest_at (by omega) ht h6.symm
theorem short_none {n : Nat} {p : List UInt8} {b : List UInt8} (hn : n < 1000000) (hp : p.length ≤ 262134) (hb : b.length < (entL n p).length) (h8 : b.take 8 = (entL n p).take 8) : deF b = none := by
 unfold deF
 split
 ·rfl
 ·next hl8 =>
  have hl := numL_length 3 n (by omega)
  have hfb : from4 b = (numL n ++ p).length := by
   rw [← from4_take b 8 (by omega), h8, from4_take _ 8 (by omega)]
   unfold entL frameL bodyL headL
   rw [List.append_assoc, List.append_assoc, List.append_assoc]
   exact from4_four _ (by rw [List.length_append]; omega) _
  have hel : (entL n p).length = (numL n ++ p).length + 12 := by unfold entL; rw [frameL_length]
  split
  ·rfl
  ·split
   ·rfl
   ·rw [if_pos (by omega)]
theorem ent_head (n : Nat) (p : List UInt8) : ∃ r, entL n p = headL (numL n ++ p).length ++ r := ⟨(numL n ++ p) ++ fourL (crc (bodyL (numL n ++ p))), by unfold entL frameL; unfold bodyL; rw [List.append_assoc]⟩
theorem lay_torn_none {n : Nat} {l : List (List UInt8)} {t : UInt8} (ht : t ≠ 0) (m : Nat) : deF (tornF 0 t ((layL n l).take m)) = none := by
 by_cases hm : ((layL n l).take m).length < 8
 ·unfold deF
  rw [if_pos (by rw [tornF_len]; exact hm)]
 ·cases l with
  | nil => exfalso; apply hm; simp [layL]
  | cons p l =>
   obtain ⟨r, hr⟩ := ent_head n p
   rw [layL, hr, List.append_assoc, List.take_append, List.take_of_length_le (by rw [headL_length]; rw [List.length_take] at hm; omega), tornF_append]
   exact torn_head (by omega) ht _
theorem torn_ents {t : UInt8} : ∀ (l : List (List UInt8)) (n a σ : Nat), Sized l → n + l.length < 1000000 → (t ≠ 0 ∨ σ ≤ a) →
  ∃ j e, (entsF n (tornF a t ((layL n l).take σ))).1 = l.take j ++ e ∧ j + e.length ≤ l.length ∧ e.length ≤ 1 ∧ ∀ m, m ≤ l.length → (layL n (l.take m)).length ≤ min a σ → m ≤ j
 | [], n, a, σ, _, _, _ => ⟨0, [], by simp [layL, tornF_nil, entsF_none _ deF_nil], by simp, by simp, fun m hm _ => hm⟩
 | p :: l, n, a, σ, hs, hn, ht => by
  rw [List.length_cons] at hn
  have hp := hs p (List.mem_cons_self ..)
  obtain ⟨f, hf⟩ : ∃ f, f = (entL n p).length := ⟨_, rfl⟩
  have hf12 : 12 ≤ f := by rw [hf]; unfold entL; rw [frameL_length]; omega
  rw [layL]
  by_cases hlt : f ≤ min a σ
  ·have e1 : tornF a t ((entL n p ++ layL (n + 1) l).take σ) = entL n p ++ tornF (a - f) t ((layL (n + 1) l).take (σ - f)) := by
    rw [List.take_append, ← hf, List.take_of_length_le (by omega), tornF_append, ← hf, tornF_no (by omega)]
   obtain ⟨j, e, h1, h2, h3, h4⟩ := torn_ents l (n + 1) (a - f) (σ - f) (fun q hq => hs q (List.mem_cons_of_mem _ hq)) (by omega) (ht.imp id fun h => by omega)
   refine ⟨j + 1, e, ?_, by rw [List.length_cons]; omega, h3, fun m hm hml => ?_⟩
   ·rw [e1, entsF_more (de_ent (by omega) hp _) (numD_num n (by omega) p), List.drop_left, h1]
    simp
   ·cases m with
    | zero => exact Nat.zero_le _
    | succ m =>
     rw [List.take_succ_cons, layL, List.length_append, ← hf] at hml
     have := h4 m (by rw [List.length_cons] at hm; omega) (by omega)
     omega
  ·have hm0 : ∀ m, m ≤ (p :: l).length → (layL n ((p :: l).take m)).length ≤ min a σ → m ≤ 0 := fun m _ hml => by
    cases m with
    | zero => exact Nat.le_refl _
    | succ m =>
     rw [List.take_succ_cons, layL, List.length_append, ← hf] at hml
     omega
   obtain ⟨b, hb⟩ : ∃ b, b = tornF a t ((entL n p ++ layL (n + 1) l).take σ) := ⟨_, rfl⟩
   rw [← hb]
   have hbl : b.length ≤ σ := by rw [hb, tornF_len, List.length_take]; omega
   suffices hk : (entsF n b).1.length ≤ 1 by
    exact ⟨0, (entsF n b).1, by simp, by rw [List.length_cons]; omega, hk, hm0⟩
   cases hd : deF b with
   | none => rw [entsF_none _ hd]; exact Nat.zero_le _
   | some x =>
    obtain ⟨q, k⟩ := x
    obtain ⟨hk1, hk2, _⟩ := deF_some hd
    by_cases hq : ∃ q', numD 0 0 q = some (n, q')
    ·obtain ⟨q', hq⟩ := hq
     rw [entsF_more hd hq]
     obtain ⟨r, hr⟩ := ent_head n p
     have ha8 : 8 ≤ a := by
      apply Decidable.byContradiction
      intro hno
      have h8σ : 8 ≤ σ := by omega
      rcases ht with ht | ht
      ·rw [hb, hr, List.append_assoc, List.take_append, List.take_of_length_le (l := headL (numL n ++ p).length) (i := σ) (by rw [headL_length]; omega), tornF_append, torn_head (by omega) ht] at hd
       cases hd
      ·omega
     have hσ8 : 8 ≤ σ := by omega
     have hb8 : b.take 8 = headL (numL n ++ p).length := by
      rw [hb, hr, List.append_assoc, List.take_append, List.take_of_length_le (l := headL (numL n ++ p).length) (i := σ) (by rw [headL_length]; omega), tornF_append, tornF_no (l := headL (numL n ++ p).length) (a := a) (by rw [headL_length]; omega)]
      exact List.take_left' (headL_length _)
     have he8 : (entL n p).take 8 = headL (numL n ++ p).length := by rw [hr]; exact List.take_left' (headL_length _)
     have hfσ : f ≤ b.length := by
      apply Decidable.byContradiction
      intro hno
      rw [short_none (n := n) (p := p) (b := b) (by omega) hp (by rw [← hf]; omega) (by rw [hb8, he8])] at hd
      cases hd
     have hkf : k = f := by
      have hl := numL_length 3 n (by omega)
      have h1 : from4 b = (numL n ++ p).length := by
       rw [← from4_take b 8 (by omega), hb8]
       unfold headL
       exact from4_four _ (by rw [List.length_append]; omega) _
      unfold deF at hd
      split at hd
      ·cases hd
      ·split at hd
       ·cases hd
       ·split at hd
        ·cases hd
        ·split at hd
         ·cases hd
         ·split at hd
          ·cases hd
          ·injection hd with hd
           injection hd with _ hd
           rw [hf, ← hd, h1]
           unfold entL
           rw [frameL_length]
     have hfa : a < f := by omega
     have htz : t ≠ 0 := ht.resolve_right (by omega)
     have e1 : b.drop k = tornF 0 t ((layL (n + 1) l).take (σ - f)) := by
      rw [hb, List.take_append, ← hf, List.take_of_length_le (by omega), tornF_append, ← hf, hkf, show a - f = 0 by omega]
      exact List.drop_left' (by rw [tornF_len, hf])
     rw [e1, entsF_none _ (lay_torn_none htz _)]
     simp
    ·rw [entsF_bad hd fun q' h => hq ⟨q', h⟩]
     exact Nat.zero_le _
theorem torn_tornF {l : List UInt8} {a b : Nat} (t : UInt8) (h : l.length ≤ b) : torn l a b t = tornF a t l := by
 unfold torn tornF
 refine List.ext_getElem? fun i => ?_
 rw [List.getElem?_mapIdx, List.getElem?_mapIdx]
 by_cases hi : i < l.length
 ·have : (a ≤ i ∧ i < b) = (a ≤ i) := by rw [eq_iff_iff]; exact ⟨fun h => h.1, fun h' => ⟨h', by omega⟩⟩
  simp only [this]
 ·rw [List.getElem?_eq_none (by omega)]
  rfl
end Go.Proofs.YtdibkdgafidjgaaGreatDoor

