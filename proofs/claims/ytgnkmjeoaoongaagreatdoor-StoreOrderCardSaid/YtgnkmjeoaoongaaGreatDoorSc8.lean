/-
  Texts laid together: SLay0, SLays, SLays2, SPutS.
-/
import Derived.Test.YtgnkmjeoaoongaaGreatDoorSc5
import Derived.Test.YtgnkmjeoaoongaaGreatDoorSc4
import Derived.Test.YtgnkmjeoaoongaaGreatDoorSb2
import Derived.Test.YtgnkmjeoaoongaaGreatDoorSc7
import Derived.Test.YtgnkmjeoaoongaaGreatDoorSa5
import Derived.Test.YtgnkmjeoaoongaaGreatDoorSb7
namespace Go.Proofs.YtgnkmjeoaoongaaGreatDoor
open Go.RowKit Go.Mer
theorem nodup_of_keys {β : Type} {l : List (ByteArray × β)} (h : (l.map (·.1)).Nodup) : l.Nodup := by
 have h' := List.pairwise_map.1 h
 exact h'.imp fun hne e => hne (congrArg (·.1) e)
theorem perm_of_gget {β : Type} {l l' : List (ByteArray × β)} (h : (l.map (·.1)).Nodup) (h' : (l'.map (·.1)).Nodup) (hg : ∀ k, gget l k = gget l' k) : l.Perm l' := by
 rw [List.perm_ext_iff_of_nodup (nodup_of_keys h) (nodup_of_keys h')]
 rintro ⟨k, v⟩
 constructor
 ·intro hm
  have := gget_some h hm
  rw [hg] at this
  exact gget_mem this
 ·intro hm
  have := gget_some h' hm
  rw [← hg] at this
  exact gget_mem this
theorem sortK_nodup {l : List (ByteArray × List VerS)} (hs : SortK l) : (l.map (·.1)).Nodup :=
 List.pairwise_map.2 (hs.imp fun {a b} h e => by rw [e] at h; exact nlt_irr _ h)
theorem keysL2_gset (cs : ChL) (k : ByteArray) (c : ChR) : keysL2 (gset cs k c) = gset (keysL2 cs) k c.vs := gset_mapv ChR.vs cs k c
theorem cptr_gset (cs : ChL) (k : ByteArray) (c : ChR) : cptrL (gset cs k c) = gset (cptrL cs) k (ptrN c.b) := gset_mapv (fun c : ChR => ptrN c.b) cs k c
theorem nodup_gsetC {β : Type} {l : List (ByteArray × β)} (h : (l.map (·.1)).Nodup) (k : ByteArray) (c : β) : ((gset l k c).map (·.1)).Nodup := by
 unfold gset
 split
 ·have e : (l.map fun p => if p.1 = k then (k, c) else p).map (·.1) = l.map (·.1) := by
   rw [List.map_map]
   refine List.map_congr_left fun p _ => ?_
   show (if p.1 = k then (k, c) else p).1 = p.1
   split
   ·next h => exact h.symm
   ·rfl
  rw [e]
  exact h
 ·next hk =>
  rw [List.map_append, List.nodup_append]
  refine ⟨h, by simp, fun a ha b hb e => ?_⟩
  rw [List.map_cons, List.map_nil, List.mem_singleton] at hb
  have h2 : b = k := hb
  exact hk (by rw [← h2, ← e]; exact ha)
theorem perm_set {cs : ChL} {keys : List (ByteArray × List VerS)} (hp : (keysL2 cs).Perm keys) (hn : (cs.map (·.1)).Nodup) (hs : SortK keys) (k : ByteArray) (c : ChR) : (keysL2 (gset cs k c)).Perm (setK keys k c.vs) := by
 refine perm_of_gget (by rw [keys_keysL2]; exact nodup_gsetC hn k c) (sortK_nodup (setK_sorted hs k c.vs)) fun q => ?_
 rw [keysL2_gset, gget_setK hs]
 by_cases h : k = q
 ·subst h
  rw [if_pos rfl, gget_gset]
 ·rw [if_neg h, gget_gset_ne _ _ (fun e => h e.symm)]
  exact gget_perm hp (by rw [keys_keysL2]; exact hn) q
section
variable {w w' : World} {s d l o m : Nat} {P : ByteArray} {st : SSt} {cs : ChL} {ka : Option Addr} {kc : Nat} {K : List RecR} {k : ByteArray} {c c' : ChR}
theorem ChsOk.other {t : TypeId} (ht : t ≠ 44) (ht2 : t ≠ 5) (h : ChsOk t w cs) (hc : gget cs k = some c) {p : ByteArray × ChR} (hp : p ∈ cs) (hpk : p.1 ≠ k) : ∀ g, ChF p.2 g → ¬ (g = c.b ∨ c.row.ownBlock = some g) := by
 have hmem := gget_mem hc
 obtain ⟨l1, l2, rfl, hn1⟩ := gget_split hc
 have hp2 : p ∈ l1 ∨ p ∈ l2 := by
  rcases List.mem_append.1 hp with hp | hp
  ·exact .inl hp
  ·rcases List.mem_cons.1 hp with rfl | hp
   ·exact absurd rfl hpk
   ·exact .inr hp
 have hcok := h.each _ hmem
 have hpok := h.each p hp
 have hb := h.blks
 have hr := h.rows
 simp only [List.map_append, List.map_cons] at hb
 simp only [List.filterMap_append] at hr
 have hbne : p.2.b ≠ c.b := fun e => by
  rw [List.nodup_append] at hb
  rcases hp2 with hp2 | hp2
  ·exact hb.2.2 _ (List.mem_map.2 ⟨p, hp2, rfl⟩) _ (List.mem_cons_self ..) e
  ·exact (List.nodup_cons.1 hb.2.1).1 (List.mem_map.2 ⟨p, hp2, e⟩)
 have hrne : ∀ g, p.2.row.ownBlock = some g → c.row.ownBlock ≠ some g := fun g hg hg' => by
  rw [List.filterMap_cons, show (k, c).2.row.ownBlock = some g from hg'] at hr
  rw [List.nodup_append] at hr
  rcases hp2 with hp2 | hp2
  ·exact hr.2.2 _ (List.mem_filterMap.2 ⟨p, hp2, hg⟩) _ (List.mem_cons_self ..) rfl
  ·exact (List.nodup_cons.1 hr.2.1).1 (List.mem_filterMap.2 ⟨p, hp2, hg⟩)
 rintro g (hg | hg | ⟨x, hx, hg⟩) (e | e)
 ·exact hbne (hg.symm.trans e)
 ·rw [hg] at e
  obtain ⟨cur, hcu⟩ := hcok.own.type _ e
  exact ne_of_type hpok.cell hcu ht rfl
 ·rw [e] at hg
  obtain ⟨cur, hcu⟩ := hpok.own.type _ hg
  exact ne_of_type hcu hcok.cell (fun e => ht e.symm) rfl
 ·exact hrne g hg e
 ·rw [e] at hg
  obtain ⟨cur, hcu⟩ := Own.type (hpok.vals x hx) _ hg
  exact ne_of_type hcu hcok.cell (fun e => ht2 e.symm) rfl
 ·obtain ⟨cur, hcu⟩ := Own.type (hpok.vals x hx) _ hg
  obtain ⟨cur', hcu'⟩ := hcok.own.type _ e
  exact ne_of_type hcu hcu' (by decide) rfl
theorem ChsOk.set {t : TypeId} (ht : t ≠ 44) (ht2 : t ≠ 5) (h : ChsOk t w cs) (hc : gget cs k = some c) (hb : c'.b = c.b) (hk : Kp (fun g => g = c.b ∨ c.row.ownBlock = some g) w w') (hok : ChOk t w' c') (hrow : c'.row.ownBlock = c.row.ownBlock ∨ ∀ g, c'.row.ownBlock = some g → w.heap.size ≤ g) : ChsOk t w' (gset cs k c') := by
 have hoth : ∀ p ∈ cs, p.1 ≠ k → ChOk t w' p.2 := fun p hp hpk => (h.each p hp).keep hk fun g hg hS => h.other ht ht2 hc hp hpk g hg hS
 have hlt := h.lt
 have hkeys := h.keys
 obtain ⟨l1, l2, rfl, hn1⟩ := gget_split hc
 have hn2 : k ∉ l2.map (·.1) := by
  rw [List.map_append, List.nodup_append] at hkeys
  exact (List.nodup_cons.1 hkeys.2.1).1
 rw [gset_split hkeys]
 have hr := h.rows
 simp only [List.filterMap_append] at hr
 refine ⟨fun p hp => ?_, by have := h.blks; simpa [hb] using this, ?_, by have := h.keys; simpa using this⟩
 ·rcases List.mem_append.1 hp with hp | hp
  ·exact hoth p (List.mem_append_left _ hp) fun e => hn1 (e ▸ List.mem_map.2 ⟨p, hp, rfl⟩)
  ·rcases List.mem_cons.1 hp with rfl | hp
   ·exact hok
   ·exact hoth p (List.mem_append_right _ (List.mem_cons_of_mem _ hp)) fun e => hn2 (e ▸ List.mem_map.2 ⟨p, hp, rfl⟩)
 ·rcases hrow with hrow | hrow
  ·have := h.rows
   simp only [List.filterMap_append, List.filterMap_cons] at this ⊢
   rw [hrow]
   exact this
  ·cases hv : c'.row.ownBlock with
   | none =>
    simp only [List.filterMap_append, List.filterMap_cons, hv]
    cases hv2 : c.row.ownBlock with
    | none => simpa only [List.filterMap_cons, hv2] using hr
    | some g2 =>
     simp only [List.filterMap_cons, hv2] at hr
     rw [List.nodup_append] at hr ⊢
     exact ⟨hr.1, (List.nodup_cons.1 hr.2.1).2, fun a ha b hb' => hr.2.2 a ha b (List.mem_cons_of_mem _ hb')⟩
   | some g =>
    have hgs := hrow g hv
    have hne : ∀ p ∈ l1 ++ (k, c) :: l2, ∀ q, p.2.row.ownBlock = some q → q ≠ g := fun p hp q hq e => by
     have := hlt q ⟨p, hp, .inr (.inl hq)⟩
     omega
    simp only [List.filterMap_append, List.filterMap_cons, hv] at hr ⊢
    have hr2 : (l1.filterMap (·.2.row.ownBlock)).Nodup ∧ (l2.filterMap (·.2.row.ownBlock)).Nodup ∧ ∀ a ∈ l1.filterMap (·.2.row.ownBlock), ∀ b ∈ l2.filterMap (·.2.row.ownBlock), a ≠ b := by
     cases hv2 : c.row.ownBlock with
     | none =>
      simp only [hv2] at hr
      rw [List.nodup_append] at hr
      exact hr
     | some g2 =>
      simp only [hv2] at hr
      rw [List.nodup_append] at hr
      exact ⟨hr.1, (List.nodup_cons.1 hr.2.1).2, fun a ha b hb' => hr.2.2 a ha b (List.mem_cons_of_mem _ hb')⟩
    rw [List.nodup_append]
    refine ⟨hr2.1, List.nodup_cons.2 ⟨fun hm => ?_, hr2.2.1⟩, fun a ha b hb' e => ?_⟩
    ·obtain ⟨p, hp, hpg⟩ := List.mem_filterMap.1 hm
     exact hne p (by simp [hp]) _ hpg rfl
    ·subst e
     rcases List.mem_cons.1 hb' with rfl | hb'
     ·obtain ⟨p, hp, hpg⟩ := List.mem_filterMap.1 ha
      exact hne p (by simp [hp]) _ hpg rfl
     ·exact hr2.2.2 a ha a hb' rfl
theorem ChsOk.add {t : TypeId} (h : ChsOk t w cs) (hk : k ∉ cs.map (·.1)) {S : Nat → Prop} (hkp : Kp S w w') (hS : ∀ g, ChsF cs g → ¬ S g) (hok : ChOk t w' c) (hb : w.heap.size ≤ c.b) (hr : ∀ g, c.row.ownBlock = some g → w.heap.size ≤ g) : ChsOk t w' (cs ++ [(k, c)]) := by
 refine ⟨fun p hp => ?_, ?_, ?_, ?_⟩
 ·rcases List.mem_append.1 hp with hp | hp
  ·exact (h.each p hp).keep hkp fun g hg => hS g ⟨p, hp, hg⟩
  ·rw [List.mem_singleton] at hp
   subst hp
   exact hok
 ·rw [List.map_append, List.nodup_append]
  refine ⟨h.blks, by simp, fun a ha b hb' e => ?_⟩
  rw [List.map_cons, List.map_nil, List.mem_singleton] at hb'
  obtain ⟨p, hp, rfl⟩ := List.mem_map.1 ha
  have h1 := h.lt p.2.b ⟨p, hp, .inl rfl⟩
  have h2 : b = c.b := hb'
  have h3 : p.2.b = b := e
  omega
 ·rw [List.filterMap_append, List.nodup_append]
  refine ⟨h.rows, ?_, fun a ha b hb' e => ?_⟩
  ·cases hv : c.row.ownBlock <;> simp [hv]
  ·obtain ⟨p, hp, hpa⟩ := List.mem_filterMap.1 ha
   obtain ⟨q, hq, hqb⟩ := List.mem_filterMap.1 hb'
   rw [List.mem_singleton] at hq
   subst hq
   have h1 := h.lt a ⟨p, hp, .inr (.inl hpa)⟩
   have h2 := hr b hqb
   omega
 ·rw [List.map_append, List.nodup_append]
  refine ⟨h.keys, by simp, fun a ha b hb' e => ?_⟩
  rw [List.map_cons, List.map_nil, List.mem_singleton] at hb'
  have h2 : b = k := hb'
  exact hk (by rw [← h2, ← e]; exact ha)
theorem StC.kept_ne (h : StC w s d l P o st m cs ka kc K) {p : ByteArray × ChR} (hp : p ∈ cs) : ∀ g, KeptF ka kc K g → ¬ (g = p.2.b ∨ p.2.row.ownBlock = some g) := by
 have hc := h.chs.each p hp
 rintro g (hg | ⟨x, hx, hg⟩) (e | e)
 ·rw [e] at hg
  obtain ⟨cur, hcu⟩ := h.kept.own.type _ hg
  exact ne_of_type hcu hc.cell (by decide) rfl
 ·obtain ⟨cur, hcu⟩ := h.kept.own.type _ hg
  obtain ⟨cur', hcu'⟩ := hc.own.type _ e
  exact ne_of_type hcu hcu' (by decide) rfl
 ·rw [e] at hg
  obtain ⟨cur, hcu⟩ := Own.type (h.kept.vals x hx) _ hg
  exact ne_of_type hcu hc.cell (by decide) rfl
 ·obtain ⟨cur, hcu⟩ := Own.type (h.kept.vals x hx) _ hg
  obtain ⟨cur', hcu'⟩ := hc.own.type _ e
  exact ne_of_type hcu hcu' (by decide) rfl
theorem StC.m_ne (h : StC w s d l P o st m cs ka kc K) {p : ByteArray × ChR} (hp : p ∈ cs) : m ≠ p.2.b ∧ p.2.row.ownBlock ≠ some m := by
 obtain ⟨es, ck, hm, _⟩ := h.map
 have hc := h.chs.each p hp
 refine ⟨fun e => ?_, fun e => ?_⟩
 ·exact ne_of_map hc.cell hm e.symm
 ·obtain ⟨cur, hcu⟩ := hc.own.type m e
  exact ne_of_map hcu hm rfl
theorem StC.setChain (h : StC w s d l P o st m cs ka kc K) (hs : SortK st.keys) (hc : gget cs k = some c) (hb : c'.b = c.b) (hk : Kp (fun g => g = c.b ∨ c.row.ownBlock = some g) w w') (hok : ChOk 203 w' c') (hrow : c'.row.ownBlock = c.row.ownBlock ∨ ∀ g, c'.row.ownBlock = some g → w.heap.size ≤ g) :
  StC w' s d l P o { st with keys := setK st.keys k c'.vs } m (gset cs k c') ka kc K := by
 have hmem := gget_mem hc
 have hsa := h.s_apart
 refine ⟨hk.get h.cell fun hS => ?_, ?_, h.chs.set (by decide) (by decide) hc hb hk hok hrow, h.kept.keep hk fun g hg hS => h.kept_ne hmem g hg hS, perm_set h.perm h.chs.keys hs k c', h.keptD⟩
 ·exact hsa.1 ⟨_, hmem, hS.imp id fun e => .inl e⟩
 ·rw [cptr_gset]
  have e : gset (cptrL cs) k (ptrN c'.b) = cptrL cs := by
   have hnd : ((cptrL cs).map (·.1)).Nodup := by rw [keys_cptr]; exact h.chs.keys
   obtain ⟨l1, l2, he, _⟩ := gget_split (show gget (cptrL cs) k = some (ptrN c.b) from by rw [gget_cptr, hc]; rfl)
   rw [he] at hnd ⊢
   rw [hb, gset_split hnd]
  rw [e]
  exact h.map.of_heap (hk.block m h.map.lt fun hS => hS.elim (h.m_ne hmem).1 (h.m_ne hmem).2)
theorem StC.addChain (h : StC w s d l P o st m cs ka kc K) (hs : SortK st.keys) (hc : gget cs k = none) (hk : Kp (Mer.One m) w w') (hm : GMap Value.string w' m (gset (cptrL cs) k (ptrN c.b))) (hok : ChOk 203 w' c) (hb : w.heap.size ≤ c.b) (hr : ∀ g, c.row.ownBlock = some g → w.heap.size ≤ g) :
  StC w' s d l P o { st with keys := setK st.keys k c.vs } m (gset cs k c) ka kc K := by
 have hkn : k ∉ cs.map (·.1) := gget_none_iff.1 hc
 obtain ⟨es, ck, hm0, _⟩ := id h.map
 have hg : gset cs k c = cs ++ [(k, c)] := gset_new hkn
 refine ⟨hk.get h.cell fun e => h.s_ne_m e, by rw [cptr_gset]; exact hm, ?_, ?_, perm_set h.perm h.chs.keys hs k c, h.keptD⟩
 ·rw [hg]
  refine h.chs.add hkn hk (fun g hf e => ?_) hok hb hr
  have e : g = m := e
  rw [e] at hf
  obtain ⟨p, hp, hf | hf | ⟨x, hx, hf⟩⟩ := hf
  ·exact (h.m_ne hp).1 hf
  ·exact (h.m_ne hp).2 hf
  ·obtain ⟨cur, hcu⟩ := Own.type ((h.chs.each p hp).vals x hx) _ hf
   exact ne_of_map hcu hm0 rfl
 ·refine h.kept.keep hk fun g hf e => ?_
  have e : g = m := e
  rw [e] at hf
  rcases hf with hf | ⟨x, hx, hf⟩
  ·obtain ⟨cur, hcu⟩ := h.kept.own.type _ hf
   exact ne_of_map hcu hm0 rfl
  ·obtain ⟨cur, hcu⟩ := Own.type (h.kept.vals x hx) _ hf
   exact ne_of_map hcu hm0 rfl
theorem StC.setOf (h : StC w s d l P o st m cs ka kc K) (h5 : st.of.length = 5) {i : Nat} (hi : i < 5) (dn : DoneS) :
  StC (((w.setCell ⟨s, 10 + i * 3, none⟩ (.int .i64 dn.seq)).setCell ⟨s, 10 + i * 3 + 1, none⟩ (.int .i64 dn.m)).setCell ⟨s, 10 + i * 3 + 2, none⟩ (.int .i64 dn.c)) s d l P o { st with of := st.of.set i dn } m cs ka kc K := by
 refine h.turn ((((Kp.refl (Mer.One s) w).setCell (p := ⟨s, 10 + i * 3, none⟩) (.inl (show Mer.One s s from rfl)) _).setCell (p := ⟨s, 10 + i * 3 + 1, none⟩) (.inl (show Mer.One s s from rfl)) _).setCell (p := ⟨s, 10 + i * 3 + 2, none⟩) (.inl (show Mer.One s s from rfl)) _) ?_ rfl rfl
 have h9 := set_at (set_at (set_at h.cell (10 + i * 3) (.int .i64 dn.seq)) (10 + i * 3 + 1) (.int .i64 dn.m)) (10 + i * 3 + 2) (.int .i64 dn.c)
 rw [h9]
 have hs := fun j => ofAt_set (of := st.of) (i := i) (by omega) dn j
 unfold stCells
 simp only
 rcases five_cases hi with rfl | rfl | rfl | rfl | rfl
 all_goals
  rw [hs 0, hs 1, hs 2, hs 3, hs 4]
  simp
theorem StC.keepMore (h : StC w s d l P o st m cs ka kc K) {x : RecR} {a' : Option Addr} {c2 : Nat} (hk : Kp (fun g => (Value.slice ka K.length kc).ownBlock = some g) w w') (ho : Own w' 46 9 (.slice a' (K.length + 1) c2) (K.length + 1) (K.flatMap recC ++ recC x))
  (hb : (Value.slice a' (K.length + 1) c2).ownBlock = (Value.slice ka K.length kc).ownBlock ∨ ∃ g, (Value.slice a' (K.length + 1) c2).ownBlock = some g ∧ w.heap.size ≤ g) (hx : x.ok w) :
  StC (w'.setCell ⟨s, 25, none⟩ (.slice a' (K.length + 1) c2)) s d l P o { st with kept := st.kept ++ [x.r] } m cs a' c2 (K ++ [x]) := by
 have hsa := h.s_apart
 have hkt : ∀ g, (Value.slice ka K.length kc).ownBlock = some g → ∃ cur, w.heap[g]? = some (.cells cur 46 (0, 0)) := fun g hg => h.kept.own.type g hg
 obtain ⟨es, ck, hm0, _⟩ := id h.map
 have hcell := hk.get h.cell fun hg => hsa.2 (.inl hg)
 have hsl := get_lt h.cell
 have hs : Kp (Mer.One s) w' (w'.setCell ⟨s, 25, none⟩ (.slice a' (K.length + 1) c2)) := (Kp.refl (Mer.One s) w').setCell (p := ⟨s, 25, none⟩) (.inl (show Mer.One s s from rfl)) _
 have hall : Kp (fun g => g = s ∨ (Value.slice ka K.length kc).ownBlock = some g) w (w'.setCell ⟨s, 25, none⟩ (.slice a' (K.length + 1) c2)) := (hk.mono fun _ _ e => .inr e).trans hs fun _ _ e => .inl e
 have hnew : ∀ g, (Value.slice a' (K.length + 1) c2).ownBlock = some g → g ≠ s := fun g hg e => by
  rcases hb with hb | ⟨g', hb, hg'⟩
  ·exact hsa.2 (.inl (by rw [← hb, hg, e]))
  ·rw [hb] at hg
   injection hg with hg
   omega
 refine ⟨?_, h.map.of_heap (hall.block m h.map.lt fun hS => ?_), h.chs.keep hall fun g hf hS => ?_, ⟨?_, fun y hy => ?_⟩, h.perm, by rw [List.map_append, h.keptD]; rfl⟩
 ·have := set_at hcell 25 (.slice a' (K.length + 1) c2)
  rw [List.length_append, List.length_singleton]
  simpa [stCells] using this
 ·rcases hS with hS | hS
  ·exact h.s_ne_m hS.symm
  ·obtain ⟨cur, hcu⟩ := hkt _ hS
   exact ne_of_map hcu hm0 rfl
 ·rcases hS with hS | hS
  ·exact hsa.1 (hS ▸ hf)
  ·obtain ⟨cur, hcu⟩ := hkt _ hS
   obtain ⟨p, hp, hf | hf | ⟨y, hy, hf⟩⟩ := hf
   ·exact h.kept_ne hp g (.inl hS) (.inl hf)
   ·exact h.kept_ne hp g (.inl hS) (.inr hf)
   ·obtain ⟨cur', hcu'⟩ := Own.type ((h.chs.each p hp).vals y hy) _ hf
    exact ne_of_type hcu hcu' (by decide) rfl
 ·rw [List.length_append, List.length_singleton, List.flatMap_append, List.flatMap_cons, List.flatMap_nil, List.append_nil]
  exact ho.keep hs fun g hg e => hnew g hg e
 ·have hval : y.ok w := by
   rcases List.mem_append.1 hy with hy | hy
   ·exact h.kept.vals y hy
   ·rw [List.mem_singleton] at hy
    rw [hy]
    exact hx
  exact VerR.ok.apart hval hall fun g hg cur hcur => by
   rcases hg with rfl | hg
   ·exact ne_of_type hcur h.cell (by decide) rfl
   ·obtain ⟨cur', hcu'⟩ := hkt _ hg
    exact ne_of_type hcur hcu' (by decide) rfl
end
theorem layS_same (o : Nat) : ∀ (L : List RecS) (st : SSt), (laysS o st L).of = ofK st.of L ∧ (laysS o st L).mm = st.mm ∧ (laysS o st L).mc = st.mc ∧ (laysS o st L).age = st.age ∧ (laysS o st L).n = st.n ∧ (laysS o st L).dead = st.dead
 | [], _ => ⟨rfl, rfl, rfl, rfl, rfl, rfl⟩
 | r :: L, st => layS_same o L (layR o st r)
theorem laysS_snoc (o : Nat) (L : List RecS) (r : RecS) (st : SSt) : laysS o st (L ++ [r]) = layR o (laysS o st L) r := by
 unfold laysS
 rw [List.foldl_append]
 rfl
end Go.Proofs.YtgnkmjeoaoongaaGreatDoor
namespace Go.Proofs.YtgnkmjeoaoongaaGreatDoor
open Go.RowKit Go.Mer
set_option maxHeartbeats 400000 in
theorem byClone_any (a : Option Addr) (c : Nat) (xs : List UInt8) (B : Nat) (w : World) (hr : Rd w B a (u8s xs)) (hm : xs.length ≤ 140737488355328) :
  Calls Tryz.prog 82 #[.slice a xs.length c] w fun e w' => ∃ v, e = .returned v ∧ Own w' 5 1 v xs.length (u8s xs) ∧ Kp No w w' ∧ ∀ g, v.ownBlock = some g → w.heap.size ≤ g := by
 obtain ⟨i0, hi, hz0, hz1, hz2⟩ := info_parts infoByte
 cases a with
 | none =>
  have hx : xs = [] := by
   rcases Nat.eq_zero_or_pos xs.length with h | h
   ·exact List.eq_nil_of_length_eq_zero h
   ·obtain ⟨g, off, h1, _⟩ := hr (by rw [u8s_length]; exact h)
    cases h1
  subst hx
  have hq := fun w => Lib.run_eql_slice_nil (P := Tryz.prog) w 42 5 none 0 c 0 0 Tryz.underlying42
  simp only [List.length_nil]
  go_enter Tryz.func82, Tryz.ntmps82
  go_wp2_with fail
  go_ret
  exact ⟨_, rfl, Own.nil _ _ _, Kp.refl _ _, fun g h => by simp [Value.ownBlock] at h⟩
 | some ad =>
  have hq := fun w => Lib.run_eql_slice_nil (P := Tryz.prog) w 42 5 (some ad) xs.length c 0 0 Tryz.underlying42
  have hal : Kp No w (w.alloc (.cells #[] 5)) := (Kp.refl _ _).alloc _
  have hown0 : Own (w.alloc (.cells #[] 5)) 5 1 (.slice (some ⟨w.heap.size, 0, none⟩) 0 0) 0 [] := Own.made w 5 1 #[] 0 0 (Nat.le_refl _) (by simp [maxLen]) (by simp) rfl
  have hsrc : Mer.Src (w.alloc (.cells #[] 5)) 1 (.slice (some ad) xs.length c) xs.length (u8s xs) := ⟨by simp [u8s_length], some ad, c, rfl, fun hx => by
   obtain ⟨g, off, h1, h2, h3, h4⟩ := hr hx
   exact ⟨g, off, h1, by simp; omega, Nat.le_refl _, fun j u hu => (hal.cell (p := ⟨g, off + j, none⟩) (by show g < _; omega) (fun x => x)).trans (h4 j u hu)⟩⟩
  obtain ⟨v1, w1, hrun, hown, hkp, hblk⟩ := run_append_Own (P := Tryz.prog) (w := w.alloc (.cells #[] 5)) 42 42 42 5 i0 (.int .u8 0) 1 1 Tryz.underlying42 ⟨_, Tryz.underlying42⟩ hi hz0 hz1 hz2 rfl
   (.slice (some ⟨w.heap.size, 0, none⟩) 0 0) 0 [] hown0 (.slice (some ad) xs.length c) xs.length (u8s xs) hsrc (u8s_one xs) (by simp only [maxLen]; omega) (by omega)
  have HO := Lib.hid hown
  have HK := Lib.hid hkp
  have HB := Lib.hid hblk
  have HR := Lib.hid hrun
  clear hown hkp hblk hown0 hsrc hz0 hz1 hz2 hi hrun
  go_enter Tryz.func82, Tryz.ntmps82
  go_wp2_with (at_builtin; refine wpList_append_run rfl rfl rfl rfl HR.out ?_)
  go_ret
  refine ⟨_, rfl, by simpa using HO.out, hal.trans HK.out (fun k hk h => by simp [Value.ownBlock] at h; omega), fun g hg => ?_⟩
  rcases HB.out with h | ⟨g', h, h'⟩
  ·have hg2 : v1.ownBlock = some g := hg
   rw [h] at hg2
   simp [Value.ownBlock] at hg2
   omega
  ·have hg2 : v1.ownBlock = some g := hg
   rw [h] at hg2
   injection hg2 with hg2
   simp at h'
   omega
def LayJ (w : World) (s d l : Nat) (P : ByteArray) (o : Nat) (st : SSt) (m : Nat) (cs : ChL) (ka : Option Addr) (kc : Nat) (K : List RecR) (L : List RecS) (B : Nat) (k : Nat) (wr : World) : Prop :=
 ∃ cs' ka' kc' K', StC wr s d l P o (laysS o st (L.take k)) m cs' ka' kc' K' ∧ (∀ g, StF s m cs' ka' kc' K' g → StF s m cs ka kc K g ∨ w.heap.size ≤ g) ∧ Kp (StF s m cs ka kc K) w wr ∧ (∀ p ∈ cs', p.2.R.length ≤ B + k) ∧ K'.length ≤ B + k
theorem mayG_app {mm mc : Int} : ∀ (A B : List RecS) (of : List DoneS), mayG mm mc of (A ++ B) = (mayG mm mc of A && mayG mm mc (ofK of A) B)
 | [], B, of => by simp [mayG, ofK]
 | r :: A, B, of => by
  rw [List.cons_append, mayG, mayG, mayG_app A B, Bool.and_assoc]
  rfl
theorem lay_step {o : Nat} {st : SSt} (hi : Inv o st) {L : List RecS} (hr : ∀ r ∈ L, isR r = true) (hg : mayG st.mm st.mc st.of L = true) {k : Nat} {r : RecS} (hk : L[k]? = some r) :
  Inv o (laysS o st (L.take k)) ∧ stepOk st.mm st.mc (laysS o st (L.take k)).of r = true := by
 have hkl := (List.getElem?_eq_some_iff.1 hk).1
 have he := (List.getElem?_eq_some_iff.1 hk).2
 have hsp : L = L.take k ++ (r :: L.drop (k + 1)) := by
  rw [← he, ← List.drop_eq_getElem_cons hkl, List.take_append_drop]
 rw [hsp, mayG_app, mayG, Bool.and_eq_true, Bool.and_eq_true] at hg
 refine ⟨inv_lays _ hi (fun x hx => hr x (List.mem_of_mem_take hx)) hg.1, ?_⟩
 rw [(layS_same o _ st).1]
 exact hg.2.1
theorem chsF_set {w : World} {cs : ChL} {k : ByteArray} {c c' : ChR} (hc : gget cs k = some c) (hn : (cs.map (·.1)).Nodup) (hb : c'.b = c.b) (hrow : c'.row.ownBlock = c.row.ownBlock ∨ ∀ g, c'.row.ownBlock = some g → w.heap.size ≤ g) (hv : ∀ y ∈ c'.R, y ∈ c.R ∨ ∀ g, y.sl.ownBlock = some g → w.heap.size ≤ g) :
  ∀ g, ChsF (gset cs k c') g → ChsF cs g ∨ w.heap.size ≤ g := by
 have hmem := gget_mem hc
 obtain ⟨l1, l2, rfl, _⟩ := gget_split hc
 rw [gset_split hn]
 rintro g ⟨p, hp, hf⟩
 rcases List.mem_append.1 hp with hp | hp
 ·exact .inl ⟨p, List.mem_append_left _ hp, hf⟩
 ·rcases List.mem_cons.1 hp with rfl | hp
  ·rcases hf with hf | hf | ⟨y, hy, hf⟩
   ·exact .inl ⟨_, hmem, .inl (hf.trans hb)⟩
   ·rcases hrow with h | h
    ·exact .inl ⟨_, hmem, .inr (.inl (h ▸ hf))⟩
    ·exact .inr (h g hf)
   ·rcases hv y hy with h | h
    ·exact .inl ⟨_, hmem, .inr (.inr ⟨y, h, hf⟩)⟩
    ·exact .inr (h g hf)
  ·exact .inl ⟨p, List.mem_append_right _ (List.mem_cons_of_mem _ hp), hf⟩
theorem gset_each {cs : ChL} {k : ByteArray} {c' : ChR} {Q : ChR → Prop} (h : ∀ p ∈ cs, Q p.2) (hc : Q c') : ∀ p ∈ gset cs k c', Q p.2 := by
 intro p hp
 unfold gset at hp
 split at hp
 ·obtain ⟨q, hq, rfl⟩ := List.mem_map.1 hp
  split
  ·exact hc
  ·exact h q hq
 ·rcases List.mem_append.1 hp with hp | hp
  ·exact h p hp
  ·rw [List.mem_singleton] at hp
   rw [hp]
   exact hc
theorem StC.congr {w : World} {s d l o m : Nat} {P : ByteArray} {st st' : SSt} {cs : ChL} {ka : Option Addr} {kc : Nat} {K : List RecR} (h : StC w s d l P o st m cs ka kc K) (hp : st.keys.Perm st'.keys)
  (e1 : st'.age = st.age) (e2 : st'.n = st.n) (e3 : st'.dead = st.dead) (e4 : st'.mm = st.mm) (e5 : st'.mc = st.mc) (e6 : st'.of = st.of) (e7 : st'.kept = st.kept) : StC w s d l P o st' m cs ka kc K :=
 ⟨by have := h.cell; unfold stCells at this ⊢; rw [e1, e2, e3, e4, e5, e6]; exact this, h.map, h.chs, h.kept, h.perm.trans hp, by rw [e7]; exact h.keptD⟩
theorem setK_twice {l : List (ByteArray × List VerS)} (hs : SortK l) (k : ByteArray) (a c : List VerS) : (setK (setK l k a) k c).Perm (setK l k c) := by
 refine perm_of_gget (sortK_nodup (setK_sorted (setK_sorted hs k a) k c)) (sortK_nodup (setK_sorted hs k c)) fun q => ?_
 rw [gget_setK (setK_sorted hs k a), gget_setK hs, gget_setK hs]
 split
 ·rfl
 ·rfl
end Go.Proofs.YtgnkmjeoaoongaaGreatDoor
namespace Go.Proofs.YtgnkmjeoaoongaaGreatDoor
open Go.RowKit Go.Mer
theorem layJ_next {w W : World} {s d l o m : Nat} {P : ByteArray} {st stk stB : SSt} {cs csB : ChL} {ka kaB : Option Addr} {kc kcB : Nat} {K KB : List RecR} {L : List RecS} {B k : Nat} {r : RecS} (hC : StC W s d l P o stB m csB kaB kcB KB)
  (hF : ∀ g, StF s m csB kaB kcB KB g → StF s m cs ka kc K g ∨ w.heap.size ≤ g) (hK : Kp (StF s m cs ka kc K) w W) (hlen : ∀ p ∈ csB, p.2.R.length ≤ B + (k + 1)) (hkl : KB.length ≤ B + (k + 1)) (hnext : L.take (k + 1) = L.take k ++ [r]) (hstk : stk = laysS o st (L.take k))
  (hp : stB.keys.Perm (setK stk.keys r.key (putC (chainOf stk.keys r.key) r.v))) (e1 : stB.age = stk.age) (e2 : stB.n = stk.n) (e3 : stB.dead = stk.dead) (e4 : stB.mm = stk.mm) (e5 : stB.mc = stk.mc) (e6 : stB.of = doneR stk.of r) (e7 : stB.kept = if r.o = (o : Int) then stk.kept ++ [r] else stk.kept) :
  LayJ w s d l P o st m cs ka kc K L B (k + 1) W := by
 refine ⟨csB, kaB, kcB, KB, ?_, hF, hK, hlen, hkl⟩
 rw [hnext, laysS_snoc, ← hstk]
 exact hC.congr hp e1.symm e2.symm e3.symm e4.symm e5.symm e6.symm e7.symm
theorem chsF_add {cs : ChL} {k : ByteArray} {b : Nat} (h : gget cs k = none) : ∀ g, ChsF (gset cs k ⟨b, none, 0, []⟩) g → ChsF cs g ∨ g = b := by
 rw [gset_new (gget_none_iff.1 h)]
 rintro g ⟨p, hp, hf⟩
 rcases List.mem_append.1 hp with hp | hp
 ·exact .inl ⟨p, hp, hf⟩
 ·rw [List.mem_singleton] at hp
  subst hp
  rcases hf with hf | hf | ⟨x, hx, _⟩
  ·exact .inr hf
  ·simp [ChR.row, Value.ownBlock] at hf
  ·exact absurd hx List.not_mem_nil
set_option maxRecDepth 100000 in
set_option maxHeartbeats 8000000 in
theorem sLays_any {w : World} {s d l o m : Nat} {P : ByteArray} {st : SSt} {cs : ChL} {ka : Option Addr} {kc : Nat} {K : List RecR} (h : StC w s d l P o st m cs ka kc K) (hinv : Inv o st)
  (a : Option Addr) (cap : Nat) (L : List RecR) (hL : ∀ W, Kp (StF s m cs ka kc K) w W → RecsAt W a L) (hc : L.length ≤ cap) (hr : ∀ r ∈ L.map RecR.r, isR r = true) (hg : mayG st.mm st.mc st.of (L.map RecR.r) = true) (hn : L.length ≤ 64) (B : Nat) (hB : B ≤ 900000) (hcB : ∀ p ∈ cs, p.2.R.length ≤ B) (hkB : K.length ≤ B) :
  Calls Tryz.prog 62 #[.pointer (some ⟨s, 0, none⟩), .slice a L.length cap] w fun e w' => e = .returned (.tuple #[]) ∧ LayJ w s d l P o st m cs ka kc K (L.map RecR.r) B L.length w' := by
 obtain ⟨n, hnL⟩ : ∃ n, n = L.length := ⟨_, rfl⟩
 have hsl := get_lt h.cell
 have HJ0 := Lib.hid (show LayJ w s d l P o st m cs ka kc K (L.map RecR.r) B 0 w from ⟨cs, ka, kc, K, h, fun _ x => .inl x, Kp.refl _ _, fun p hp => by have := hcB p hp; omega, by omega⟩)
 have HL := Lib.hid hL
 have HN := Lib.hid hnL
 have HR := Lib.hid (And.intro hr (And.intro hg hinv))
 have hnn : n ≤ 64 := by omega
 rw [← hnL]
 clear h hL hnL hr hg hinv hc hn hcB hkB
 go_enter Tryz.func62, Tryz.ntmps62
 go_wp2_with fail
 go_loopw [8] (fun i wr => ∃ k : Nat, k ≤ n ∧ i = .int .i64 (k : Int) ∧ Hid (LayJ w s d l P o st m cs ka kc K (L.map RecR.r) B k wr)) (fun i _ => n - (intOf i).toNat)
 case atStart => exact ⟨0, Nat.zero_le _, rfl, HJ0⟩
 case round =>
  obtain ⟨k, hk, rfl, HJ⟩ := hrel
  rcases Nat.lt_or_ge k n with hlt | hge
  ·obtain ⟨csA, kaA, kcA, KA, hC, hF, hK, hlen, hklen⟩ := HJ.out
   have hkL : k < L.length := by have := HN.out; omega
   have hLr := HL.out wr hK
   obtain ⟨g, off, rfl, hgl, hgr⟩ := rec_range hLr.1 hkL
   have hxk : (L.map RecR.r)[k]? = some L[k].r := by rw [List.getElem?_map, List.getElem?_eq_getElem hkL]; rfl
   have hxi := HR.out.1 L[k].r (List.mem_of_getElem? hxk)
   have hstep := lay_step HR.out.2.2 HR.out.1 HR.out.2.1 hxk
   have hnext : (L.map RecR.r).take (k + 1) = (L.map RecR.r).take k ++ [L[k].r] := by
    rw [List.take_succ_eq_append_getElem (by rw [List.length_map]; exact hkL), List.getElem_map]
   have hLR : ∀ W, Kp (StF s m cs ka kc K) w W → L[k].rd W := fun W hW => (HL.out W hW).2 L[k] (List.getElem_mem hkL)
   obtain ⟨x, hx⟩ : ∃ x, x = L[k] := ⟨_, rfl⟩
   rw [← hx] at hgr hxi hstep hnext hLR
   obtain ⟨stk, hstk⟩ : ∃ stk, stk = laysS o st ((L.map RecR.r).take k) := ⟨_, rfl⟩
   rw [← hstk] at hstep hC
   obtain ⟨hiv, hso⟩ := hstep
   have hmm : stk.mm = st.mm ∧ stk.mc = st.mc := by rw [hstk]; exact ⟨(layS_same o _ st).2.1, (layS_same o _ st).2.2.1⟩
   rw [← hmm.1, ← hmm.2] at hso
   have hhas := lay_has hiv hxi hso
   obtain ⟨hcs, hcvv⟩ := chainOf_ok hiv x.r.key
   obtain ⟨hv, e1, e2, e3, _⟩ := isR_iff.1 hxi
   obtain ⟨_, o1, o2, _⟩ := isV_iff.1 hv
   obtain ⟨oN, hoN⟩ : ∃ oN : Nat, x.r.o = (oN : Int) := ⟨x.r.o.toNat, by omega⟩
   have hoL : oN < 5 := by omega
   have hrc : recC x = [.int .i64 (oN : Int), .int .i64 x.r.seq, .string x.r.key, .int .i64 x.r.v.m, .int .i64 x.r.v.c, .int .i64 x.r.v.o, x.sl, .bool x.r.v.gone, .int .i64 x.r.v.ttl] := by unfold recC; rw [hoN]
   rw [hrc] at hgr
   have R1 := Lib.hid (hgr wr (Kp.refl _ _))
   obtain ⟨w1, hw1⟩ : ∃ W, W = wr.alloc (.cells #[.int .i64 (oN : Int), .int .i64 x.r.seq, .string x.r.key, .int .i64 x.r.v.m, .int .i64 x.r.v.c, .int .i64 x.r.v.o, x.sl, .bool x.r.v.gone, .int .i64 x.r.v.ttl] 46) := ⟨_, rfl⟩
   have k1 : Kp No wr w1 := by rw [hw1]; exact (Kp.refl _ _).alloc _
   have b1 : w1.heap[wr.heap.size]? = some (.cells #[.int .i64 (oN : Int), .int .i64 x.r.seq, .string x.r.key, .int .i64 x.r.v.m, .int .i64 x.r.v.c, .int .i64 x.r.v.o, x.sl, .bool x.r.v.gone, .int .i64 x.r.v.ttl] 46 (0, 0)) := by rw [hw1]; exact heap_alloc_new wr _
   obtain ⟨p, hpq⟩ : ∃ p, p = wr.heap.size := ⟨_, rfl⟩
   rw [← hpq] at b1
   have hpn : ¬ StF s m csA kaA kcA KA p := fun hg => by have := hC.lt p hg; omega
   have HC1 := Lib.hid (hC.keep_no k1)
   have HB1 := Lib.hid b1
   have HK1 := Lib.hid (show Kp (StF s m cs ka kc K) w w1 from hK.trans_no k1)
   have HF1 := Lib.hid hF
   have HPN1 := Lib.hid hpn
   have HPQ := Lib.hid (show w.heap.size ≤ p by rw [hpq]; exact hK.size)
   have HLN := Lib.hid (And.intro hlen hklen)
   have HW1 := Lib.hid hw1
   have HLR := Lib.hid hLR
   have HX := Lib.hid (And.intro hxi (And.intro hso (And.intro hiv (And.intro hoN (And.intro hnext hstk)))))
   have HCH := Lib.hid (And.intro hcs (And.intro hv hhas))
   have hs1 := get_lt HC1.out.cell
   have hp1 := get_lt b1
   have f7 : ∀ W, Kp No w1 W → W.cell? ⟨s, 7, none⟩ = some (.map (some m)) := fun W hW => HC1.out.at_ hW 7
   have fp2 : ∀ W, Kp No w1 W → W.cell? ⟨p, 2, none⟩ = some (.string x.r.key) := fun W hW => cell_at (hW.get HB1.out fun x => x) 2
   have lk : ∀ W, Kp No w1 W → (Instr.lookup 128 (.map (some m)) (.string x.r.key) false).run Tryz.prog W = .ok ((gget (cptrL csA) x.r.key).getD (.pointer none)) W := fun W hW => look_chain (HC1.out.map.of_heap (hW.block m HC1.out.map.lt fun x => x)) x.r.key
   have hch := HC1.out.chain x.r.key
   have hg3 := hgl
   clear hC hF hK hlen hklen hLr hgr hxk hxi hnext hLR hx hiv hso hmm hhas hcs hcvv hv e1 e2 e3 o1 o2 hoN hrc k1 b1 hw1 hpn hstk hkL hgl HJ
   go_upto_region 3 with (first
    | (refine wpList_load_w rfl 46 _ rfl g (off + k * 9) rfl _ _ R1 Tryz.underlying46 rfl (by kernel_rfl) ?_)
    | (refine wpList_store_w rfl 46 _ _ rfl wr.heap.size (by rfl) _ _ _ rfl rfl (by kernel_rfl) (by rfl) (by rfl) ?_))
   rw [← HW1.out, ← hpq]
   clear hpq hg3
   cases hgg : gget csA x.r.key with
   | some cA =>
    rw [gget_cptr, hgg] at lk
    rw [hgg] at hch
    simp only [Option.map_some, Option.getD_some, ptrN] at lk
    refine wp_region_held' (Kp No _) [0,0,0,0,0,0,0,0] [0,1,2,3,4,5,6,7] (by kernel_rfl) (by kernel_rfl) (fun _ n h => h.drewN n) (Kp.refl _ _) ?_
    repeat (first
     | (apply wpOrd_skip rfl (by decide) rfl; (focus (go_simp; rfl)))
     | (apply wpOrd_pure rfl rfl rfl; (focus (intro _ _; go_simp; (try go_ints); rfl)); (focus (go_simp; rfl)))
     | (apply wpOrd_read rfl rfl rfl; (focus (intro _; go_simp; (try go_ints); rfl)); (focus (go_simp; rfl))))
    (try (apply wpOrd_pure rfl rfl rfl; (focus (intro W hW; go_simp; rw [lk W hW]; rfl)); (focus (go_simp; rfl))))
    repeat (first
     | (apply wpOrd_skip rfl (by decide) rfl; (focus (go_simp; rfl)))
     | (apply wpOrd_pure rfl rfl rfl; (focus (intro _ _; go_simp; (try go_ints); rfl)); (focus (go_simp; rfl)))
     | (apply wpOrd_read rfl rfl rfl; (focus (intro _; go_simp; (try go_ints); rfl)); (focus (go_simp; rfl))))
    refine wpOrd_nil (fun nq => ?_)
    obtain ⟨w5, hw5⟩ : ∃ W, W = w1.drewN nq := ⟨_, rfl⟩
    have h15 : Kp No w1 w5 := by rw [hw5]; exact (Kp.refl No w1).drewN nq
    obtain ⟨stA, hstA⟩ : ∃ stA, stA = stk := ⟨_, rfl⟩
    have HC5 := Lib.hid (show StC w5 s d l P o stA m csA kaA kcA KA from by rw [hstA]; exact HC1.out.keep_no h15)
    have HG5 := Lib.hid hgg
    have HB5 := Lib.hid (h15.get HB1.out fun x => x)
    have HF5 := HF1
    have HK5 := Lib.hid (show Kp (StF s m cs ka kc K) w w5 from HK1.out.trans_no h15)
    have HPN := HPN1
    have hcv : chainOf stk.keys x.r.key = cA.vs := by unfold chainOf; rw [hch]; rfl
    have HCV := Lib.hid (show cA.vs = chainOf stk.keys x.r.key ∧ ChS cA.vs ∧ isV x.ver.v = true ∧ putHas cA.vs x.ver.v = false ∧ cA.R.length ≤ 1000000 from by
     rw [← hcv]
     refine ⟨rfl, HCH.out.1, HCH.out.2.1, HCH.out.2.2, ?_⟩
     have h2 := HLN.out.1 _ (gget_mem hgg)
     have h2 : cA.R.length ≤ B + k := h2
     omega)
    have HSK := Lib.hid (show SortK stA.keys from by rw [hstA]; exact HX.out.2.2.1.sorted)
    have HSA := Lib.hid (show (setK stA.keys x.r.key (putC cA.vs x.r.v)).Perm (setK stk.keys x.r.key (putC (chainOf stk.keys x.r.key) x.r.v)) ∧ (stA.of = stk.of ∧ stA.kept = stk.kept ∧ stA.age = stk.age ∧ stA.n = stk.n ∧ stA.dead = stk.dead ∧ stA.mm = stk.mm ∧ stA.mc = stk.mc) from by
     rw [hstA, hcv]
     exact ⟨List.Perm.refl _, rfl, rfl, rfl, rfl, rfl, rfl, rfl⟩)
    rw [← hw5]
    clear hw5 h15 hstA hgg hch hcv lk f7 fp2 hs1 hp1 HC1 HB1 HF1 HK1 HPN1
    go_wp2_with fail
    have hgm := gget_mem HG5.out
    have hco := HC5.out.chs.each _ hgm
    have hsne := HC5.out.s_apart.1
    have hs5 := get_lt HC5.out.cell
    have hp5 := get_lt HB5.out
    have hcbs : s ≠ cA.b := fun e => hsne ⟨_, hgm, .inl e⟩
    have hcrs : cA.row.ownBlock ≠ some s := fun e => hsne ⟨_, hgm, .inr (.inl e)⟩
    have hcbp : p ≠ cA.b := fun e => HPN.out (.inr (.inr (.inl ⟨_, hgm, .inl e⟩)))
    have hcrp : cA.row.ownBlock ≠ some p := fun e => HPN.out (.inr (.inr (.inl ⟨_, hgm, .inr (.inl e)⟩)))
    have hmne := HC5.out.m_ne hgm
    obtain ⟨SS, hSS⟩ : ∃ S : Nat → Prop, ∀ g, S g ↔ (g = cA.b ∨ cA.row.ownBlock = some g) := ⟨_, fun _ => Iff.rfl⟩
    have f7 : ∀ W, Kp SS w5 W → W.cell? ⟨s, 7, none⟩ = some (.map (some m)) := fun W hW => (hW.cell (p := ⟨s, 7, none⟩) hs5 fun h => ((hSS _).1 h).elim hcbs hcrs).trans (HC5.out.at_ (Kp.refl _ _) 7)
    have fp2 : ∀ W, Kp SS w5 W → W.cell? ⟨p, 2, none⟩ = some (.string x.r.key) := fun W hW => (hW.cell (p := ⟨p, 2, none⟩) hp5 fun h => ((hSS _).1 h).elim hcbp hcrp).trans (cell_at HB5.out 2)
    have lk : ∀ W, Kp SS w5 W → (Instr.lookup 128 (.map (some m)) (.string x.r.key) false).run Tryz.prog W = .ok (.pointer (some ⟨cA.b, 0, none⟩)) W := fun W hW => by
     rw [look_chain (HC5.out.map.of_heap (hW.block m HC5.out.map.lt fun h => ((hSS _).1 h).elim hmne.1 hmne.2)) x.r.key, gget_cptr, HG5.out]
     rfl
    have RV := Lib.hid (show ∀ W, Kp SS w5 W → W.rangeAt p 3 (verC x.ver) from fun W hW j u hu => by
     have h1 := rangeAt_block HB5.out 3 6 j u hu
     rw [hW.cell (p := ⟨p, 3 + j, none⟩) hp5 fun h => ((hSS _).1 h).elim hcbp hcrp]
     exact h1)
    have hput := fun q => cPut_any (w5.drewN q) cA x.ver (hco.keep_no ((Kp.refl No w5).drewN q)) HCV.out.2.1 ((VerR.rd_kp (HLR.out w5 HK5.out) ((Kp.refl No w5).drewN q))) HCV.out.2.2.1 HCV.out.2.2.2.1 HCV.out.2.2.2.2
    simp only [verV] at hput
    have HPU := Lib.hid hput
    have HSS := Lib.hid hSS
    clear hSS hgm hco hsne hcbs hcrs hcbp hcrp hmne hput
    go_upto_region 5 with fail
    refine wp_region_held' (Kp SS w5) [0,0,0,0,0,0,0,0,0,2,0,2] [0,1,2,3,4,5,6,7,8,9,10,11] (by kernel_rfl) (by kernel_rfl) (fun _ n h => h.drewN n) (Kp.refl _ _) ?_
    repeat (first
     | (apply wpOrd_skip rfl (by decide) rfl; (focus (go_simp; rfl)))
     | (apply wpOrd_pure rfl rfl rfl; (focus (intro _ _; go_simp; (try go_ints); rfl)); (focus (go_simp; rfl)))
     | (apply wpOrd_read rfl rfl rfl; (focus (intro _; go_simp; (try go_ints); rfl)); (focus (go_simp; rfl))))
    (try (apply wpOrd_pure rfl rfl rfl; (focus (intro W hW; go_simp; rw [lk W hW]; rfl)); (focus (go_simp; rfl))))
    repeat (first
     | (apply wpOrd_skip rfl (by decide) rfl; (focus (go_simp; rfl)))
     | (apply wpOrd_pure rfl rfl rfl; (focus (intro _ _; go_simp; (try go_ints); rfl)); (focus (go_simp; rfl)))
     | (apply wpOrd_read rfl rfl rfl; (focus (intro _; go_simp; (try go_ints); rfl)); (focus (go_simp; rfl))))
    apply wpOrd_pure rfl rfl rfl
    ·intro W hW
     exact exec_load_w 44 _ rfl p 3 rfl (verC x.ver) _ (RV.out W hW) Tryz.underlying44 rfl (by kernel_rfl)
    ·(focus (go_simp; rfl))
    refine wpOrd_eff rfl rfl (fun q5 => ?_)
    go_wp2_with fail
    refine (HPU.out q5).mono ?_
    rintro e w6 ⟨rfl, c6, hP6⟩
    have hP6k : Kp SS w5 w6 := hP6.kp.of_drewN.mono fun g _ h => (HSS.out g).2 h
    have HP6 := Lib.hid hP6
    clear hP6 HPU
    go_wp2_with fail
    (try refine ⟨hP6k, ?_⟩)
    repeat (first
     | (apply wpOrd_skip rfl (by decide) rfl; (focus (go_simp; rfl)))
     | (apply wpOrd_pure rfl rfl rfl; (focus (intro _ _; go_simp; (try go_ints); rfl)); (focus (go_simp; rfl)))
     | (apply wpOrd_read rfl rfl rfl; (focus (intro _; go_simp; (try go_ints); rfl)); (focus (go_simp; rfl))))
    refine wpOrd_eff rfl rfl (fun q6 => ?_)
    go_wp2_with fail
    refine (right_ok 3 _).mono ?_
    rintro e w7 ⟨rfl, rfl⟩
    go_wp2_with fail
    (try refine ⟨hP6k.drewN q6, ?_⟩)
    repeat (first
     | (apply wpOrd_skip rfl (by decide) rfl; (focus (go_simp; rfl)))
     | (apply wpOrd_pure rfl rfl rfl; (focus (intro _ _; go_simp; (try go_ints); rfl)); (focus (go_simp; rfl)))
     | (apply wpOrd_read rfl rfl rfl; (focus (intro _; go_simp; (try go_ints); rfl)); (focus (go_simp; rfl))))
    refine wpOrd_nil (fun nq => ?_)
    have hP6k : Kp (fun g => g = cA.b ∨ cA.row.ownBlock = some g) w5 w6 := hP6k.mono fun g _ h => (HSS.out g).1 h
    have hsK : SortK stA.keys := HSK.out
    have hC6 := HC5.out.setChain (w' := w6) (c' := c6) hsK HG5.out HP6.out.b hP6k HP6.out.ok (HP6.out.row.imp id fun ⟨g, e, hg⟩ g' hg' => by
     rw [e] at hg'
     injection hg' with hg'
     have hg : w5.heap.size ≤ g := hg
     omega)
    obtain ⟨w8, hw8⟩ : ∃ W, W = (w6.drewN q6).drewN nq := ⟨_, rfl⟩
    have h68 : Kp No w6 w8 := by rw [hw8]; exact ((Kp.refl No w6).drewN q6).drewN nq
    have HC8 := Lib.hid (hC6.keep_no h68)
    have hk58 : Kp (fun g => g = cA.b ∨ cA.row.ownBlock = some g) w5 w8 := hP6k.trans_no h68
    have HB8 := Lib.hid (hk58.get HB5.out fun h => h.elim (fun e => HPN.out (.inr (.inr (.inl ⟨_, gget_mem HG5.out, .inl e⟩)))) fun e => HPN.out (.inr (.inr (.inl ⟨_, gget_mem HG5.out, .inr (.inl e)⟩))))
    have hF8c : ∀ g, ChsF (gset csA x.r.key c6) g → ChsF csA g ∨ w5.heap.size ≤ g := chsF_set (w := w5) HG5.out HC5.out.chs.keys HP6.out.b (HP6.out.row.imp id fun ⟨g, e, hg⟩ g' hg' => by
     rw [e] at hg'
     injection hg' with hg'
     have hg : w5.heap.size ≤ g := hg
     omega) (fun y hy => (HP6.out.vals y hy).imp id fun hn g hg => hn g hg)
    have HF8 := Lib.hid (show ∀ g, StF s m (gset csA x.r.key c6) kaA kcA KA g → StF s m cs ka kc K g ∨ w.heap.size ≤ g from fun g hg => by
     rcases hg with hg | hg | hg | hg
     ·exact HF5.out g (.inl hg)
     ·exact HF5.out g (.inr (.inl hg))
     ·rcases hF8c g hg with hg | hg
      ·exact HF5.out g (.inr (.inr (.inl hg)))
      ·have := HK5.out.size
       exact .inr (by omega)
     ·exact HF5.out g (.inr (.inr (.inr hg))))
    have HK8 := Lib.hid (show Kp (StF s m cs ka kc K) w w8 from HK5.out.trans hk58 fun i hi hS => by
     have hin : StF s m csA kaA kcA KA i := .inr (.inr (.inl ⟨_, gget_mem HG5.out, hS.imp id fun e => .inl e⟩))
     rcases HF5.out i hin with h1 | h1
     ·exact h1
     ·omega)
    have HN8 := Lib.hid (show ¬ StF s m (gset csA x.r.key c6) kaA kcA KA p from fun hg => by
     rcases hg with hg | hg | hg | hg
     ·exact HPN.out (.inl hg)
     ·exact HPN.out (.inr (.inl hg))
     ·rcases hF8c p hg with hg | hg
      ·exact HPN.out (.inr (.inr (.inl hg)))
      ·omega
     ·exact HPN.out (.inr (.inr (.inr hg))))
    have HL8 := Lib.hid (show ∀ q ∈ gset csA x.r.key c6, q.2.R.length ≤ B + (k + 1) from by
     refine gset_each (Q := fun c => c.R.length ≤ B + (k + 1)) (fun q hq => Nat.le_succ_of_le (HLN.out.1 q hq)) ?_
     have h1 := congrArg List.length HP6.out.vs
     unfold ChR.vs at h1
     rw [List.length_map, putC_length, List.length_map] at h1
     have h2 := HLN.out.1 _ (gget_mem HG5.out)
     have h2 : cA.R.length ≤ B + k := h2
     omega)
    have HV8 := Lib.hid (show c6.vs = putC cA.vs x.r.v from HP6.out.vs)
    rw [← hw8]
    clear hw8 h68 hk58 hF8c hC6 hP6k HP6 f7 fp2 lk RV hs5 hp5 hsK HB5 HF5 HK5
    have hs8 := get_lt HC8.out.cell
    have hp8 := get_lt HB8.out
    have hps : p ≠ s := fun e => HN8.out (.inl e)
    have d0 : ∀ W, Kp (Mer.One s) w8 W → W.cell? ⟨p, 0, none⟩ = some (.int .i64 (oN : Int)) := fun W hW => cell_at (hW.get HB8.out fun e => hps e) 0
    have d1 : ∀ W, Kp (Mer.One s) w8 W → W.cell? ⟨p, 1, none⟩ = some (.int .i64 x.r.seq) := fun W hW => cell_at (hW.get HB8.out fun e => hps e) 1
    have RT := Lib.hid (show ∀ W, Kp (Mer.One s) w8 W → W.rangeAt p 3 [.int .i64 x.r.v.m, .int .i64 x.r.v.c] from fun W hW => by have := rangeAt_block (hW.get HB8.out fun e => hps e) 3 2; exact this)
    go_upto_region 6 with fail
    refine wp_region_held' (Kp (Mer.One s) w8) [0,0,0,0,0,0,0,0,0,0,0,0,2] [0,1,2,3,4,5,6,7,8,9,10,11,12] (by kernel_rfl) (by kernel_rfl) (fun _ n h => h.drewN n) (Kp.refl _ _) ?_
    repeat (first
     | (apply wpOrd_skip rfl (by decide) rfl; (focus (go_simp; rfl)))
     | (apply wpOrd_pure rfl rfl rfl; (focus (intro _ _; go_simp; (try go_ints); rfl)); (focus (go_simp; rfl)))
     | (apply wpOrd_read rfl rfl rfl; (focus (intro _; go_simp; (try go_ints); rfl)); (focus (go_simp; rfl))))
    apply wpOrd_pure rfl rfl rfl
    ·intro W hW
     exact exec_load_w 25 _ rfl p 3 rfl [.int .i64 x.r.v.m, .int .i64 x.r.v.c] _ (RT.out W hW) Tryz.underlying25 rfl (by kernel_rfl)
    ·(focus (go_simp; rfl))
    repeat (first
     | (apply wpOrd_skip rfl (by decide) rfl; (focus (go_simp; rfl)))
     | (apply wpOrd_pure rfl rfl rfl; (focus (intro _ _; go_simp; (try go_ints); rfl)); (focus (go_simp; rfl)))
     | (apply wpOrd_read rfl rfl rfl; (focus (intro _; go_simp; (try go_ints); rfl)); (focus (go_simp; rfl))))
    apply wpOrd_pure rfl rfl rfl
    ·(focus (intro _ _; go_simp; rw [if_pos (show ((oN : Nat) : Int) < 5 from Int.ofNat_lt.2 hoL)]))
    ·(focus (go_simp; rfl))
    refine wpOrd_eff rfl rfl (fun q8 => ?_)
    obtain ⟨w9, hw9⟩ : ∃ W, W = w8.drewN q8 := ⟨_, rfl⟩
    have h89 : Kp No w8 w9 := by rw [hw9]; exact (Kp.refl No w8).drewN q8
    have hb9 := h89.get HC8.out.cell fun x => x
    have hR9 : w9.rangeAt s 10 (ofC stA.of) := by
     have := rangeAt_block hb9 10 15
     rwa [st_of] at this
    have g3 := ofC_get stA.of hoL
    have g0 : w9.cell? ⟨s, 10 + oN * 3, none⟩ = some (.int .i64 (ofAt stA.of oN).seq) := hR9 _ _ g3.1
    have g1 : w9.cell? ⟨s, 10 + oN * 3 + 1, none⟩ = some (.int .i64 (ofAt stA.of oN).m) := hR9 _ _ g3.2.1
    have g2 : w9.cell? ⟨s, 10 + oN * 3 + 2, none⟩ = some (.int .i64 (ofAt stA.of oN).c) := hR9 _ _ g3.2.2
    have f0 := free_at hb9 (10 + oN * 3)
    have f1 := free_at hb9 (10 + oN * 3 + 1)
    have f2 := free_at hb9 (10 + oN * 3 + 2)
    have hs9 := get_lt hb9
    have HC9 := Lib.hid (HC8.out.keep_no h89)
    have HB9 := Lib.hid (h89.get HB8.out fun x => x)
    have HK89 := Lib.hid h89
    rw [← hw9]
    clear hw9 h89 hb9 hR9 g3
    go_wp2_with fail
    have hof5 : stA.of.length = 5 := by rw [HSA.out.2.1]; exact HX.out.2.2.1.of5
    have hso9 := HC9.out.setOf (dn := ⟨x.r.seq, x.r.v.m, x.r.v.c⟩) hof5 hoL
    obtain ⟨wA, hwA⟩ : ∃ W, W = (((w9.setCell ⟨s, 10 + oN * 3, none⟩ (.int .i64 x.r.seq)).setCell ⟨s, 10 + oN * 3 + 1, none⟩ (.int .i64 x.r.v.m)).setCell ⟨s, 10 + oN * 3 + 2, none⟩ (.int .i64 x.r.v.c)) := ⟨_, rfl⟩
    have kA : Kp (Mer.One s) w8 wA := by
     rw [hwA]
     exact (((Kp.of_no HK89.out).setCell (p := ⟨s, 10 + oN * 3, none⟩) (.inl (show Mer.One s s from rfl)) _).setCell (p := ⟨s, 10 + oN * 3 + 1, none⟩) (.inl (show Mer.One s s from rfl)) _).setCell (p := ⟨s, 10 + oN * 3 + 2, none⟩) (.inl (show Mer.One s s from rfl)) _
    rw [← hwA] at hso9
    rw [← hwA]
    clear g0 g1 g2 f0 f1 f2 hwA hof5 d0 d1
    have HKA := Lib.hid kA
    refine ⟨kA, ?_⟩
    refine wpOrd_nil (fun nq => ?_)
    obtain ⟨wB, hwB⟩ : ∃ W, W = wA.drewN nq := ⟨_, rfl⟩
    have kAB : Kp No wA wB := by rw [hwB]; exact (Kp.refl No wA).drewN nq
    obtain ⟨stB, hstB, hCB⟩ : ∃ stB : SSt, stB = { { stA with keys := setK stA.keys x.r.key c6.vs } with of := stA.of.set oN ⟨x.r.seq, x.r.v.m, x.r.v.c⟩ } ∧ StC wB s d l P o stB m (gset csA x.r.key c6) kaA kcA KA := ⟨_, rfl, hso9.keep_no kAB⟩
    have HSTB := Lib.hid hstB
    have HCB := Lib.hid hCB
    have HBB := Lib.hid (kAB.get (kA.get HB8.out fun e => hps e) fun x => x)
    have HKB := Lib.hid (show Kp (StF s m cs ka kc K) w wB from (HK8.out.trans kA fun _ _ e => .inl e).trans_no kAB)
    rw [← hwB]
    clear hwB kAB hstB hCB hso9 kA HC9 HB9 HK89 HC8 HB8 HK8 RT hs8 hp8 hs9
    go_wp2_with fail
    have hsB := get_lt HCB.out.cell
    have hpB := get_lt HBB.out
    have d0 : ∀ W, Kp No wB W → W.cell? ⟨p, 0, none⟩ = some (.int .i64 (oN : Int)) := fun W hW => cell_at (hW.get HBB.out fun x => x) 0
    have d3 : ∀ W, Kp No wB W → W.cell? ⟨s, 3, none⟩ = some (.int .i64 (o : Int)) := fun W hW => HCB.out.at_ hW 3
    by_cases hoo : oN = o
    ·have e1 : ((oN : Int) == (o : Int)) = true := by rw [beq_iff_eq, hoo]
     have e1' : (oN == o) = true := by rw [beq_iff_eq, hoo]
     have HOO := Lib.hid hoo
     clear hoo
     refine wp_region_held' (Kp No _) [0,0,0,0,0,0,0] [0,1,2,3,4,5,6] (by kernel_rfl) (by kernel_rfl) (fun _ n h => h.drewN n) (Kp.refl _ _) ?_
     repeat (first
      | (apply wpOrd_skip rfl (by decide) rfl; (focus (go_simp; rfl)))
      | (apply wpOrd_pure rfl rfl rfl; (focus (intro _ _; go_simp; (try go_ints); rfl)); (focus (go_simp; rfl)))
      | (apply wpOrd_read rfl rfl rfl; (focus (intro _; go_simp; (try go_ints); rfl)); (focus (go_simp; rfl))))
     refine wpOrd_nil (fun nq => ?_)
     obtain ⟨wC, hwC⟩ : ∃ W, W = wB.drewN nq := ⟨_, rfl⟩
     have kBC : Kp No wB wC := by rw [hwC]; exact (Kp.refl No wB).drewN nq
     rw [← hwC]
     clear d0 d3
     have bC := kBC.get HBB.out fun x => x
     have c6' : wC.cell? ⟨p, 6, none⟩ = some (.slice x.a x.r.v.val.length x.cap) := cell_at bC 6
     have hpC := get_lt bC
     have hLx := HLR.out wC (HKB.out.trans_no kBC)
     have hvl : x.r.v.val.length ≤ 1024 := (isV_iff.1 (isR_iff.1 HX.out.1).1).2.2.2.1
     have hcl := byClone_any x.a x.cap x.r.v.val wC.heap.size wC hLx.1 (by omega)
     have HCL := Lib.hid hcl
     have HBC := Lib.hid bC
     have HKC := Lib.hid kBC
     clear hwC kBC bC hLx hcl hvl
     go_wp2_with fail
     refine HCL.out.mono ?_
     rintro e7 w7 ⟨v7, rfl, hown, hk7, hfr7⟩
     obtain ⟨hul, a7, c7, rfl, hc71, hc72, hc73⟩ := id hown
     have b7 := hk7.get HBC.out fun x => x
     have f6 := free_at b7 6
     have g6 : w7.cell? ⟨p, 6, none⟩ = some (.slice x.a x.r.v.val.length x.cap) := cell_at b7 6
     have hp7 := get_lt b7
     obtain ⟨wD, hwD⟩ : ∃ W, W = w7.setCell ⟨p, 6, none⟩ (.slice a7 x.r.v.val.length c7) := ⟨_, rfl⟩
     have kD : Kp (Mer.One p) w7 wD := by rw [hwD]; exact (Kp.refl (Mer.One p) w7).setCell (p := ⟨p, 6, none⟩) (.inl (show Mer.One p p from rfl)) _
     have bD : wD.heap[p]? = some (.cells #[.int .i64 (oN : Int), .int .i64 x.r.seq, .string x.r.key, .int .i64 x.r.v.m, .int .i64 x.r.v.c, .int .i64 x.r.v.o, .slice a7 x.r.v.val.length c7, .bool x.r.v.gone, .int .i64 x.r.v.ttl] 46 (0, 0)) := by
      rw [hwD, set_at b7]
      rfl
     have hownD : RecR.ok ⟨x.r, a7, c7⟩ wD := Own.keep hown kD fun g hg e => by
      obtain ⟨cur, hcur⟩ := hown.type g hg
      exact ne_of_type hcur b7 (by decide) e
     have HOD := Lib.hid hownD
     have HFR := Lib.hid (show ∀ g, (RecR.sl ⟨x.r, a7, c7⟩).ownBlock = some g → w.heap.size ≤ g from fun g hg => by
      have h1 := hfr7 g hg
      have h2 := HKB.out.size
      have h3 := HKC.out.size
      omega)
     have HCD := Lib.hid ((HCB.out.keep_no (HKC.out.trans_same hk7)).keep kD fun g hg e => HN8.out ((show g = p from e) ▸ hg))
     have HKD := Lib.hid (show Kp (StF s m cs ka kc K) w wD from ((HKB.out.trans_no HKC.out).trans_no hk7).trans kD fun i hi e => by
      have := HPQ.out
      have e : i = p := e
      omega)
     have HBD := Lib.hid bD
     have HWD := Lib.hid hwD
     clear hul hc71 hc72 hc73 hown hk7 hfr7 kD bD hwD b7 hownD HCL HBC HKC c6' hpC HCB HBB HKB hsB hpB
     go_upto_region 9 with fail
     rw [← HWD.out]
     clear f6 g6 hp7 HWD
     have hlD := HLN.out.2
     have HQ := Lib.hid (show ∀ g, (Value.slice kaA KA.length kcA).ownBlock = some g → g ≠ p ∧ g ≠ s from fun g hg => ⟨fun e => HN8.out (e ▸ .inr (.inr (.inr (.inl hg)))), fun e => HCD.out.s_apart.2 (e ▸ .inl hg)⟩)
     have q1 : ∀ W, Kp (fun g => (Value.slice kaA KA.length kcA).ownBlock = some g) wD W → W.cell? ⟨s, 25, none⟩ = some (.slice kaA KA.length kcA) := fun W hW => by
      rw [cell_at (hW.get HCD.out.cell fun hs => (HQ.out s hs).2 rfl)]
      rfl
     have R5 := Lib.hid (show ∀ W, Kp (fun g => (Value.slice kaA KA.length kcA).ownBlock = some g) wD W → W.rangeAt p 0 [.int .i64 (oN : Int), .int .i64 x.r.seq, .string x.r.key, .int .i64 x.r.v.m, .int .i64 x.r.v.c, .int .i64 x.r.v.o, .slice a7 x.r.v.val.length c7, .bool x.r.v.gone, .int .i64 x.r.v.ttl] from fun W hW => by
      have := rangeAt_block (hW.get HBD.out fun hs => (HQ.out p hs).1 rfl) 0 9
      exact this)
     refine wp_region_last (Kp (fun g => (Value.slice kaA KA.length kcA).ownBlock = some g) wD) [0,0,0,0,0,0,2,2,0,0,2] [0,1,2,3,4,5,6,7,8,9] 10 (by kernel_rfl) (by kernel_rfl) (fun _ n h => h.drewN n) (Kp.refl _ _) ?_
     repeat (first
      | (apply wpOrd_skip rfl (by decide) rfl; (focus (go_simp; rfl)))
      | (apply wpOrd_pure rfl rfl rfl; (focus (intro _ _; go_simp; (try go_ints); rfl)); (focus (go_simp; rfl)))
      | (apply wpOrd_read rfl rfl rfl; (focus (intro _; go_simp; (try go_ints); rfl)); (focus (go_simp; rfl))))
     refine wpOrd_pure rfl rfl rfl (v := .agg #[.int .i64 (oN : Int), .int .i64 x.r.seq, .string x.r.key, .int .i64 x.r.v.m, .int .i64 x.r.v.c, .int .i64 x.r.v.o, .slice a7 x.r.v.val.length c7, .bool x.r.v.gone, .int .i64 x.r.v.ttl]) (fun W0 hW => exec_load_w 46 _ rfl p 0 rfl _ _ (R5.out W0 hW) Tryz.underlying46 rfl (by kernel_rfl)) rfl ?_
     refine wpOrd_eff rfl rfl (fun n1 => ?_)
     go_wp2_with fail
     obtain ⟨W8, hW8⟩ : ∃ W, W = (wD.drewN n1).alloc (.cells #[.int .i64 (oN : Int), .int .i64 x.r.seq, .string x.r.key, .int .i64 x.r.v.m, .int .i64 x.r.v.c, .int .i64 x.r.v.o, .slice a7 x.r.v.val.length c7, .bool x.r.v.gone, .int .i64 x.r.v.ttl] 46) := ⟨_, rfl⟩
     have k8 : Kp No wD W8 := by rw [hW8]; exact ((Kp.refl _ _).drewN _).alloc _
     have b8 : W8.heap[wD.heap.size]? = some (.cells #[.int .i64 (oN : Int), .int .i64 x.r.seq, .string x.r.key, .int .i64 x.r.v.m, .int .i64 x.r.v.c, .int .i64 x.r.v.o, .slice a7 x.r.v.val.length c7, .bool x.r.v.gone, .int .i64 x.r.v.ttl] 46 (0, 0)) := by rw [hW8]; exact heap_alloc_new (wD.drewN n1) _
     rw [← hW8]
     clear hW8
     refine ⟨Kp.of_no k8, ?_⟩
     refine wpOrd_eff rfl rfl (fun n2 => ?_)
     have hxo : (⟨x.r, a7, c7⟩ : RecR).r.o = (oN : Int) := HX.out.2.2.2.1
     obtain ⟨a9, c9, W9, hrun, hm9, hk9, hb9⟩ := own_two (T := 26) (E := 46) (sz := 9) (bytes := 96) Tryz.underlying26 infoRec (V := W8.drewN n2) (HCD.out.kept.own.keep (k8.drewN n2) fun _ _ x => x) (news := recC ⟨x.r, a7, c7⟩) (recC_one _) rfl (g := wD.heap.size) (cs := #[.int .i64 (oN : Int), .int .i64 x.r.seq, .string x.r.key, .int .i64 x.r.v.m, .int .i64 x.r.v.c, .int .i64 x.r.v.o, .slice a7 x.r.v.val.length c7, .bool x.r.v.gone, .int .i64 x.r.v.ttl]) b8 (by unfold recC; rw [hxo]; rfl) (by omega) (by omega)
     have HX9 := Lib.hid hrun
     have k9 : Kp (fun g => (Value.slice kaA KA.length kcA).ownBlock = some g) wD W9 := (Kp.of_no (k8.drewN n2)).trans_same hk9
     have h8s : wD.heap.size ≤ (W8.drewN n2).heap.size := (k8.drewN n2).size
     clear hrun hk9
     refine wpList_append_run rfl rfl rfl rfl HX9.out (wpList_nil ⟨rfl, k9, ?_⟩)
     clear HX9 q1
     repeat (first
      | (apply wpOrd_skip rfl (by decide) rfl; (focus (go_simp; rfl)))
      | (apply wpOrd_pure rfl rfl rfl; (focus (intro _ _; go_simp; (try go_ints); rfl)); (focus (go_simp; rfl)))
      | (apply wpOrd_read rfl rfl rfl; (focus (intro _; go_simp; (try go_ints); rfl)); (focus (go_simp; rfl))))
     refine last_now (fun n4 => ?_)
     refine wpOrd_eff rfl rfl (fun n5 => ?_)
     obtain ⟨Wa, hWa⟩ : ∃ W, W = (W9.drewN n4).drewN n5 := ⟨_, rfl⟩
     have hma := hm9.keep (show Kp No W9 Wa by rw [hWa]; exact ((Kp.refl No W9).drewN n4).drewN n5) fun _ _ x => x
     have ka9 : Kp (fun g => (Value.slice kaA KA.length kcA).ownBlock = some g) wD Wa := by rw [hWa]; exact (k9.drewN n4).drewN n5
     have hba : (Value.slice a9 (KA.length + 1) c9).ownBlock = (Value.slice kaA KA.length kcA).ownBlock ∨ ∃ g, (Value.slice a9 (KA.length + 1) c9).ownBlock = some g ∧ wD.heap.size ≤ g := hb9.imp id fun ⟨g, e, hg⟩ => ⟨g, e, Nat.le_trans h8s hg⟩
     have hcE := HCD.out.keepMore (x := ⟨x.r, a7, c7⟩) ka9 hma hba HOD.out
     have bs := ka9.get HCD.out.cell fun hs => (HQ.out s hs).2 rfl
     have hsa := get_lt bs
     have f25 := free_at bs 25
     have g25 : Wa.cell? ⟨s, 25, none⟩ = some (.slice kaA KA.length kcA) := by rw [cell_at bs]; rfl
     have HKE := Lib.hid (show Kp (StF s m cs ka kc K) w (Wa.setCell ⟨s, 25, none⟩ (.slice a9 (KA.length + 1) c9)) from (HKD.out.trans ka9 fun i hi hS => by
      rcases HF8.out i (.inr (.inr (.inr (.inl hS)))) with h1 | h1
      ·exact h1
      ·omega).setCell (p := ⟨s, 25, none⟩) (.inl (.inl rfl)) _)
     have HCE := Lib.hid hcE
     have HBA := Lib.hid (show ∀ g, (Value.slice a9 (KA.length + 1) c9).ownBlock = some g → (Value.slice kaA KA.length kcA).ownBlock = some g ∨ w.heap.size ≤ g from fun g hg => by
      rcases hba with h1 | ⟨g', h1, h2⟩
      ·exact .inl (h1 ▸ hg)
      ·rw [hg] at h1
       injection h1 with h1
       have := HKD.out.size
       exact .inr (by omega))
     rw [← hWa]
     clear hWa hma ka9 k9 k8 b8 hm9 hb9 h8s hba hcE bs hxo R5 HKD HCD HBD
     go_wp2_with fail
     intro nr
     obtain ⟨wE, hwE⟩ : ∃ W, W = (Wa.setCell ⟨s, 25, none⟩ (.slice a9 (KA.length + 1) c9)).drewN nr := ⟨_, rfl⟩
     have hEE : Kp No (Wa.setCell ⟨s, 25, none⟩ (.slice a9 (KA.length + 1) c9)) wE := by rw [hwE]; exact (Kp.refl No _).drewN nr
     have hoT : x.r.o.toNat = oN := by rw [HX.out.2.2.2.1]; rfl
     have HJE := Lib.hid (layJ_next (HCE.out.keep_no hEE) (fun g hg => by
      rcases hg with hg | hg | hg | hg | ⟨y, hy, hg⟩
      ·exact HF8.out g (.inl hg)
      ·exact HF8.out g (.inr (.inl hg))
      ·exact HF8.out g (.inr (.inr (.inl hg)))
      ·rw [List.length_append, List.length_singleton] at hg
       rcases HBA.out g hg with h1 | h1
       ·exact HF8.out g (.inr (.inr (.inr (.inl h1))))
       ·exact .inr h1
      ·rcases List.mem_append.1 hy with hy | hy
       ·exact HF8.out g (.inr (.inr (.inr (.inr ⟨y, hy, hg⟩))))
       ·rw [List.mem_singleton] at hy
        rw [hy] at hg
        exact .inr (HFR.out g hg)) (HKE.out.trans_no hEE) HL8.out (by rw [List.length_append, List.length_singleton]; omega) HX.out.2.2.2.2.1 HX.out.2.2.2.2.2 (by rw [HSTB.out, HV8.out]; exact HSA.out.1) (by rw [HSTB.out]; exact HSA.out.2.2.2.1) (by rw [HSTB.out]; exact HSA.out.2.2.2.2.1) (by rw [HSTB.out]; exact HSA.out.2.2.2.2.2.1) (by rw [HSTB.out]; exact HSA.out.2.2.2.2.2.2.1) (by rw [HSTB.out]; exact HSA.out.2.2.2.2.2.2.2) (by rw [HSTB.out, ← HSA.out.2.1]; unfold doneR; rw [hoT]) (by rw [HSTB.out, if_pos (by rw [HX.out.2.2.2.1, HOO.out]), ← HSA.out.2.2.1]))
     rw [← hwE]
     clear hwE hEE hoT f25 g25 hsa HKE HCE HBA
     go_wp2_with fail
     go_roundw
     case rel => exact ⟨k + 1, hlt, by go_num, HJE⟩
     case measure => simp [intOf]; omega
    ·have e1 : ((oN : Int) == (o : Int)) = false := by rw [beq_eq_false_iff_ne]; exact fun e => hoo (by omega)
     have e1' : (oN == o) = false := by rw [beq_eq_false_iff_ne]; exact hoo
     have HOO := Lib.hid hoo
     clear hoo
     refine wp_region_held' (Kp No _) [0,0,0,0,0,0,0] [0,1,2,3,4,5,6] (by kernel_rfl) (by kernel_rfl) (fun _ n h => h.drewN n) (Kp.refl _ _) ?_
     repeat (first
      | (apply wpOrd_skip rfl (by decide) rfl; (focus (go_simp; rfl)))
      | (apply wpOrd_pure rfl rfl rfl; (focus (intro _ _; go_simp; (try go_ints); rfl)); (focus (go_simp; rfl)))
      | (apply wpOrd_read rfl rfl rfl; (focus (intro _; go_simp; (try go_ints); rfl)); (focus (go_simp; rfl))))
     refine wpOrd_nil (fun nq => ?_)
     obtain ⟨wE, hwE⟩ : ∃ W, W = wB.drewN nq := ⟨_, rfl⟩
     have hEE : Kp No wB wE := by rw [hwE]; exact (Kp.refl No wB).drewN nq
     have hoT : x.r.o.toNat = oN := by rw [HX.out.2.2.2.1]; rfl
     have HJE := Lib.hid (layJ_next (HCB.out.keep_no hEE) HF8.out (HKB.out.trans_no hEE) HL8.out (by have := HLN.out.2; omega) HX.out.2.2.2.2.1 HX.out.2.2.2.2.2 (by rw [HSTB.out, HV8.out]; exact HSA.out.1) (by rw [HSTB.out]; exact HSA.out.2.2.2.1) (by rw [HSTB.out]; exact HSA.out.2.2.2.2.1) (by rw [HSTB.out]; exact HSA.out.2.2.2.2.2.1) (by rw [HSTB.out]; exact HSA.out.2.2.2.2.2.2.1) (by rw [HSTB.out]; exact HSA.out.2.2.2.2.2.2.2) (by rw [HSTB.out, ← HSA.out.2.1]; unfold doneR; rw [hoT]) (by rw [HSTB.out, if_neg (fun e => HOO.out (by rw [HX.out.2.2.2.1] at e; omega)), ← HSA.out.2.2.1]))
     rw [← hwE]
     clear hwE hEE hoT d0 d3 HCB HBB HKB hsB hpB
     go_wp2_with fail
     go_roundw
     case rel => exact ⟨k + 1, hlt, by go_num, HJE⟩
     case measure => simp [intOf]; omega
   | none =>
    rw [gget_cptr, hgg] at lk
    rw [hgg] at hch
    simp only [Option.map_none, Option.getD_none] at lk
    refine wp_region_held' (Kp No _) [0,0,0,0,0,0,0,0] [0,1,2,3,4,5,6,7] (by kernel_rfl) (by kernel_rfl) (fun _ n h => h.drewN n) (Kp.refl _ _) ?_
    repeat (first
     | (apply wpOrd_skip rfl (by decide) rfl; (focus (go_simp; rfl)))
     | (apply wpOrd_pure rfl rfl rfl; (focus (intro _ _; go_simp; (try go_ints); rfl)); (focus (go_simp; rfl)))
     | (apply wpOrd_read rfl rfl rfl; (focus (intro _; go_simp; (try go_ints); rfl)); (focus (go_simp; rfl))))
    (try (apply wpOrd_pure rfl rfl rfl; (focus (intro W hW; go_simp; rw [lk W hW]; rfl)); (focus (go_simp; rfl))))
    repeat (first
     | (apply wpOrd_skip rfl (by decide) rfl; (focus (go_simp; rfl)))
     | (apply wpOrd_pure rfl rfl rfl; (focus (intro _ _; go_simp; (try go_ints); rfl)); (focus (go_simp; rfl)))
     | (apply wpOrd_read rfl rfl rfl; (focus (intro _; go_simp; (try go_ints); rfl)); (focus (go_simp; rfl))))
    refine wpOrd_nil (fun nq => ?_)
    obtain ⟨w2, hw2⟩ : ∃ W, W = w1.drewN nq := ⟨_, rfl⟩
    have h12 : Kp No w1 w2 := by rw [hw2]; exact (Kp.refl No w1).drewN nq
    rw [← hw2]
    clear hw2 lk
    have HC2 := Lib.hid (HC1.out.keep_no h12)
    have HB2 := Lib.hid (h12.get HB1.out fun x => x)
    have HK2 := Lib.hid (show Kp (StF s m cs ka kc K) w w2 from HK1.out.trans_no h12)
    have hs2 := get_lt HC2.out.cell
    have hp2 := get_lt HB2.out
    have hsm : s ≠ m := fun e => HC2.out.s_ne_m e
    have hpm : p ≠ m := fun e => HPN1.out (.inr (.inl e))
    have f7 : ∀ W, Kp (Mer.One m) w2 W → W.cell? ⟨s, 7, none⟩ = some (.map (some m)) := fun W hW => (hW.cell (p := ⟨s, 7, none⟩) hs2 hsm).trans (HC2.out.at_ (Kp.refl _ _) 7)
    have fp2 : ∀ W, Kp (Mer.One m) w2 W → W.cell? ⟨p, 2, none⟩ = some (.string x.r.key) := fun W hW => cell_at (hW.get HB2.out hpm) 2
    have HGG := Lib.hid hgg
    have HCC := Lib.hid hch
    clear h12 HC1 HB1 HK1 hs1 hp1 hgg hch
    go_upto_region 4 with fail
    refine wp_region_held' (Kp (Mer.One m) w2) [0,0,0,0,0,0,2,0,0,0,2] [0,1,2,3,4,5,6,7,8,9,10] (by kernel_rfl) (by kernel_rfl) (fun _ n h => h.drewN n) (Kp.refl _ _) ?_
    repeat (first
     | (apply wpOrd_skip rfl (by decide) rfl; (focus (go_simp; rfl)))
     | (apply wpOrd_pure rfl rfl rfl; (focus (intro _ _; go_simp; (try go_ints); rfl)); (focus (go_simp; rfl)))
     | (apply wpOrd_read rfl rfl rfl; (focus (intro _; go_simp; (try go_ints); rfl)); (focus (go_simp; rfl))))
    refine wpOrd_eff rfl rfl (fun q1 => ?_)
    go_wp2_with fail
    refine (cOf_any _).mono ?_
    rintro e w3 ⟨b, rfl, hok3, hb3, hk3⟩
    have k3 : Kp No w2 w3 := hk3.of_drewN
    have hb3' : w2.heap.size ≤ b := hb3
    have HOK3 := Lib.hid hok3
    have HB3 := Lib.hid hb3'
    clear hk3 hok3 hb3 hb3'
    go_wp2_with fail
    (try refine ⟨Kp.of_no k3, ?_⟩)
    repeat (first
     | (apply wpOrd_skip rfl (by decide) rfl; (focus (go_simp; rfl)))
     | (apply wpOrd_pure rfl rfl rfl; (focus (intro _ _; go_simp; (try go_ints); rfl)); (focus (go_simp; rfl)))
     | (apply wpOrd_read rfl rfl rfl; (focus (intro _; go_simp; (try go_ints); rfl)); (focus (go_simp; rfl))))
    refine wpOrd_eff rfl rfl (fun n5 => ?_)
    obtain ⟨W6, hW6⟩ : ∃ W, W = w3.drewN n5 := ⟨_, rfl⟩
    have k36 : Kp No w3 W6 := by rw [hW6]; exact (Kp.refl No w3).drewN n5
    have k26 := k3.trans_same k36
    rw [← hW6]
    have hC6 := HC2.out.keep_no k26
    obtain ⟨o2, hupd, hG⟩ := run_update_g (P := Tryz.prog) (w := W6) Tryz.underlying128 kindStrC strKey strInj hC6.map x.r.key (.pointer (some ⟨b, 0, none⟩))
    have HG := Lib.hid hG
    have HK26 := Lib.hid k26
    have HOK6 := Lib.hid (HOK3.out.keep_no k36)
    have HML := Lib.hid hC6.map.lt
    clear hG hW6 k36 k26 k3 hC6 f7 fp2
    go_wp2_with fail
    refine ⟨(Kp.of_no HK26.out).trans_same ((Kp.refl (Mer.One m) W6).setBlock (.inl rfl) o2), ?_⟩
    refine wpOrd_nil (fun nq => ?_)
    obtain ⟨nr, hnr⟩ : ∃ n, n = nq := ⟨_, rfl⟩
    rw [← hnr]
    clear hnr
    obtain ⟨w5, hw5⟩ : ∃ W, W = (ChangeMaps.setBlock W6 m o2).drewN nr := ⟨_, rfl⟩
    have k65 : Kp (Mer.One m) W6 w5 := by rw [hw5]; exact ((Kp.refl (Mer.One m) W6).setBlock (.inl rfl) o2).drewN nr
    have k25 : Kp (Mer.One m) w2 w5 := (Kp.of_no HK26.out).trans_same k65
    have hm5 : w5.heap[m]? = some o2 := by rw [hw5]; exact setBlock_at (w := W6) HML.out o2
    have hmap5 := HG.out w5 hm5
    have hml2 : m < w2.heap.size := HC2.out.map.lt
    have hbm : b ≠ m := by have := HB3.out; omega
    have hok5 : ChOk 203 w5 ⟨b, none, 0, []⟩ := HOK6.out.keep k65 fun g hg e => by
     rcases hg with hg | hg | ⟨y, hy, _⟩
     ·exact hbm (hg.symm.trans e)
     ·simp [ChR.row, Value.ownBlock] at hg
     ·exact absurd hy List.not_mem_nil
    have hC5 := HC2.out.addChain (c := ⟨b, none, 0, []⟩) HX.out.2.2.1.sorted HGG.out k25 hmap5 hok5 HB3.out (fun g hg => by simp [ChR.row, Value.ownBlock] at hg)
    obtain ⟨stA, hstA⟩ : ∃ stA : SSt, stA = { stk with keys := setK stk.keys x.r.key [] } := ⟨_, rfl⟩
    obtain ⟨cA, hcA⟩ : ∃ c : ChR, c = ⟨b, none, 0, []⟩ := ⟨_, rfl⟩
    have hfa := chsF_add (b := b) HGG.out
    have hcv : chainOf stk.keys x.r.key = [] := by unfold chainOf; rw [HCC.out]; rfl
    have HG5 := Lib.hid (gget_gset csA x.r.key cA)
    have HC5 := Lib.hid (show StC w5 s d l P o stA m (gset csA x.r.key cA) kaA kcA KA from by rw [hstA, hcA]; exact hC5)
    have HF5 := Lib.hid (show ∀ g, StF s m (gset csA x.r.key cA) kaA kcA KA g → StF s m cs ka kc K g ∨ w.heap.size ≤ g from fun g hg => by
     rw [hcA] at hg
     rcases hg with hg | hg | hg | hg
     ·exact HF1.out g (.inl hg)
     ·exact HF1.out g (.inr (.inl hg))
     ·rcases hfa g hg with hg | hg
      ·exact HF1.out g (.inr (.inr (.inl hg)))
      ·have h1 := HB3.out
       have h2 := HK2.out.size
       exact .inr (by omega)
     ·exact HF1.out g (.inr (.inr (.inr hg))))
    have HPN := Lib.hid (show ¬ StF s m (gset csA x.r.key cA) kaA kcA KA p from fun hg => by
     rw [hcA] at hg
     rcases hg with hg | hg | hg | hg
     ·exact HPN1.out (.inl hg)
     ·exact HPN1.out (.inr (.inl hg))
     ·rcases hfa p hg with hg | hg
      ·exact HPN1.out (.inr (.inr (.inl hg)))
      ·have h1 := HB3.out
       omega
     ·exact HPN1.out (.inr (.inr (.inr hg))))
    have HB5 := Lib.hid (k25.get HB2.out hpm)
    have HK5 := Lib.hid (show Kp (StF s m cs ka kc K) w w5 from HK2.out.trans k25 fun i _ e => .inr (.inl e))
    have HCV := Lib.hid (show cA.vs = chainOf stk.keys x.r.key ∧ ChS cA.vs ∧ isV x.ver.v = true ∧ putHas cA.vs x.ver.v = false ∧ cA.R.length ≤ 1000000 from by
     have e : cA.vs = chainOf stk.keys x.r.key := by rw [hcv, hcA]; rfl
     rw [e]
     exact ⟨rfl, HCH.out.1, HCH.out.2.1, HCH.out.2.2, by rw [hcA]; exact Nat.zero_le _⟩)
    have HSK := Lib.hid (show SortK stA.keys from by rw [hstA]; exact setK_sorted HX.out.2.2.1.sorted _ _)
    have HSA := Lib.hid (show (setK stA.keys x.r.key (putC cA.vs x.r.v)).Perm (setK stk.keys x.r.key (putC (chainOf stk.keys x.r.key) x.r.v)) ∧ (stA.of = stk.of ∧ stA.kept = stk.kept ∧ stA.age = stk.age ∧ stA.n = stk.n ∧ stA.dead = stk.dead ∧ stA.mm = stk.mm ∧ stA.mc = stk.mc) from by
     rw [HCV.out.1, hstA]
     exact ⟨setK_twice HX.out.2.2.1.sorted _ _ _, rfl, rfl, rfl, rfl, rfl, rfl, rfl⟩)
    have HLN2 := Lib.hid (show (∀ q ∈ gset csA x.r.key cA, q.2.R.length ≤ B + k) ∧ KA.length ≤ B + k from ⟨gset_each (Q := fun c => c.R.length ≤ B + k) HLN.out.1 (by rw [hcA]; exact Nat.zero_le _), HLN.out.2⟩)
    rw [← hw5]
    clear hw5 hsm k65 k25 hm5 hmap5 hml2 hbm hpm hok5 hC5 hfa hcv hstA hcA HLN HPN1 HF1 HK2 HB2 HC2 HML HOK6 HK26 HG HCC HGG hupd hs2 hp2 HOK3 HB3
    obtain ⟨csN, hcsN⟩ : ∃ c, c = gset csA x.r.key cA := ⟨_, rfl⟩
    rw [← hcsN] at HG5 HC5 HF5 HPN HLN2
    clear hcsN
    have HLN := HLN2
    clear HLN2
    go_wp2_with fail
    have hgm := gget_mem HG5.out
    have hco := HC5.out.chs.each _ hgm
    have hsne := HC5.out.s_apart.1
    have hs5 := get_lt HC5.out.cell
    have hp5 := get_lt HB5.out
    have hcbs : s ≠ cA.b := fun e => hsne ⟨_, hgm, .inl e⟩
    have hcrs : cA.row.ownBlock ≠ some s := fun e => hsne ⟨_, hgm, .inr (.inl e)⟩
    have hcbp : p ≠ cA.b := fun e => HPN.out (.inr (.inr (.inl ⟨_, hgm, .inl e⟩)))
    have hcrp : cA.row.ownBlock ≠ some p := fun e => HPN.out (.inr (.inr (.inl ⟨_, hgm, .inr (.inl e)⟩)))
    have hmne := HC5.out.m_ne hgm
    obtain ⟨SS, hSS⟩ : ∃ S : Nat → Prop, ∀ g, S g ↔ (g = cA.b ∨ cA.row.ownBlock = some g) := ⟨_, fun _ => Iff.rfl⟩
    have f7 : ∀ W, Kp SS w5 W → W.cell? ⟨s, 7, none⟩ = some (.map (some m)) := fun W hW => (hW.cell (p := ⟨s, 7, none⟩) hs5 fun h => ((hSS _).1 h).elim hcbs hcrs).trans (HC5.out.at_ (Kp.refl _ _) 7)
    have fp2 : ∀ W, Kp SS w5 W → W.cell? ⟨p, 2, none⟩ = some (.string x.r.key) := fun W hW => (hW.cell (p := ⟨p, 2, none⟩) hp5 fun h => ((hSS _).1 h).elim hcbp hcrp).trans (cell_at HB5.out 2)
    have lk : ∀ W, Kp SS w5 W → (Instr.lookup 128 (.map (some m)) (.string x.r.key) false).run Tryz.prog W = .ok (.pointer (some ⟨cA.b, 0, none⟩)) W := fun W hW => by
     rw [look_chain (HC5.out.map.of_heap (hW.block m HC5.out.map.lt fun h => ((hSS _).1 h).elim hmne.1 hmne.2)) x.r.key, gget_cptr, HG5.out]
     rfl
    have RV := Lib.hid (show ∀ W, Kp SS w5 W → W.rangeAt p 3 (verC x.ver) from fun W hW j u hu => by
     have h1 := rangeAt_block HB5.out 3 6 j u hu
     rw [hW.cell (p := ⟨p, 3 + j, none⟩) hp5 fun h => ((hSS _).1 h).elim hcbp hcrp]
     exact h1)
    have hput := fun q => cPut_any (w5.drewN q) cA x.ver (hco.keep_no ((Kp.refl No w5).drewN q)) HCV.out.2.1 ((VerR.rd_kp (HLR.out w5 HK5.out) ((Kp.refl No w5).drewN q))) HCV.out.2.2.1 HCV.out.2.2.2.1 HCV.out.2.2.2.2
    simp only [verV] at hput
    have HPU := Lib.hid hput
    have HSS := Lib.hid hSS
    clear hSS hgm hco hsne hcbs hcrs hcbp hcrp hmne hput
    go_upto_region 5 with fail
    refine wp_region_held' (Kp SS w5) [0,0,0,0,0,0,0,0,0,2,0,2] [0,1,2,3,4,5,6,7,8,9,10,11] (by kernel_rfl) (by kernel_rfl) (fun _ n h => h.drewN n) (Kp.refl _ _) ?_
    repeat (first
     | (apply wpOrd_skip rfl (by decide) rfl; (focus (go_simp; rfl)))
     | (apply wpOrd_pure rfl rfl rfl; (focus (intro _ _; go_simp; (try go_ints); rfl)); (focus (go_simp; rfl)))
     | (apply wpOrd_read rfl rfl rfl; (focus (intro _; go_simp; (try go_ints); rfl)); (focus (go_simp; rfl))))
    (try (apply wpOrd_pure rfl rfl rfl; (focus (intro W hW; go_simp; rw [lk W hW]; rfl)); (focus (go_simp; rfl))))
    repeat (first
     | (apply wpOrd_skip rfl (by decide) rfl; (focus (go_simp; rfl)))
     | (apply wpOrd_pure rfl rfl rfl; (focus (intro _ _; go_simp; (try go_ints); rfl)); (focus (go_simp; rfl)))
     | (apply wpOrd_read rfl rfl rfl; (focus (intro _; go_simp; (try go_ints); rfl)); (focus (go_simp; rfl))))
    apply wpOrd_pure rfl rfl rfl
    ·intro W hW
     exact exec_load_w 44 _ rfl p 3 rfl (verC x.ver) _ (RV.out W hW) Tryz.underlying44 rfl (by kernel_rfl)
    ·(focus (go_simp; rfl))
    refine wpOrd_eff rfl rfl (fun q5 => ?_)
    go_wp2_with fail
    refine (HPU.out q5).mono ?_
    rintro e w6 ⟨rfl, c6, hP6⟩
    have hP6k : Kp SS w5 w6 := hP6.kp.of_drewN.mono fun g _ h => (HSS.out g).2 h
    have HP6 := Lib.hid hP6
    clear hP6 HPU
    go_wp2_with fail
    (try refine ⟨hP6k, ?_⟩)
    repeat (first
     | (apply wpOrd_skip rfl (by decide) rfl; (focus (go_simp; rfl)))
     | (apply wpOrd_pure rfl rfl rfl; (focus (intro _ _; go_simp; (try go_ints); rfl)); (focus (go_simp; rfl)))
     | (apply wpOrd_read rfl rfl rfl; (focus (intro _; go_simp; (try go_ints); rfl)); (focus (go_simp; rfl))))
    refine wpOrd_eff rfl rfl (fun q6 => ?_)
    go_wp2_with fail
    refine (right_ok 3 _).mono ?_
    rintro e w7 ⟨rfl, rfl⟩
    go_wp2_with fail
    (try refine ⟨hP6k.drewN q6, ?_⟩)
    repeat (first
     | (apply wpOrd_skip rfl (by decide) rfl; (focus (go_simp; rfl)))
     | (apply wpOrd_pure rfl rfl rfl; (focus (intro _ _; go_simp; (try go_ints); rfl)); (focus (go_simp; rfl)))
     | (apply wpOrd_read rfl rfl rfl; (focus (intro _; go_simp; (try go_ints); rfl)); (focus (go_simp; rfl))))
    refine wpOrd_nil (fun nq => ?_)
    have hP6k : Kp (fun g => g = cA.b ∨ cA.row.ownBlock = some g) w5 w6 := hP6k.mono fun g _ h => (HSS.out g).1 h
    have hsK : SortK stA.keys := HSK.out
    have hC6 := HC5.out.setChain (w' := w6) (c' := c6) hsK HG5.out HP6.out.b hP6k HP6.out.ok (HP6.out.row.imp id fun ⟨g, e, hg⟩ g' hg' => by
     rw [e] at hg'
     injection hg' with hg'
     have hg : w5.heap.size ≤ g := hg
     omega)
    obtain ⟨w8, hw8⟩ : ∃ W, W = (w6.drewN q6).drewN nq := ⟨_, rfl⟩
    have h68 : Kp No w6 w8 := by rw [hw8]; exact ((Kp.refl No w6).drewN q6).drewN nq
    have HC8 := Lib.hid (hC6.keep_no h68)
    have hk58 : Kp (fun g => g = cA.b ∨ cA.row.ownBlock = some g) w5 w8 := hP6k.trans_no h68
    have HB8 := Lib.hid (hk58.get HB5.out fun h => h.elim (fun e => HPN.out (.inr (.inr (.inl ⟨_, gget_mem HG5.out, .inl e⟩)))) fun e => HPN.out (.inr (.inr (.inl ⟨_, gget_mem HG5.out, .inr (.inl e)⟩))))
    have hF8c : ∀ g, ChsF (gset csN x.r.key c6) g → ChsF csN g ∨ w5.heap.size ≤ g := chsF_set (w := w5) HG5.out HC5.out.chs.keys HP6.out.b (HP6.out.row.imp id fun ⟨g, e, hg⟩ g' hg' => by
     rw [e] at hg'
     injection hg' with hg'
     have hg : w5.heap.size ≤ g := hg
     omega) (fun y hy => (HP6.out.vals y hy).imp id fun hn g hg => hn g hg)
    have HF8 := Lib.hid (show ∀ g, StF s m (gset csN x.r.key c6) kaA kcA KA g → StF s m cs ka kc K g ∨ w.heap.size ≤ g from fun g hg => by
     rcases hg with hg | hg | hg | hg
     ·exact HF5.out g (.inl hg)
     ·exact HF5.out g (.inr (.inl hg))
     ·rcases hF8c g hg with hg | hg
      ·exact HF5.out g (.inr (.inr (.inl hg)))
      ·have := HK5.out.size
       exact .inr (by omega)
     ·exact HF5.out g (.inr (.inr (.inr hg))))
    have HK8 := Lib.hid (show Kp (StF s m cs ka kc K) w w8 from HK5.out.trans hk58 fun i hi hS => by
     have hin : StF s m csN kaA kcA KA i := .inr (.inr (.inl ⟨_, gget_mem HG5.out, hS.imp id fun e => .inl e⟩))
     rcases HF5.out i hin with h1 | h1
     ·exact h1
     ·omega)
    have HN8 := Lib.hid (show ¬ StF s m (gset csN x.r.key c6) kaA kcA KA p from fun hg => by
     rcases hg with hg | hg | hg | hg
     ·exact HPN.out (.inl hg)
     ·exact HPN.out (.inr (.inl hg))
     ·rcases hF8c p hg with hg | hg
      ·exact HPN.out (.inr (.inr (.inl hg)))
      ·omega
     ·exact HPN.out (.inr (.inr (.inr hg))))
    have HL8 := Lib.hid (show ∀ q ∈ gset csN x.r.key c6, q.2.R.length ≤ B + (k + 1) from by
     refine gset_each (Q := fun c => c.R.length ≤ B + (k + 1)) (fun q hq => Nat.le_succ_of_le (HLN.out.1 q hq)) ?_
     have h1 := congrArg List.length HP6.out.vs
     unfold ChR.vs at h1
     rw [List.length_map, putC_length, List.length_map] at h1
     have h2 := HLN.out.1 _ (gget_mem HG5.out)
     have h2 : cA.R.length ≤ B + k := h2
     omega)
    have HV8 := Lib.hid (show c6.vs = putC cA.vs x.r.v from HP6.out.vs)
    rw [← hw8]
    clear hw8 h68 hk58 hF8c hC6 hP6k HP6 f7 fp2 lk RV hs5 hp5 hsK HB5 HF5 HK5
    have hs8 := get_lt HC8.out.cell
    have hp8 := get_lt HB8.out
    have hps : p ≠ s := fun e => HN8.out (.inl e)
    have d0 : ∀ W, Kp (Mer.One s) w8 W → W.cell? ⟨p, 0, none⟩ = some (.int .i64 (oN : Int)) := fun W hW => cell_at (hW.get HB8.out fun e => hps e) 0
    have d1 : ∀ W, Kp (Mer.One s) w8 W → W.cell? ⟨p, 1, none⟩ = some (.int .i64 x.r.seq) := fun W hW => cell_at (hW.get HB8.out fun e => hps e) 1
    have RT := Lib.hid (show ∀ W, Kp (Mer.One s) w8 W → W.rangeAt p 3 [.int .i64 x.r.v.m, .int .i64 x.r.v.c] from fun W hW => by have := rangeAt_block (hW.get HB8.out fun e => hps e) 3 2; exact this)
    go_upto_region 6 with fail
    refine wp_region_held' (Kp (Mer.One s) w8) [0,0,0,0,0,0,0,0,0,0,0,0,2] [0,1,2,3,4,5,6,7,8,9,10,11,12] (by kernel_rfl) (by kernel_rfl) (fun _ n h => h.drewN n) (Kp.refl _ _) ?_
    repeat (first
     | (apply wpOrd_skip rfl (by decide) rfl; (focus (go_simp; rfl)))
     | (apply wpOrd_pure rfl rfl rfl; (focus (intro _ _; go_simp; (try go_ints); rfl)); (focus (go_simp; rfl)))
     | (apply wpOrd_read rfl rfl rfl; (focus (intro _; go_simp; (try go_ints); rfl)); (focus (go_simp; rfl))))
    apply wpOrd_pure rfl rfl rfl
    ·intro W hW
     exact exec_load_w 25 _ rfl p 3 rfl [.int .i64 x.r.v.m, .int .i64 x.r.v.c] _ (RT.out W hW) Tryz.underlying25 rfl (by kernel_rfl)
    ·(focus (go_simp; rfl))
    repeat (first
     | (apply wpOrd_skip rfl (by decide) rfl; (focus (go_simp; rfl)))
     | (apply wpOrd_pure rfl rfl rfl; (focus (intro _ _; go_simp; (try go_ints); rfl)); (focus (go_simp; rfl)))
     | (apply wpOrd_read rfl rfl rfl; (focus (intro _; go_simp; (try go_ints); rfl)); (focus (go_simp; rfl))))
    apply wpOrd_pure rfl rfl rfl
    ·(focus (intro _ _; go_simp; rw [if_pos (show ((oN : Nat) : Int) < 5 from Int.ofNat_lt.2 hoL)]))
    ·(focus (go_simp; rfl))
    refine wpOrd_eff rfl rfl (fun q8 => ?_)
    obtain ⟨w9, hw9⟩ : ∃ W, W = w8.drewN q8 := ⟨_, rfl⟩
    have h89 : Kp No w8 w9 := by rw [hw9]; exact (Kp.refl No w8).drewN q8
    have hb9 := h89.get HC8.out.cell fun x => x
    have hR9 : w9.rangeAt s 10 (ofC stA.of) := by
     have := rangeAt_block hb9 10 15
     rwa [st_of] at this
    have g3 := ofC_get stA.of hoL
    have g0 : w9.cell? ⟨s, 10 + oN * 3, none⟩ = some (.int .i64 (ofAt stA.of oN).seq) := hR9 _ _ g3.1
    have g1 : w9.cell? ⟨s, 10 + oN * 3 + 1, none⟩ = some (.int .i64 (ofAt stA.of oN).m) := hR9 _ _ g3.2.1
    have g2 : w9.cell? ⟨s, 10 + oN * 3 + 2, none⟩ = some (.int .i64 (ofAt stA.of oN).c) := hR9 _ _ g3.2.2
    have f0 := free_at hb9 (10 + oN * 3)
    have f1 := free_at hb9 (10 + oN * 3 + 1)
    have f2 := free_at hb9 (10 + oN * 3 + 2)
    have hs9 := get_lt hb9
    have HC9 := Lib.hid (HC8.out.keep_no h89)
    have HB9 := Lib.hid (h89.get HB8.out fun x => x)
    have HK89 := Lib.hid h89
    rw [← hw9]
    clear hw9 h89 hb9 hR9 g3
    go_wp2_with fail
    have hof5 : stA.of.length = 5 := by rw [HSA.out.2.1]; exact HX.out.2.2.1.of5
    have hso9 := HC9.out.setOf (dn := ⟨x.r.seq, x.r.v.m, x.r.v.c⟩) hof5 hoL
    obtain ⟨wA, hwA⟩ : ∃ W, W = (((w9.setCell ⟨s, 10 + oN * 3, none⟩ (.int .i64 x.r.seq)).setCell ⟨s, 10 + oN * 3 + 1, none⟩ (.int .i64 x.r.v.m)).setCell ⟨s, 10 + oN * 3 + 2, none⟩ (.int .i64 x.r.v.c)) := ⟨_, rfl⟩
    have kA : Kp (Mer.One s) w8 wA := by
     rw [hwA]
     exact (((Kp.of_no HK89.out).setCell (p := ⟨s, 10 + oN * 3, none⟩) (.inl (show Mer.One s s from rfl)) _).setCell (p := ⟨s, 10 + oN * 3 + 1, none⟩) (.inl (show Mer.One s s from rfl)) _).setCell (p := ⟨s, 10 + oN * 3 + 2, none⟩) (.inl (show Mer.One s s from rfl)) _
    rw [← hwA] at hso9
    rw [← hwA]
    clear g0 g1 g2 f0 f1 f2 hwA hof5 d0 d1
    have HKA := Lib.hid kA
    refine ⟨kA, ?_⟩
    refine wpOrd_nil (fun nq => ?_)
    obtain ⟨wB, hwB⟩ : ∃ W, W = wA.drewN nq := ⟨_, rfl⟩
    have kAB : Kp No wA wB := by rw [hwB]; exact (Kp.refl No wA).drewN nq
    obtain ⟨stB, hstB, hCB⟩ : ∃ stB : SSt, stB = { { stA with keys := setK stA.keys x.r.key c6.vs } with of := stA.of.set oN ⟨x.r.seq, x.r.v.m, x.r.v.c⟩ } ∧ StC wB s d l P o stB m (gset csN x.r.key c6) kaA kcA KA := ⟨_, rfl, hso9.keep_no kAB⟩
    have HSTB := Lib.hid hstB
    have HCB := Lib.hid hCB
    have HBB := Lib.hid (kAB.get (kA.get HB8.out fun e => hps e) fun x => x)
    have HKB := Lib.hid (show Kp (StF s m cs ka kc K) w wB from (HK8.out.trans kA fun _ _ e => .inl e).trans_no kAB)
    rw [← hwB]
    clear hwB kAB hstB hCB hso9 kA HC9 HB9 HK89 HC8 HB8 HK8 RT hs8 hp8 hs9
    go_wp2_with fail
    have hsB := get_lt HCB.out.cell
    have hpB := get_lt HBB.out
    have d0 : ∀ W, Kp No wB W → W.cell? ⟨p, 0, none⟩ = some (.int .i64 (oN : Int)) := fun W hW => cell_at (hW.get HBB.out fun x => x) 0
    have d3 : ∀ W, Kp No wB W → W.cell? ⟨s, 3, none⟩ = some (.int .i64 (o : Int)) := fun W hW => HCB.out.at_ hW 3
    by_cases hoo : oN = o
    ·have e1 : ((oN : Int) == (o : Int)) = true := by rw [beq_iff_eq, hoo]
     have e1' : (oN == o) = true := by rw [beq_iff_eq, hoo]
     have HOO := Lib.hid hoo
     clear hoo
     refine wp_region_held' (Kp No _) [0,0,0,0,0,0,0] [0,1,2,3,4,5,6] (by kernel_rfl) (by kernel_rfl) (fun _ n h => h.drewN n) (Kp.refl _ _) ?_
     repeat (first
      | (apply wpOrd_skip rfl (by decide) rfl; (focus (go_simp; rfl)))
      | (apply wpOrd_pure rfl rfl rfl; (focus (intro _ _; go_simp; (try go_ints); rfl)); (focus (go_simp; rfl)))
      | (apply wpOrd_read rfl rfl rfl; (focus (intro _; go_simp; (try go_ints); rfl)); (focus (go_simp; rfl))))
     refine wpOrd_nil (fun nq => ?_)
     obtain ⟨wC, hwC⟩ : ∃ W, W = wB.drewN nq := ⟨_, rfl⟩
     have kBC : Kp No wB wC := by rw [hwC]; exact (Kp.refl No wB).drewN nq
     rw [← hwC]
     clear d0 d3
     have bC := kBC.get HBB.out fun x => x
     have c6' : wC.cell? ⟨p, 6, none⟩ = some (.slice x.a x.r.v.val.length x.cap) := cell_at bC 6
     have hpC := get_lt bC
     have hLx := HLR.out wC (HKB.out.trans_no kBC)
     have hvl : x.r.v.val.length ≤ 1024 := (isV_iff.1 (isR_iff.1 HX.out.1).1).2.2.2.1
     have hcl := byClone_any x.a x.cap x.r.v.val wC.heap.size wC hLx.1 (by omega)
     have HCL := Lib.hid hcl
     have HBC := Lib.hid bC
     have HKC := Lib.hid kBC
     clear hwC kBC bC hLx hcl hvl
     go_wp2_with fail
     refine HCL.out.mono ?_
     rintro e7 w7 ⟨v7, rfl, hown, hk7, hfr7⟩
     obtain ⟨hul, a7, c7, rfl, hc71, hc72, hc73⟩ := id hown
     have b7 := hk7.get HBC.out fun x => x
     have f6 := free_at b7 6
     have g6 : w7.cell? ⟨p, 6, none⟩ = some (.slice x.a x.r.v.val.length x.cap) := cell_at b7 6
     have hp7 := get_lt b7
     obtain ⟨wD, hwD⟩ : ∃ W, W = w7.setCell ⟨p, 6, none⟩ (.slice a7 x.r.v.val.length c7) := ⟨_, rfl⟩
     have kD : Kp (Mer.One p) w7 wD := by rw [hwD]; exact (Kp.refl (Mer.One p) w7).setCell (p := ⟨p, 6, none⟩) (.inl (show Mer.One p p from rfl)) _
     have bD : wD.heap[p]? = some (.cells #[.int .i64 (oN : Int), .int .i64 x.r.seq, .string x.r.key, .int .i64 x.r.v.m, .int .i64 x.r.v.c, .int .i64 x.r.v.o, .slice a7 x.r.v.val.length c7, .bool x.r.v.gone, .int .i64 x.r.v.ttl] 46 (0, 0)) := by
      rw [hwD, set_at b7]
      rfl
     have hownD : RecR.ok ⟨x.r, a7, c7⟩ wD := Own.keep hown kD fun g hg e => by
      obtain ⟨cur, hcur⟩ := hown.type g hg
      exact ne_of_type hcur b7 (by decide) e
     have HOD := Lib.hid hownD
     have HFR := Lib.hid (show ∀ g, (RecR.sl ⟨x.r, a7, c7⟩).ownBlock = some g → w.heap.size ≤ g from fun g hg => by
      have h1 := hfr7 g hg
      have h2 := HKB.out.size
      have h3 := HKC.out.size
      omega)
     have HCD := Lib.hid ((HCB.out.keep_no (HKC.out.trans_same hk7)).keep kD fun g hg e => HN8.out ((show g = p from e) ▸ hg))
     have HKD := Lib.hid (show Kp (StF s m cs ka kc K) w wD from ((HKB.out.trans_no HKC.out).trans_no hk7).trans kD fun i hi e => by
      have := HPQ.out
      have e : i = p := e
      omega)
     have HBD := Lib.hid bD
     have HWD := Lib.hid hwD
     clear hul hc71 hc72 hc73 hown hk7 hfr7 kD bD hwD b7 hownD HCL HBC HKC c6' hpC HCB HBB HKB hsB hpB
     go_upto_region 9 with fail
     rw [← HWD.out]
     clear f6 g6 hp7 HWD
     have hlD := HLN.out.2
     have HQ := Lib.hid (show ∀ g, (Value.slice kaA KA.length kcA).ownBlock = some g → g ≠ p ∧ g ≠ s from fun g hg => ⟨fun e => HN8.out (e ▸ .inr (.inr (.inr (.inl hg)))), fun e => HCD.out.s_apart.2 (e ▸ .inl hg)⟩)
     have q1 : ∀ W, Kp (fun g => (Value.slice kaA KA.length kcA).ownBlock = some g) wD W → W.cell? ⟨s, 25, none⟩ = some (.slice kaA KA.length kcA) := fun W hW => by
      rw [cell_at (hW.get HCD.out.cell fun hs => (HQ.out s hs).2 rfl)]
      rfl
     have R5 := Lib.hid (show ∀ W, Kp (fun g => (Value.slice kaA KA.length kcA).ownBlock = some g) wD W → W.rangeAt p 0 [.int .i64 (oN : Int), .int .i64 x.r.seq, .string x.r.key, .int .i64 x.r.v.m, .int .i64 x.r.v.c, .int .i64 x.r.v.o, .slice a7 x.r.v.val.length c7, .bool x.r.v.gone, .int .i64 x.r.v.ttl] from fun W hW => by
      have := rangeAt_block (hW.get HBD.out fun hs => (HQ.out p hs).1 rfl) 0 9
      exact this)
     refine wp_region_last (Kp (fun g => (Value.slice kaA KA.length kcA).ownBlock = some g) wD) [0,0,0,0,0,0,2,2,0,0,2] [0,1,2,3,4,5,6,7,8,9] 10 (by kernel_rfl) (by kernel_rfl) (fun _ n h => h.drewN n) (Kp.refl _ _) ?_
     repeat (first
      | (apply wpOrd_skip rfl (by decide) rfl; (focus (go_simp; rfl)))
      | (apply wpOrd_pure rfl rfl rfl; (focus (intro _ _; go_simp; (try go_ints); rfl)); (focus (go_simp; rfl)))
      | (apply wpOrd_read rfl rfl rfl; (focus (intro _; go_simp; (try go_ints); rfl)); (focus (go_simp; rfl))))
     refine wpOrd_pure rfl rfl rfl (v := .agg #[.int .i64 (oN : Int), .int .i64 x.r.seq, .string x.r.key, .int .i64 x.r.v.m, .int .i64 x.r.v.c, .int .i64 x.r.v.o, .slice a7 x.r.v.val.length c7, .bool x.r.v.gone, .int .i64 x.r.v.ttl]) (fun W0 hW => exec_load_w 46 _ rfl p 0 rfl _ _ (R5.out W0 hW) Tryz.underlying46 rfl (by kernel_rfl)) rfl ?_
     refine wpOrd_eff rfl rfl (fun n1 => ?_)
     go_wp2_with fail
     obtain ⟨W8, hW8⟩ : ∃ W, W = (wD.drewN n1).alloc (.cells #[.int .i64 (oN : Int), .int .i64 x.r.seq, .string x.r.key, .int .i64 x.r.v.m, .int .i64 x.r.v.c, .int .i64 x.r.v.o, .slice a7 x.r.v.val.length c7, .bool x.r.v.gone, .int .i64 x.r.v.ttl] 46) := ⟨_, rfl⟩
     have k8 : Kp No wD W8 := by rw [hW8]; exact ((Kp.refl _ _).drewN _).alloc _
     have b8 : W8.heap[wD.heap.size]? = some (.cells #[.int .i64 (oN : Int), .int .i64 x.r.seq, .string x.r.key, .int .i64 x.r.v.m, .int .i64 x.r.v.c, .int .i64 x.r.v.o, .slice a7 x.r.v.val.length c7, .bool x.r.v.gone, .int .i64 x.r.v.ttl] 46 (0, 0)) := by rw [hW8]; exact heap_alloc_new (wD.drewN n1) _
     rw [← hW8]
     clear hW8
     refine ⟨Kp.of_no k8, ?_⟩
     refine wpOrd_eff rfl rfl (fun n2 => ?_)
     have hxo : (⟨x.r, a7, c7⟩ : RecR).r.o = (oN : Int) := HX.out.2.2.2.1
     obtain ⟨a9, c9, W9, hrun, hm9, hk9, hb9⟩ := own_two (T := 26) (E := 46) (sz := 9) (bytes := 96) Tryz.underlying26 infoRec (V := W8.drewN n2) (HCD.out.kept.own.keep (k8.drewN n2) fun _ _ x => x) (news := recC ⟨x.r, a7, c7⟩) (recC_one _) rfl (g := wD.heap.size) (cs := #[.int .i64 (oN : Int), .int .i64 x.r.seq, .string x.r.key, .int .i64 x.r.v.m, .int .i64 x.r.v.c, .int .i64 x.r.v.o, .slice a7 x.r.v.val.length c7, .bool x.r.v.gone, .int .i64 x.r.v.ttl]) b8 (by unfold recC; rw [hxo]; rfl) (by omega) (by omega)
     have HX9 := Lib.hid hrun
     have k9 : Kp (fun g => (Value.slice kaA KA.length kcA).ownBlock = some g) wD W9 := (Kp.of_no (k8.drewN n2)).trans_same hk9
     have h8s : wD.heap.size ≤ (W8.drewN n2).heap.size := (k8.drewN n2).size
     clear hrun hk9
     refine wpList_append_run rfl rfl rfl rfl HX9.out (wpList_nil ⟨rfl, k9, ?_⟩)
     clear HX9 q1
     repeat (first
      | (apply wpOrd_skip rfl (by decide) rfl; (focus (go_simp; rfl)))
      | (apply wpOrd_pure rfl rfl rfl; (focus (intro _ _; go_simp; (try go_ints); rfl)); (focus (go_simp; rfl)))
      | (apply wpOrd_read rfl rfl rfl; (focus (intro _; go_simp; (try go_ints); rfl)); (focus (go_simp; rfl))))
     refine last_now (fun n4 => ?_)
     refine wpOrd_eff rfl rfl (fun n5 => ?_)
     obtain ⟨Wa, hWa⟩ : ∃ W, W = (W9.drewN n4).drewN n5 := ⟨_, rfl⟩
     have hma := hm9.keep (show Kp No W9 Wa by rw [hWa]; exact ((Kp.refl No W9).drewN n4).drewN n5) fun _ _ x => x
     have ka9 : Kp (fun g => (Value.slice kaA KA.length kcA).ownBlock = some g) wD Wa := by rw [hWa]; exact (k9.drewN n4).drewN n5
     have hba : (Value.slice a9 (KA.length + 1) c9).ownBlock = (Value.slice kaA KA.length kcA).ownBlock ∨ ∃ g, (Value.slice a9 (KA.length + 1) c9).ownBlock = some g ∧ wD.heap.size ≤ g := hb9.imp id fun ⟨g, e, hg⟩ => ⟨g, e, Nat.le_trans h8s hg⟩
     have hcE := HCD.out.keepMore (x := ⟨x.r, a7, c7⟩) ka9 hma hba HOD.out
     have bs := ka9.get HCD.out.cell fun hs => (HQ.out s hs).2 rfl
     have hsa := get_lt bs
     have f25 := free_at bs 25
     have g25 : Wa.cell? ⟨s, 25, none⟩ = some (.slice kaA KA.length kcA) := by rw [cell_at bs]; rfl
     have HKE := Lib.hid (show Kp (StF s m cs ka kc K) w (Wa.setCell ⟨s, 25, none⟩ (.slice a9 (KA.length + 1) c9)) from (HKD.out.trans ka9 fun i hi hS => by
      rcases HF8.out i (.inr (.inr (.inr (.inl hS)))) with h1 | h1
      ·exact h1
      ·omega).setCell (p := ⟨s, 25, none⟩) (.inl (.inl rfl)) _)
     have HCE := Lib.hid hcE
     have HBA := Lib.hid (show ∀ g, (Value.slice a9 (KA.length + 1) c9).ownBlock = some g → (Value.slice kaA KA.length kcA).ownBlock = some g ∨ w.heap.size ≤ g from fun g hg => by
      rcases hba with h1 | ⟨g', h1, h2⟩
      ·exact .inl (h1 ▸ hg)
      ·rw [hg] at h1
       injection h1 with h1
       have := HKD.out.size
       exact .inr (by omega))
     rw [← hWa]
     clear hWa hma ka9 k9 k8 b8 hm9 hb9 h8s hba hcE bs hxo R5 HKD HCD HBD
     go_wp2_with fail
     intro nr
     obtain ⟨wE, hwE⟩ : ∃ W, W = (Wa.setCell ⟨s, 25, none⟩ (.slice a9 (KA.length + 1) c9)).drewN nr := ⟨_, rfl⟩
     have hEE : Kp No (Wa.setCell ⟨s, 25, none⟩ (.slice a9 (KA.length + 1) c9)) wE := by rw [hwE]; exact (Kp.refl No _).drewN nr
     have hoT : x.r.o.toNat = oN := by rw [HX.out.2.2.2.1]; rfl
     have HJE := Lib.hid (layJ_next (HCE.out.keep_no hEE) (fun g hg => by
      rcases hg with hg | hg | hg | hg | ⟨y, hy, hg⟩
      ·exact HF8.out g (.inl hg)
      ·exact HF8.out g (.inr (.inl hg))
      ·exact HF8.out g (.inr (.inr (.inl hg)))
      ·rw [List.length_append, List.length_singleton] at hg
       rcases HBA.out g hg with h1 | h1
       ·exact HF8.out g (.inr (.inr (.inr (.inl h1))))
       ·exact .inr h1
      ·rcases List.mem_append.1 hy with hy | hy
       ·exact HF8.out g (.inr (.inr (.inr (.inr ⟨y, hy, hg⟩))))
       ·rw [List.mem_singleton] at hy
        rw [hy] at hg
        exact .inr (HFR.out g hg)) (HKE.out.trans_no hEE) HL8.out (by rw [List.length_append, List.length_singleton]; omega) HX.out.2.2.2.2.1 HX.out.2.2.2.2.2 (by rw [HSTB.out, HV8.out]; exact HSA.out.1) (by rw [HSTB.out]; exact HSA.out.2.2.2.1) (by rw [HSTB.out]; exact HSA.out.2.2.2.2.1) (by rw [HSTB.out]; exact HSA.out.2.2.2.2.2.1) (by rw [HSTB.out]; exact HSA.out.2.2.2.2.2.2.1) (by rw [HSTB.out]; exact HSA.out.2.2.2.2.2.2.2) (by rw [HSTB.out, ← HSA.out.2.1]; unfold doneR; rw [hoT]) (by rw [HSTB.out, if_pos (by rw [HX.out.2.2.2.1, HOO.out]), ← HSA.out.2.2.1]))
     rw [← hwE]
     clear hwE hEE hoT f25 g25 hsa HKE HCE HBA
     go_wp2_with fail
     go_roundw
     case rel => exact ⟨k + 1, hlt, by go_num, HJE⟩
     case measure => simp [intOf]; omega
    ·have e1 : ((oN : Int) == (o : Int)) = false := by rw [beq_eq_false_iff_ne]; exact fun e => hoo (by omega)
     have e1' : (oN == o) = false := by rw [beq_eq_false_iff_ne]; exact hoo
     have HOO := Lib.hid hoo
     clear hoo
     refine wp_region_held' (Kp No _) [0,0,0,0,0,0,0] [0,1,2,3,4,5,6] (by kernel_rfl) (by kernel_rfl) (fun _ n h => h.drewN n) (Kp.refl _ _) ?_
     repeat (first
      | (apply wpOrd_skip rfl (by decide) rfl; (focus (go_simp; rfl)))
      | (apply wpOrd_pure rfl rfl rfl; (focus (intro _ _; go_simp; (try go_ints); rfl)); (focus (go_simp; rfl)))
      | (apply wpOrd_read rfl rfl rfl; (focus (intro _; go_simp; (try go_ints); rfl)); (focus (go_simp; rfl))))
     refine wpOrd_nil (fun nq => ?_)
     obtain ⟨wE, hwE⟩ : ∃ W, W = wB.drewN nq := ⟨_, rfl⟩
     have hEE : Kp No wB wE := by rw [hwE]; exact (Kp.refl No wB).drewN nq
     have hoT : x.r.o.toNat = oN := by rw [HX.out.2.2.2.1]; rfl
     have HJE := Lib.hid (layJ_next (HCB.out.keep_no hEE) HF8.out (HKB.out.trans_no hEE) HL8.out (by have := HLN.out.2; omega) HX.out.2.2.2.2.1 HX.out.2.2.2.2.2 (by rw [HSTB.out, HV8.out]; exact HSA.out.1) (by rw [HSTB.out]; exact HSA.out.2.2.2.1) (by rw [HSTB.out]; exact HSA.out.2.2.2.2.1) (by rw [HSTB.out]; exact HSA.out.2.2.2.2.2.1) (by rw [HSTB.out]; exact HSA.out.2.2.2.2.2.2.1) (by rw [HSTB.out]; exact HSA.out.2.2.2.2.2.2.2) (by rw [HSTB.out, ← HSA.out.2.1]; unfold doneR; rw [hoT]) (by rw [HSTB.out, if_neg (fun e => HOO.out (by rw [HX.out.2.2.2.1] at e; omega)), ← HSA.out.2.2.1]))
     rw [← hwE]
     clear hwE hEE hoT d0 d3 HCB HBB HKB hsB hpB
     go_wp2_with fail
     go_roundw
     case rel => exact ⟨k + 1, hlt, by go_num, HJE⟩
     case measure => simp [intOf]; omega
  ·obtain rfl : n = k := by omega
   clear hge
   go_wp2_with fail
   refine bodyPost_end (results_none rfl _ _ _) rfl ⟨rfl, HJ.out⟩
end Go.Proofs.YtgnkmjeoaoongaaGreatDoor
namespace Go.Proofs.YtgnkmjeoaoongaaGreatDoor
open Go.RowKit Go.Mer
theorem WAt.keepS {w w' : World} {d l : Nat} {P : ByteArray} {s : DSt} {st : LSt} {F G S : Nat → Prop} (h : WAt w d l P s st F G) (hk : Kp S w w') (hF : ∀ k, F k → ¬ S k) (hG : ∀ k, G k → ¬ S k) : WAt w' d l P s st F G := ⟨h.disk.keep hk hF, h.log.keep hk hG, h.sep⟩
theorem may_zero {st : SSt} {L : List RecS} (h : mayS st L = 0) : L.length ≤ 64 ∧ (∀ r ∈ L, isR r = true) ∧ mayG st.mm st.mc st.of L = true := by
 unfold mayS at h
 split at h
 ·cases h
 ·next h1 =>
  split at h
  ·cases h
  ·next h2 =>
   split at h
   ·next h3 =>
    refine ⟨by omega, fun r hr => ?_, h3⟩
    cases ha : L.all isR with
    | true => exact List.all_eq_true.1 ha r hr
    | false => exact absurd ha h2
   ·cases h
theorem laysS_n (o n : Nat) : ∀ (L : List RecS) (st : SSt), laysS o { st with n := n } L = { laysS o st L with n := n }
 | [], _ => rfl
 | r :: L, st => laysS_n o n L (layR o st r)
theorem Inv.setN {o : Nat} {st : SSt} (h : Inv o st) (n : Nat) : Inv o { st with n := n } := ⟨h.own, h.of5, h.done, h.mark, h.sorted, h.keys, h.kept⟩
structure StW (w : World) (s d l : Nat) (P Q : ByteArray) (o : Nat) (st : SSt) (m : Nat) (cs : ChL) (ka : Option Addr) (kc : Nat) (K : List RecR) (ds : DSt) (lg : LSt) (F G : Nat → Prop) : Prop where
 st : StC w s d l P o st m cs ka kc K
 at_ : WAt w d l Q ds lg F G
 sF : ∀ i, StF s m cs ka kc K i → ¬ F i
 sG : ∀ i, StF s m cs ka kc K i → ¬ G i
def TurnS (w : World) (s d l : Nat) (P Q : ByteArray) (o m : Nat) (cs : ChL) (ka : Option Addr) (kc : Nat) (K : List RecR) (F G : Nat → Prop) (B : Nat) (st' : SSt) (ds' : DSt) (lg' : LSt) (w' : World) : Prop :=
 ∃ cs' ka' kc' K' F' G', StW w' s d l P Q o st' m cs' ka' kc' K' ds' lg' F' G' ∧ Foot (StF s m cs ka kc K) (StF s m cs' ka' kc' K') w ∧ Foot F F' w ∧ Foot G G' w ∧ Kp (fun i => StF s m cs ka kc K i ∨ F i ∨ G i) w w' ∧ (∀ p ∈ cs', p.2.R.length ≤ B) ∧ K'.length ≤ B
section
variable {w w' : World} {s d l o m : Nat} {P Q : ByteArray} {st : SSt} {cs : ChL} {ka : Option Addr} {kc : Nat} {K : List RecR} {ds : DSt} {lg : LSt} {F G : Nat → Prop}
theorem StW.keep_no (h : StW w s d l P Q o st m cs ka kc K ds lg F G) (hk : Kp No w w') : StW w' s d l P Q o st m cs ka kc K ds lg F G := ⟨h.st.keep_no hk, h.at_.no hk, h.sF, h.sG⟩
theorem StW.same (h : StW w s d l P Q o st m cs ka kc K ds lg F G) (hk : Kp No w w') {B : Nat} (hc : ∀ p ∈ cs, p.2.R.length ≤ B) (hK : K.length ≤ B) : TurnS w s d l P Q o m cs ka kc K F G B st ds lg w' :=
 ⟨cs, ka, kc, K, F, G, h.keep_no hk, fun _ h => .inl h, fun _ h => .inl h, fun _ h => .inl h, Kp.of_no hk, hc, hK⟩
theorem StW.wrote {w8 w9 : World} (h : StW w s d l P Q o st m cs ka kc K ds lg F G) (hk : Kp No w w8) {q : Int × DSt × LSt} (hW : WrtS w8 s d l P Q o st m cs ka kc K F G q w9) :
  ∃ F' G', StW w9 s d l P Q o (wroteS st q.1) m cs ka kc K q.2.1 q.2.2 F' G' ∧ Foot F F' w ∧ Foot G G' w ∧ Kp (fun i => StF s m cs ka kc K i ∨ F i ∨ G i) w w9 := by
 obtain ⟨F', G', h1, h2, hF, hG, hk9⟩ := hW
 have h8 := hk.size
 have hlt := h.st.lt
 refine ⟨F', G', ⟨h1, h2, fun i hi hf => ?_, fun i hi hf => ?_⟩, fun i hi => ?_, fun i hi => ?_, (Kp.of_no hk).trans hk9 fun i _ hi => ?_⟩
 ·rcases hF i hf with h3 | h3
  ·exact h.sF i hi h3
  ·have := hlt i hi
   omega
 ·rcases hG i hf with h3 | h3
  ·exact h.sG i hi h3
  ·have := hlt i hi
   omega
 ·exact (hF i hi).imp id fun h3 => by omega
 ·exact (hG i hi).imp id fun h3 => by omega
 ·rcases hi with hi | hi
  ·exact .inl (.inl hi)
  ·exact .inr hi
theorem StW.laid {w9 w' : World} {F' G' : Nat → Prop} {st9 : SSt} {ds' : DSt} {lg' : LSt} (h : StW w9 s d l P Q o st9 m cs ka kc K ds' lg' F' G') (hF : Foot F F' w) (hG : Foot G G' w) (hk : Kp (fun i => StF s m cs ka kc K i ∨ F i ∨ G i) w w9) {L : List RecS} {B n : Nat} (hn : n ≤ 64) (hJ : LayJ w9 s d l P o st9 m cs ka kc K L B n w') :
  TurnS w s d l P Q o m cs ka kc K F G (B + 64) (laysS o st9 (L.take n)) ds' lg' w' := by
 obtain ⟨cs', ka', kc', K', h1, h2, h3, h4, h5⟩ := hJ
 have hFl := h.at_.disk.lt
 have hGl := h.at_.log.lt
 have hsz := hk.size
 refine ⟨cs', ka', kc', K', F', G', ⟨h1, h.at_.keepS h3 (fun k hf hs => h.sF k hs hf) (fun k hf hs => h.sG k hs hf), fun i hi hf => ?_, fun i hi hf => ?_⟩, fun i hi => (h2 i hi).imp id fun h6 => by omega, hF, hG, hk.trans h3 fun i hi hs => .inl hs, fun p hp => by have := h4 p hp; omega, by omega⟩
 ·rcases h2 i hi with h6 | h6
  ·exact h.sF i h6 hf
  ·have := hFl i hf
   omega
 ·rcases h2 i hi with h6 | h6
  ·exact h.sG i h6 hf
  ·have := hGl i hf
   omega
set_option maxRecDepth 100000 in
set_option maxHeartbeats 4000000 in
theorem sPut_any {k : Nat} (h : StW w s d l P Q o st m cs ka kc K ds lg F G) (hinv : Inv o st) (hQP : Q = logN P st.age) (hfit : Fit k Q ds lg) (hk : k ≤ 3000) (hpow : Pow w) (hpF : ¬ F 0) (hpG : ¬ G 0) (hQ : Q.size ≤ 50) (hnb : st.n ≤ 1000000)
  (a : Option Addr) (cap : Nat) (L : List RecR) (hL : ∀ W, Kp (fun i => StF s m cs ka kc K i ∨ F i ∨ G i) w W → RecsAt W a L) (hc : L.length ≤ cap) (hcm : L.length ≤ 1000000) (B : Nat) (hB : B ≤ 900000) (hcB : ∀ p ∈ cs, p.2.R.length ≤ B) (hkB : K.length ≤ B) :
  Calls Tryz.prog 18 #[.pointer (some ⟨s, 0, none⟩), .slice a L.length cap] w fun e w' => e = .returned (.int .i64 (putSt P o ds st lg (L.map RecR.r)).1) ∧
   TurnS w s d l P Q o m cs ka kc K F G (B + 64) (putSt P o ds st lg (L.map RecR.r)).2.2.1 (putSt P o ds st lg (L.map RecR.r)).2.1 (putSt P o ds st lg (L.map RecR.r)).2.2.2 w' := by
 obtain ⟨n, hnL⟩ : ∃ n, n = L.length := ⟨_, rfl⟩
 obtain ⟨q, hq⟩ : ∃ q, q = putSt P o ds st lg (L.map RecR.r) := ⟨_, rfl⟩
 have hsame : ∀ W, Kp No w W → TurnS w s d l P Q o m cs ka kc K F G (B + 64) st ds lg W := fun W hW => h.same hW (fun p hp => by have := hcB p hp; omega) (by omega)
 have hal := alive_any h.st
 have hL0 := hL w (Kp.refl _ _)
 rw [← hq]
 unfold putSt at hq
 rw [← hnL]
 by_cases hd : st.dead = true
 ·rw [if_pos hd] at hq hal
  have HAL := Lib.hid hal
  have HS := Lib.hid hsame
  subst hq
  clear h hinv hfit hpow hL hal hsame hcB hkB hd hnL hL0 hQP
  go_enter Tryz.func18, Tryz.ntmps18
  go_wp2_with fail
  refine HAL.out.mono ?_
  rintro e w1 ⟨rfl, rfl⟩
  go_wp2_with fail
  go_ret
  exact ⟨rfl, HS.out _ (Kp.refl _ _)⟩
 rw [if_neg hd] at hq hal
 rw [List.length_map, ← hnL] at hq
 by_cases hn0 : n = 0
 ·rw [if_pos hn0] at hq
  have HAL := Lib.hid hal
  have HS := Lib.hid hsame
  subst hq
  subst hn0
  clear h hinv hfit hpow hL hal hsame hcB hkB hd hnL hL0 hQP
  go_enter Tryz.func18, Tryz.ntmps18
  go_wp2_with fail
  refine HAL.out.mono ?_
  rintro e w1 ⟨rfl, rfl⟩
  go_wp2_with fail
  go_ret
  exact ⟨rfl, HS.out _ (Kp.refl _ _)⟩
 rw [if_neg hn0] at hq
 have hn1 : ((n : Int) == 0) = false := by rw [beq_eq_false_iff_ne]; omega
 have hn1' : (n == 0) = false := by rw [beq_eq_false_iff_ne]; exact hn0
 have hmay := sMay_any h.st hinv.ofb a cap L hL0 hc hcm
 rw [← hnL] at hmay
 obtain ⟨my, hmy⟩ : ∃ my, my = mayS st (L.map RecR.r) := ⟨_, rfl⟩
 rw [← hmy] at hmay hq
 by_cases hm0 : my = 0
 ·rw [if_pos hm0] at hq
  rw [hm0] at hmay hmy
  have hm1 : ((my : Int) == 0) = true := by rw [hm0]; rfl
  obtain ⟨h64, hall, hg⟩ := may_zero hmy.symm
  have hallr : ∀ x ∈ L, isR x.r = true := fun x hx => hall _ (List.mem_map.2 ⟨x, hx, rfl⟩)
  have hlen := listL_length hall (by rw [List.length_map]; rwa [List.length_map] at h64)
  rw [List.length_map] at h64
  have hli : ∀ W, Kp No w W → Calls Tryz.prog 57 #[.slice a n cap] W (EncP W (listL (L.map RecR.r))) := fun W hW => by
   rw [hnL]
   exact rcList_any W a cap L (hL0.kp hW) hallr h64
  obtain ⟨ll, hll⟩ : ∃ ll, ll = listL (L.map RecR.r) := ⟨_, rfl⟩
  rw [← hll] at hli hlen
  obtain ⟨X, hX⟩ : ∃ X, X = numL 1 ++ ll := ⟨_, rfl⟩
  obtain ⟨wq, hwq⟩ : ∃ wq, wq = writesS Q ds lg X := ⟨_, rfl⟩
  have hq' : q = if wq.1 = 0 then (0, wq.2.1, { laysS o st (L.map RecR.r) with n := st.n + 1 }, wq.2.2) else (wq.1, wq.2.1, { st with dead := true }, wq.2.2) := by
   rw [hq, ← hQP, hwq, hX, hll]
   rfl
  obtain ⟨gP, hgP⟩ : ∃ g : Nat, g = 0 := ⟨_, rfl⟩
  have HAL := Lib.hid hal
  have HM := Lib.hid hmay
  have HLI := Lib.hid hli
  have HP := Lib.hid (And.intro hpow (And.intro hpF hpG))
  have HH := Lib.hid h
  have HI := Lib.hid hinv
  have HLL := Lib.hid hL
  have HFI := Lib.hid hfit
  have HCB := Lib.hid (And.intro hcB hkB)
  have HWQ := Lib.hid hwq
  have HQ := Lib.hid hq'
  have HG := Lib.hid (And.intro hall (And.intro hallr hg))
  have HN := Lib.hid hnL
  have HX := Lib.hid hX
  clear hX h hinv hfit hpow hpF hpG hL hal hsame hcB hkB hd hL0 hQP hmay hmy hq hli hll hwq hq' hgP hall hallr hg hnL
  go_enter Tryz.func18, Tryz.ntmps18
  go_wp2_with fail
  refine HAL.out.mono ?_
  rintro e w1 ⟨rfl, rfl⟩
  go_wp2_with fail
  refine HM.out.mono ?_
  rintro e w2 ⟨rfl, k2⟩
  have HK2 := Lib.hid k2
  have HL2 := Lib.hid (HLI.out w2 k2)
  clear k2 HLI
  go_wp2_with fail
  refine HL2.out.mono ?_
  rintro e w3 ⟨a3, c3, rfl, hown3, hfr3, k3⟩
  have HO3 := Lib.hid hown3
  have HK3 := Lib.hid (HK2.out.trans_same k3)
  have hI4 := WrI.start (Kp.refl No w3)
  obtain ⟨w4, hw4⟩ : ∃ W, W = w3.alloc (.cells #[.slice none 0 0] 121) := ⟨_, rfl⟩
  rw [← hw4] at hI4
  obtain ⟨w5, hw5⟩ : ∃ W, W = w4.alloc (.cells #[.int .i64 1] 3) := ⟨_, rfl⟩
  have k45 : Kp No w4 w5 := by rw [hw5]; exact (Kp.refl No w4).alloc _
  have hnu := Nums_any w3 w5 w3.heap.size _ _ (hI4.keep k45) w4.heap.size 1 [1] 3 (by simp) (by rw [hw5]; exact heap_alloc_new w4 _) (by decide) (by decide) (by simp) (by simp)
  have HNU := Lib.hid hnu
  have HW4 := Lib.hid hw4
  have HW5 := Lib.hid hw5
  clear hown3 hfr3 k3 hI4 hw4 k45 hw5 hnu HL2 HM HAL
  go_upto_region 11 with fail
  rw [← HW4.out]
  go_wp2_with fail
  rw [← HW5.out]
  refine HNU.out.mono ?_
  rintro e w6 ⟨rfl, v6, hI6, _⟩
  rw [List.nil_append, List.flatMap_cons, List.flatMap_nil, List.append_nil] at hI6
  have hn1l : (numL 1).length ≤ 10 := by
   have := numL_len62 (n := 1) (by decide)
   omega
  have hra := Raw_wr w3 w6 w3.heap.size v6 (numL 1) hI6 a3 c3 ll (Rd.kp (Own.rd' HO3.out) hI6.kp) (by omega)
  rw [← HX.out] at hra
  have HRA := Lib.hid hra
  have HLE := Lib.hid (And.intro hn1l hlen)
  clear hI6 hra HNU HW4 HW5 hn1l hlen
  go_wp2_with fail
  refine HRA.out.mono ?_
  rintro e w7 ⟨rfl, v7, hI7, _⟩
  obtain ⟨_, a7, c7, rfl, _⟩ := id hI7.own
  have hl7 : X.length ≤ 1000000000 := by
   have := HLE.out
   rw [HX.out, List.length_append]
   omega
  have hou := Out_any w7 w3.heap.size a7 c7 X hI7.cell (Own.rd' hI7.own) (by omega)
  have HK7 := Lib.hid (HK3.out.trans_same hI7.kp)
  have HOU := Lib.hid hou
  clear hI7 hou HRA HO3 HK3
  go_wp2_with fail
  refine HOU.out.mono ?_
  rintro e w8 ⟨a8, c8, rfl, hown8, hfr8, k8⟩
  have k08 := HK7.out.trans_same k8
  have h8 := HH.out.keep_no k08
  obtain ⟨hpo, hpF, hpG⟩ := HP.out
  have hFl := HH.out.at_.disk.lt
  have hGl := HH.out.at_.log.lt
  have hwr := sWrites_any h8.st h8.at_ h8.sF h8.sG HFI.out hk (hpo.keep k08) hpF hpG hQ hnb a8 c8 X (fun W hW => Own.rd' (hown8.keep hW fun g hg hb => by
   have h1 := hfr8 g hg
   have h2 := HK7.out.size
   rcases hb with hb | hb
   ·have := hFl g hb
    omega
   ·have := hGl g hb
    omega)) hl7
  rw [← HWQ.out] at hwr
  have HWR := Lib.hid hwr
  have HK8 := Lib.hid k08
  clear hwr h8 k08 k8 hown8 hfr8 hpo hpF hpG hFl hGl HOU HK7 hl7
  obtain ⟨w1q, hw1q⟩ : ∃ z, z = wq.1 := ⟨_, rfl⟩
  rw [← hw1q] at HWR
  by_cases hw0 : w1q = 0
  ·have b1 : (w1q == 0) = true := by rw [beq_iff_eq]; exact hw0
   have b2 : (w1q != 0) = false := by rw [bne, b1]; rfl
   have hq9 : q = (0, wq.2.1, { laysS o st (L.map RecR.r) with n := st.n + 1 }, wq.2.2) := by rw [HQ.out, if_pos (by rw [← hw1q]; exact hw0)]
   have HQ9 := Lib.hid hq9
   have HW0 := Lib.hid (show wq.1 = 0 by rw [← hw1q]; exact hw0)
   clear hq9 hw1q hw0 hm0
   go_wp2_with fail
   refine HWR.out.mono ?_
   rintro e w9 ⟨rfl, hW9⟩
   obtain ⟨F', G', h9, hF9, hG9, hk9⟩ := HH.out.wrote HK8.out hW9
   rw [wrote_ok st HW0.out] at h9
   have hla := sLays_any h9.st (HI.out.setN _) a cap L (fun W hW => HLL.out W (hk9.trans hW fun i _ hs => .inl hs)) hc HG.out.1 HG.out.2.2 h64 B hB HCB.out.1 HCB.out.2
   have H9 := Lib.hid h9
   have HF9 := Lib.hid (And.intro hF9 (And.intro hG9 hk9))
   rw [← HN.out] at hla
   have HLA := Lib.hid hla
   clear h9 hF9 hG9 hk9 hla hW9 HWR
   go_wp2_with fail
   refine HLA.out.mono ?_
   rintro e wa ⟨rfl, hJ⟩
   have hT := H9.out.laid HF9.out.1 HF9.out.2.1 HF9.out.2.2 (by rw [HN.out]; exact h64) hJ
   have htk : (L.map RecR.r).take n = L.map RecR.r := List.take_of_length_le (by rw [List.length_map, HN.out]; exact Nat.le_refl _)
   rw [htk, laysS_n] at hT
   have HT := Lib.hid hT
   clear hT htk hJ HLA
   go_wp2_with fail
   go_ret
   rw [HQ9.out]
   exact ⟨rfl, HT.out⟩
  ·have b1 : (w1q == 0) = false := by rw [beq_eq_false_iff_ne]; exact hw0
   have b2 : (w1q != 0) = true := by rw [bne, b1]; rfl
   have hq9 : q = (w1q, wq.2.1, { st with dead := true }, wq.2.2) := by rw [HQ.out, if_neg (by rw [← hw1q]; exact hw0), hw1q]
   have HQ9 := Lib.hid hq9
   have HW0 := Lib.hid (show wq.1 ≠ 0 by rw [← hw1q]; exact hw0)
   clear hq9 hw1q hm0
   go_wp2_with fail
   refine HWR.out.mono ?_
   rintro e w9 ⟨rfl, hW9⟩
   obtain ⟨F', G', h9, hF9, hG9, hk9⟩ := HH.out.wrote HK8.out hW9
   rw [wrote_no st HW0.out] at h9
   have HT := Lib.hid (show TurnS w s d l P Q o m cs ka kc K F G (B + 64) { st with dead := true } wq.2.1 wq.2.2 w9 from ⟨cs, ka, kc, K, F', G', h9, fun _ h => .inl h, hF9, hG9, hk9, fun p hp => by have := HCB.out.1 p hp; omega, by have := HCB.out.2; omega⟩)
   clear h9 hF9 hG9 hk9 hW9 HWR
   go_wp2_with fail
   go_ret
   rw [HQ9.out]
   exact ⟨rfl, HT.out⟩
 ·rw [if_neg hm0] at hq
  have HAL := Lib.hid hal
  have HS := Lib.hid hsame
  have HM := Lib.hid hmay
  have hm1 : ((my : Int) == 0) = false := by rw [beq_eq_false_iff_ne]; omega
  have hm2 : ((my : Int) != 0) = true := by rw [bne, hm1]; rfl
  have hm3 : (my == 0) = false := by rw [beq_eq_false_iff_ne]; exact hm0
  have hm4 : (my != 0) = true := by rw [bne, hm3]; rfl
  have hm5 : ¬ ((my : Int) = 0) := by omega
  subst hq
  clear h hinv hfit hpow hL hal hsame hcB hkB hd hnL hL0 hQP hmay hmy
  go_enter Tryz.func18, Tryz.ntmps18
  go_wp2_with fail
  refine HAL.out.mono ?_
  rintro e w1 ⟨rfl, rfl⟩
  go_wp2_with fail
  refine HM.out.mono ?_
  rintro e w2 ⟨rfl, k2⟩
  have HK2 := Lib.hid k2
  clear k2
  go_wp2_with fail
  go_ret
  exact ⟨rfl, HS.out _ HK2.out⟩
end
end Go.Proofs.YtgnkmjeoaoongaaGreatDoor

