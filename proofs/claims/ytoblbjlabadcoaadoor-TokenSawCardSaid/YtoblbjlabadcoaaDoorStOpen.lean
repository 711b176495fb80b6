/-
  A slice of stamps that was handed in.
-/
import Derived.Test.YtoblbjlabadcoaaDoorStMax
import Derived.Test.YtoblbjlabadcoaaDoorArgs
import Derived.Deep.Slices
import Derived.Deep.Fields
import Derived.ChangeSame
namespace Go.Proofs.YtoblbjlabadcoaaDoor
open Go.ChangeShapes Go.WideShapes Go.RowKit Go.Deep Go.Mer

section
variable {H : Type} {enc : TypeId × Value → H} {P : Program} {w : World} {base : Nat} {spare : Nat → Bool} {held : Bool}
theorem open_slice_fields {t e : TypeId} {fs : Array Field} {fuel : Nat} {cs : List Value} {x : DataW H × List MemPlace} (ht : P.underlying t = some (.slice e)) (he : P.underlying e = some (.struct fs))
    (hone : oneCellFields P fs = true) (hC : P.cellsOf e = fs.size) (h : DataW.trod enc P w base spare held fuel t cs = some x) :
    (cs = [.slice none 0 0] ∧ x = (.nil, [])) ∨
    ∃ (a : Addr) (len cap m : Nat) (D : Nat → DataW H) (Pl : Nat → List MemPlace), cs = [.slice (some a) len cap] ∧ base ≤ a.block ∧ len ≤ cap ∧ cap ≤ maxLen ∧ m = (if spare a.block then cap else len) ∧
      x = (.slice ((List.range len).map D) ((List.range (m - len)).map fun j => D (len + j)), MemPlace.row a (m * fs.size) ++ (List.range m).flatMap Pl) ∧
      ∀ i, i < m → ∃ (ys : List (DataW H × List MemPlace)) (n : Nat), D i = .agg (ys.map (·.1)) ∧ Pl i = ys.flatMap (·.2) ∧ ys.length = fs.size ∧
        ∀ (j : Nat) (f : Field), fs[j]? = some f → ∃ (v : Value) (y : DataW H × List MemPlace), w.cell? (a.add (i * fs.size + j)) = some v ∧ ys[j]? = some y ∧ DataW.trod enc P w base spare held n f.type [v] = some y := by
  rcases open_slice ht h with h0 | ⟨a, len, cap, m, n, D, Pl, hcs, hb, hl, hm, hmm, hx, hi⟩
  · exact .inl h0
  · refine .inr ⟨a, len, cap, m, D, Pl, hcs, hb, hl, hm, hmm, by rw [hC] at hx; exact hx, fun i him => ?_⟩
    obtain ⟨cs', hc, ht'⟩ := hi i him
    rw [hC] at hc
    obtain ⟨ys, n', hn', hy, hlen, hyl, hf⟩ := DataW.trod_struct he ht'
    obtain ⟨_, hcl, hat⟩ := World.cells?_some hc
    simp only [Prod.mk.injEq] at hy
    refine ⟨ys, n', hy.1, hy.2, hyl, fun j f hj => ?_⟩
    obtain ⟨ho, hk⟩ := hone_of hone j f hj
    have hjl : j < fs.size := (Array.getElem?_eq_some_iff.1 hj).1
    have hcell := hat j hjl
    have hv : cs'[j]? = some (cs'[j]'(by omega)) := List.getElem?_eq_getElem (by omega)
    have h1 := hf j f hj
    rw [ho, hk] at h1
    have hone' : (cs'.drop j).take 1 = [cs'[j]'(by omega)] := by
      rw [List.drop_eq_getElem_cons (by omega)]
      rfl
    rw [hone'] at h1
    have hys : ys[j]? = some (ys[j]'(by omega)) := List.getElem?_eq_getElem (by omega)
    refine ⟨_, _, ?_, hys, h1.trans hys⟩
    rw [← Go.Deep.add_add, hcell, hv]
end
section
variable {H : Type} {enc : TypeId × Value → H} {W : World} {ts : List TypeId} {ds : List (DataW H)}
theorem get_stC (L : List St) : ∀ {j : Nat} {u : Value}, (stC L)[j]? = some u → ∃ k, ∃ h : k < L.length, (j = k * 2 ∧ u = .int .i64 L[k].1) ∨ (j = k * 2 + 1 ∧ u = .int .i64 L[k].2) := by
  intro j u hu
  have hj : j < (stC L).length := (List.getElem?_eq_some_iff.1 hu).1
  rw [stC_len] at hj
  have hk : j / 2 < L.length := by omega
  obtain ⟨h0, h1⟩ := stC_get L hk
  refine ⟨j / 2, hk, ?_⟩
  rcases Nat.mod_two_eq_zero_or_one j with h | h
  · have e : j = j / 2 * 2 := by omega
    rw [← e, hu] at h0
    exact .inl ⟨e, Option.some.inj h0⟩
  · have e : j = j / 2 * 2 + 1 := by omega
    rw [← e, hu] at h1
    exact .inr ⟨e, Option.some.inj h1⟩
set_option maxRecDepth 100000 in
theorem open_stamps (hsz : (DataW.weightsEach Tryd.prog ts ds).all (· ≤ reachBytes) = true) {j : Nat} {d : DataW H} (hj : ts[j]? = some 33) (hd : ds[j]? = some d) {a : Option Addr} {len cap : Nat} {ps : List MemPlace}
    (h : DataW.Trod enc Tryd.prog W 0 (fun _ => true) true 33 (.slice a len cap) d ps) : ∃ L : List St, L.length = len ∧ Rd W W.heap.size a (stC L) ∧ len ≤ 140737488351232 ∧ len ≤ cap := by
  obtain ⟨fuel, h⟩ := h
  rcases open_slice_fields Tryd.underlying33 Tryd.underlying23 (by kernel_rfl) (by kernel_rfl) h with ⟨hcs, _⟩ | ⟨a', len', cap', m, D, Pl, hcs, _, hl, _, hm, hx, hf⟩
  · simp [Value.cells] at hcs
    obtain ⟨rfl, rfl, rfl⟩ := hcs
    exact ⟨[], rfl, Rd.nil _ _ _, by simp, by simp⟩
  · simp [Value.cells] at hcs
    obtain ⟨rfl, rfl, rfl⟩ := hcs
    simp only [if_true] at hm
    simp only [Prod.mk.injEq] at hx
    obtain ⟨rfl, _⟩ := hx
    have hr := sized_slice hsz hj hd Tryd.underlying33
    simp only [List.length_map, List.length_range, reach_is] at hr
    have hby : Tryd.prog.bytesOf 23 = 16 := by kernel_rfl
    rw [hby] at hr
    have hget : ∀ i, i < len → ∃ p : St, W.cell? (a'.add (i * 2)) = some (.int .i64 p.1) ∧ W.cell? (a'.add (i * 2 + 1)) = some (.int .i64 p.2) := fun i hi => by
      obtain ⟨ys, n, _, _, _, hfi⟩ := hf i (by omega)
      obtain ⟨v0, y0, c0, _, t0⟩ := hfi 0 _ rfl
      obtain ⟨v1, y1, c1, _, t1⟩ := hfi 1 _ rfl
      obtain ⟨x, e0, _⟩ := DataW.trod_int Tryd.underlying3 t0
      obtain ⟨y, e1, _⟩ := DataW.trod_int Tryd.underlying3 t1
      injection e0 with e0
      injection e1 with e1
      subst e0; subst e1
      exact ⟨(x, y), c0, c1⟩
    obtain ⟨f, hf'⟩ : ∃ f : Nat → St, ∀ i, i < len → W.cell? (a'.add (i * 2)) = some (.int .i64 (f i).1) ∧ W.cell? (a'.add (i * 2 + 1)) = some (.int .i64 (f i).2) := by
      refine ⟨fun i => if h : i < len then Classical.choose (hget i h) else (0, 0), fun i hi => ?_⟩
      simp only [dif_pos hi]
      exact Classical.choose_spec (hget i hi)
    refine ⟨(List.range len).map f, by simp, fun hx => ?_, by omega, hl⟩
    have h0 : 0 < len := by rw [stC_len] at hx; simp at hx; omega
    have hc0 := (hf' 0 h0).1
    obtain ⟨g, off, spot⟩ := a'
    have hs : spot = none := by simpa [Addr.add] using World.cell?_spot hc0
    subst hs
    have hg := World.block_lt_of_cell? W _ hc0
    refine ⟨g, off, rfl, by simpa [Addr.add] using hg, Nat.le_refl _, fun j u hu => ?_⟩
    obtain ⟨k, hk, h | h⟩ := get_stC _ hu
    · obtain ⟨rfl, rfl⟩ := h
      have hk' : k < len := by simpa using hk
      have := (hf' k hk').1
      rw [add_lit'] at this
      rw [this]
      simp
    · obtain ⟨rfl, rfl⟩ := h
      have hk' : k < len := by simpa using hk
      have := (hf' k hk').2
      rw [add_lit'] at this
      rw [this]
      simp
end
end Go.Proofs.YtoblbjlabadcoaaDoor
