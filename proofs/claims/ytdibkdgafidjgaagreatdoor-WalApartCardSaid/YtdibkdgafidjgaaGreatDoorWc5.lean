/-
  Texts laid together: Good, WLaid.
-/
import Derived.Test.YtdibkdgafidjgaaGreatDoorWa7
import Derived.Deep.Slices
import Derived.ChangeSame
import Derived.Test.YtdibkdgafidjgaaGreatDoorRows
import Derived.Lib.SmallJoins
import Derived.Stop.LaidErr
import Derived.LaidMore
import Derived.OpenShut
import Derived.Stop.Joined
import Derived.Lay
namespace Go.Mer
open Go.ChangeShapes Go.WideShapes Go.RowKit Go.Deep
section
variable {H : Type} {enc : TypeId × Value → H} {P : Program} {W : World}
def Opn (P : Program) (W : World) : Nat → TypeId → List Value → Prop
 | 0, _, _ => False
 | n + 1, t, cs => match P.underlying t with
  | some .bool => ∃ b, cs = [.bool b]
  | some (.int k) => ∃ x, cs = [.int k x] ∧ (Lit.int k x).wf = true
  | some .string => ∃ s : ByteArray, cs = [.string s] ∧ s.size ≤ 140737488351232
  | some (.slice e) => ∃ (a : Option Addr) (len cap : Nat), cs = [.slice a len cap] ∧ len ≤ cap ∧ cap * P.bytesOf e ≤ 140737488351232 ∧
    (0 < P.cellsOf e → ∀ i, i < len → ∃ (g off : Nat) (cs' : List Value), a = some ⟨g, off, none⟩ ∧ g < W.heap.size ∧ cs'.length = P.cellsOf e ∧
     (∀ j, j < P.cellsOf e → W.cell? ⟨g, off + i * P.cellsOf e + j, none⟩ = cs'[j]?) ∧ Opn P W n e cs')
  | some (.struct fs) => cs.length = P.cellsOf t ∧ ∀ (i : Nat) (f : Field), fs[i]? = some f → Opn P W n f.type ((cs.drop f.offset).take (P.cellsOf f.type))
  | _ => True
theorem weightsEach_mem {ts : List TypeId} {ds : List (DataW H)} {j : Nat} {t : TypeId} {d : DataW H} (ht : ts[j]? = some t) (hd : ds[j]? = some d) : ∀ n ∈ d.weights P t, n ∈ DataW.weightsEach P ts ds :=
 fun n hn => DataW.weights_mem_each ht hd n hn
theorem good_of_trod : ∀ {n : Nat} {t : TypeId} {cs : List Value} {d : DataW H} {ps : List MemPlace}, DataW.trod enc P W 0 (fun _ => true) true n t cs = some (d, ps) → (∀ m ∈ d.weights P t, m ≤ reachBytes) → Opn P W n t cs
 | 0, t, cs, d, ps, h, _ => by simp [DataW.trod] at h
 | n + 1, t, cs, d, ps, h, hw => by
  unfold Opn
  cases hu : P.underlying t with
  | none => trivial
  | some u =>
   cases u with
   | bool =>
    obtain ⟨b, hb, _⟩ := DataW.trod_bool hu h
    exact ⟨b, hb⟩
   | int k =>
    obtain ⟨x, hx, _, hwf⟩ := DataW.trod_int hu h
    exact ⟨x, hx, hwf⟩
   | string =>
    obtain ⟨s, hs, hd, _⟩ := DataW.trod_string hu h
    injection hd with hd _
    subst hd
    refine ⟨s, hs, ?_⟩
    have := hw s.data.toList.length (by simp [DataW.weights])
    have e : s.data.toList.length = s.size := Array.length_toList
    rw [e, reach_is] at this
    exact this
   | slice e =>
    rcases open_slice hu h with ⟨hcs, _⟩ | ⟨a, len, cap, m, n', D, Pl, hcs, _, hl, _, hm, hx, hi⟩
    ·exact ⟨none, 0, 0, hcs, Nat.le_refl _, by simp, fun _ i hi => by omega⟩
    ·simp only [if_true] at hm
     subst hm
     injection hx with hd _
     subst hd
     refine ⟨some a, len, m, hcs, hl, ?_, fun hz i hil => ?_⟩
     ·have := hw _ (by simp only [DataW.weights, hu]; exact List.mem_cons_self ..)
      simp only [List.length_map, List.length_range, reach_is] at this
      rwa [show len + (m - len) = m by omega] at this
     ·rcases DataW.trod_slice hu h with ⟨hcs', _⟩ | ⟨a', len', cap', elems, rest, n2, hn2, hcs', hx', _, _, _, hlen, hel, _, _⟩
      ·rw [hcs'] at hcs
       simp at hcs
      ·rw [hcs'] at hcs
       injection hcs with hcs
       injection hcs with e1 e2 e3
       injection e1 with e1
       subst e1; subst e2; subst e3
       obtain rfl : n = n2 := by omega
       have h1 := hel i hil
       rw [List.getElem?_eq_getElem (by omega)] at h1
       obtain ⟨cs', h2, h3⟩ := Option.bind_eq_some_iff.1 h1
       obtain ⟨_, hl', hat⟩ := World.cells?_some h2
       have hgood : Opn P W n e cs' := good_of_trod (d := (elems[i]'(by omega)).1) (ps := (elems[i]'(by omega)).2) h3 (fun m' hm' => by
        refine hw m' ?_
        injection hx' with hx' _
        rw [hx']
        simp only [DataW.weights, hu]
        refine List.mem_cons_of_mem _ (List.mem_append_left _ ?_)
        exact weightsAll_mem' (d := (elems[i]'(by omega)).1) (List.mem_map.2 ⟨_, List.getElem_mem (by omega), rfl⟩) _ hm')
       have hc0 := hat 0 hz
       rw [List.getElem?_eq_getElem (by omega), Go.Deep.add_add] at hc0
       obtain ⟨g, off, spot⟩ := a'
       have hs : spot = none := by
        have k1 := hel 0 (by omega)
        rw [List.getElem?_eq_getElem (by omega)] at k1
        obtain ⟨cs0, k2, _⟩ := Option.bind_eq_some_iff.1 k1
        obtain ⟨_, k3, k4⟩ := World.cells?_some k2
        have k5 := k4 0 hz
        rw [List.getElem?_eq_getElem (by omega), Go.Deep.add_add] at k5
        simpa [Addr.add] using World.cell?_spot k5
       subst hs
       have hg := World.block_lt_of_cell? W _ hc0
       refine ⟨g, off, cs', rfl, by (have := hg; rw [add_lit'] at this; exact this), hl', fun j hj => ?_, hgood⟩
       have := hat j hj
       rw [Go.Deep.add_add, add_lit'] at this
       rw [Nat.add_assoc]
       exact this
   | struct fs =>
    obtain ⟨xs, n', hn', hx, hl, hlx, hf⟩ := DataW.trod_struct hu h
    obtain rfl : n = n' := by omega
    refine ⟨hl, fun i f hi => ?_⟩
    have h1 := hf i f hi
    have hil : i < fs.size := (Array.getElem?_eq_some_iff.1 hi).1
    rw [List.getElem?_eq_getElem (by omega)] at h1
    refine good_of_trod (d := (xs[i]'(by omega)).1) (ps := (xs[i]'(by omega)).2) h1 (fun m hm => hw m ?_)
    injection hx with hx _
    rw [hx]
    simp only [DataW.weights, hu]
    exact weightsEach_mem (j := i) (t := f.type) (by simp [hi]) (by simp [List.getElem?_eq_getElem (show i < xs.length by omega)]) _ hm
   | _ => trivial
theorem open_list {R : Type} {n c : Nat} {t e : TypeId} {a : Option Addr} {len cap : Nat} (h : Opn P W (n + 1) t [.slice a len cap]) (ht : P.underlying t = some (.slice e)) (he : P.cellsOf e = c) (hc : 0 < c) (f : R → List Value) (Q : R → Prop) (hf : ∀ r, (f r).length = c)
  (hone : ∀ cs, Opn P W n e cs → ∃ r, cs = f r ∧ Q r) : ∃ L : List R, L.length = len ∧ Rd W W.heap.size a (L.flatMap f) ∧ (∀ r ∈ L, Q r) ∧ len ≤ cap ∧ cap * P.bytesOf e ≤ 140737488351232 := by
 unfold Opn at h
 rw [ht] at h
 obtain ⟨a', len', cap', hcs, hl, hr, hrow⟩ := h
 injection hcs with hcs
 injection hcs with e1 e2 e3
 subst e1; subst e2; subst e3
 rw [he] at hrow
 have hget : ∀ i, i < len → ∃ r, Q r ∧ ∃ g off, a = some ⟨g, off, none⟩ ∧ g < W.heap.size ∧ ∀ j, j < c → W.cell? ⟨g, off + i * c + j, none⟩ = (f r)[j]? := fun i hi => by
  obtain ⟨g, off, cs', h1, h2, h3, h4, h5⟩ := hrow hc i hi
  obtain ⟨r, rfl, hq⟩ := hone cs' h5
  exact ⟨r, hq, g, off, h1, h2, h4⟩
 by_cases h0 : len = 0
 ·subst h0
  exact ⟨[], rfl, Rd.nil _ _ _, by simp, hl, hr⟩
 ·obtain ⟨r0, _, _⟩ := hget 0 (by omega)
  obtain ⟨F, hF⟩ : ∃ F : Nat → R, ∀ i, i < len → Q (F i) ∧ ∃ g off, a = some ⟨g, off, none⟩ ∧ g < W.heap.size ∧ ∀ j, j < c → W.cell? ⟨g, off + i * c + j, none⟩ = (f (F i))[j]? := by
   refine ⟨fun i => if h : i < len then Classical.choose (hget i h) else r0, fun i hi => ?_⟩
   simp only [dif_pos hi]
   exact Classical.choose_spec (hget i hi)
  refine ⟨(List.range len).map F, by simp, fun hx => ?_, fun r hr => ?_, hl, hr⟩
  ·obtain ⟨_, g, off, h1, h2, _⟩ := hF 0 (by omega)
   refine ⟨g, off, h1, h2, Nat.le_refl _, fun j u hu => ?_⟩
   have hlen : ∀ m, (((List.range m).map F).flatMap f).length = m * c := fun m => by
    induction m with
    | zero => simp
    | succ m ih => rw [List.range_succ, List.map_append, List.flatMap_append, List.length_append, ih, Nat.add_mul]; simp [hf]
   have hj : j < len * c := by rw [← hlen len]; exact (List.getElem?_eq_some_iff.1 hu).1
   have hi : j / c < len := (Nat.div_lt_iff_lt_mul hc).2 hj
   obtain ⟨_, g', off', h3, _, h4⟩ := hF (j / c) hi
   rw [h1] at h3
   injection h3 with h3
   injection h3 with e1 e2 _
   subst e1; subst e2
   have h5 := h4 (j % c) (Nat.mod_lt _ hc)
   rw [Nat.add_assoc, Nat.mul_comm, Nat.div_add_mod] at h5
   rw [h5]
   have hsplit : ((List.range len).map F).flatMap f = ((List.range (j / c)).map F).flatMap f ++ (f (F (j / c)) ++ (((List.range len).map F).drop (j / c + 1)).flatMap f) := by
    have e1 : (List.range len).map F = (List.range (j / c)).map F ++ (F (j / c) :: ((List.range len).map F).drop (j / c + 1)) := by
     have hl' : j / c < ((List.range len).map F).length := by simpa using hi
     have hd := List.drop_eq_getElem_cons hl'
     have ht := (List.take_append_drop (j / c) ((List.range len).map F)).symm
     rw [hd, List.getElem_map, List.getElem_range, ← List.map_take, List.take_range, Nat.min_eq_left (by omega)] at ht
     exact ht
    conv => lhs; rw [e1]
    rw [List.flatMap_append, List.flatMap_cons]
   rw [hsplit, List.getElem?_append_right (by rw [hlen]; rw [Nat.mul_comm]; exact Nat.mul_div_le j c), hlen] at hu
   have e2 : j - j / c * c = j % c := by rw [Nat.mul_comm]; have := Nat.div_add_mod j c; omega
   rw [e2, List.getElem?_append_left (by rw [hf]; exact Nat.mod_lt _ hc)] at hu
   exact hu
  ·obtain ⟨i, hi, rfl⟩ := List.mem_map.1 hr
   exact (hF i (List.mem_range.1 hi)).1
theorem good_int {n : Nat} {t : TypeId} {k : IntKind} {cs : List Value} (h : Opn P W n t cs) (ht : P.underlying t = some (.int k)) : ∃ x, cs = [.int k x] ∧ (Lit.int k x).wf = true := by
 cases n with
 | zero => exact h.elim
 | succ n => unfold Opn at h; rw [ht] at h; exact h
theorem good_i64 {n : Nat} {t : TypeId} {cs : List Value} (h : Opn P W n t cs) (ht : P.underlying t = some (.int .i64)) : ∃ x, cs = [.int .i64 x] ∧ -9223372036854775808 ≤ x ∧ x ≤ 9223372036854775807 := by
 obtain ⟨x, h1, h2⟩ := good_int h ht
 have a1 : IntKind.i64.min = -9223372036854775808 := rfl
 have a2 : IntKind.i64.max = 9223372036854775807 := rfl
 simp only [Lit.wf, Bool.and_eq_true, decide_eq_true_eq, a1, a2] at h2
 exact ⟨x, h1, h2⟩
theorem good_slice {n : Nat} {t e : TypeId} {cs : List Value} (h : Opn P W n t cs) (ht : P.underlying t = some (.slice e)) : ∃ n' a len cap, n = n' + 1 ∧ cs = [.slice a len cap] := by
 cases n with
 | zero => exact h.elim
 | succ n =>
  unfold Opn at h
  rw [ht] at h
  obtain ⟨a, len, cap, rfl, _⟩ := h
  exact ⟨n, a, len, cap, rfl, rfl⟩
theorem good_struct {n : Nat} {t : TypeId} {fs : Array Field} {cs : List Value} (h : Opn P W n t cs) (ht : P.underlying t = some (.struct fs)) :
  ∃ n', n = n' + 1 ∧ cs.length = P.cellsOf t ∧ ∀ (i : Nat) (f : Field), fs[i]? = some f → Opn P W n' f.type ((cs.drop f.offset).take (P.cellsOf f.type)) := by
 cases n with
 | zero => exact h.elim
 | succ n =>
  unfold Opn at h
  rw [ht] at h
  exact ⟨n, rfl, h⟩
theorem flat_u8 : ∀ L : List UInt8, L.flatMap (fun b : UInt8 => [u8 b]) = u8s L
 | [] => rfl
 | b :: L => by rw [List.flatMap_cons, flat_u8 L]; rfl
theorem good_bytes {n : Nat} {t e : TypeId} {cs : List Value} (h : Opn P W n t cs) (ht : P.underlying t = some (.slice e)) (he : P.underlying e = some (.int .u8)) (ce : P.cellsOf e = 1) (be : P.bytesOf e = 1) :
  ∃ (a : Option Addr) (cap : Nat) (l : List UInt8), cs = [.slice a l.length cap] ∧ Rd W W.heap.size a (u8s l) ∧ l.length ≤ cap ∧ cap ≤ 140737488351232 := by
 obtain ⟨n', a, len, cap, rfl, rfl⟩ := good_slice h ht
 obtain ⟨L, rfl, hr, _, h1, h2⟩ := open_list h ht ce (by decide) (fun b : UInt8 => [u8 b]) (fun _ => True) (fun _ => rfl) (fun cs hg => by
  obtain ⟨x, rfl, hx⟩ := good_int hg he
  exact ⟨toB x, by rw [u8_toB hx], trivial⟩)
 refine ⟨a, cap, L, rfl, ?_, h1, by rw [be] at h2; omega⟩
 rwa [flat_u8] at hr
theorem good_at {n k : Nat} {fs : Array Field} {cs : List Value} (hf : ∀ (i : Nat) (f : Field), fs[i]? = some f → Opn P W n f.type ((cs.drop f.offset).take (P.cellsOf f.type))) (i : Nat) (f : Field) (hi : fs[i]? = some f) (hc : P.cellsOf f.type = k) :
  Opn P W n f.type ((cs.drop f.offset).take k) := hc ▸ hf i f hi
theorem good_arg {ts : List TypeId} {ds : List (DataW H)} (hsz : (DataW.weightsEach P ts ds).all (· ≤ reachBytes) = true) {j : Nat} {t : TypeId} {d : DataW H} (hj : ts[j]? = some t) (hd : ds[j]? = some d) {v : Value} {ps : List MemPlace}
  (h : DataW.Trod enc P W 0 (fun _ => true) true t v d ps) : ∃ n, Opn P W n t v.cells.toList := by
 obtain ⟨n, h⟩ := h
 exact ⟨n, good_of_trod h fun m hm => of_decide_eq_true (List.all_eq_true.1 hsz m (weightsEach_mem hj hd m hm))⟩
end
end Go.Mer
namespace Go.Proofs.YtdibkdgafidjgaaGreatDoor
open Go.ChangeShapes Go.WideShapes Go.ChangeAt Go.RowKit Go.Mer
theorem Tryz.own : ownKnob Tryz.prog.godebug = none := by kernel_rfl
theorem Tryz.laidOut : laidOutB Tryz.prog = true := by kernel_rfl
def Lit64 (x : Int) : Prop := -9223372036854775808 ≤ x ∧ x ≤ 9223372036854775807
section
variable {H : Type} {enc : TypeId × Value → H} {W : World} {ts : List TypeId} {ds : List (DataW H)}
set_option maxRecDepth 100000 in
theorem open_i64 {r : Reach} {b0 : Nat} (hsz : (DataW.weightsEach Tryz.prog ts ds).all (· ≤ reachBytes) = true) {j : Nat} {d : DataW H} (hj : ts[j]? = some 3) (hd : ds[j]? = some d) {v : Value} {p : List MemPlace} (hv : Value.okWide Tryz.prog W r b0 3 v)
  (h : DataW.Trod enc Tryz.prog W 0 (fun _ => true) true 3 v d p) : ∃ x : Int, v = .int .i64 x ∧ Lit64 x := by
 obtain ⟨n, hg⟩ := good_arg hsz hj hd h
 obtain ⟨x, rfl, rfl, rfl, _⟩ := open_int Tryz.underlying3 hv h
 obtain ⟨y, e1, h1⟩ := good_i64 hg Tryz.underlying3
 have e1' : [Value.int .i64 x] = [.int .i64 y] := e1
 injection e1' with e1'
 injection e1' with _ e1'
 subst e1'
 exact ⟨x, rfl, h1⟩
end
end Go.Proofs.YtdibkdgafidjgaaGreatDoor

