/-
  append of bytes; a disk of a law's own beside byte lists of its own.
-/
import Derived.Test.YtenidddbjobblaaDiskKnown
import Derived.Test.YtenidddbjobblaaArgs
namespace Go.Proofs.Ytenidddbjobblaa
open Go.RowKit Go.Mer

theorem gget_gset {K β : Type} [DecidableEq K] (l : List (K × β)) (k : K) (v : β) : gget (gset l k v) k = some v := by
  unfold gset
  split
  · rename_i h
    induction l with
    | nil => cases h
    | cons p l ih =>
      by_cases hp : p.1 = k
      · simp [gget, hp]
      · have hl : k ∈ l.map (·.1) := by
          rw [List.map_cons] at h
          exact (List.mem_cons.1 h).resolve_left fun e => hp e.symm
        have := ih hl
        simp only [gget, List.map_cons, hp, if_false, List.find?_cons, decide_false] at this ⊢
        exact this
  · rename_i h
    have h0 : l.find? (fun p => decide (p.1 = k)) = none := by
      have := gget_none h
      simpa only [gget, Option.map_eq_none_iff] using this
    unfold gget
    rw [List.find?_append, h0]
    simp
/-- An effect that its guard shuts out. -/
theorem wpOrd_shut {P : Program} {ops : Array Oper} {ks : List Nat} {S : World → Prop} {Q : Exit → Act → World → Prop} {i : Nat} {o : Oper} {rest : List Nat} {a : Act} {w : World} (ho : ops[i]? = some o) (hk : ks.getD i 2 = 2)
    (hg : Region.wanted o (yielded ops a.tmps) = false) {A : Act} (hA : a.put o.dst undef = A) (h : ∀ n, S (w.drewN n) ∧ wpOrd P ops ks S Q rest A (w.drewN n)) : wpOrd P ops ks S Q (i :: rest) a w := by
  subst hA
  refine wpOrd_eff ho hk fun n => ?_
  unfold wpList
  rw [if_neg (by rw [hg]; decide)]
  exact ⟨rfl, h n⟩
/-- The walk's step at an append under a guard that lets it. -/
theorem wpList_append_wanted {P : Program} {w : World} {ops : Array Oper} {rest : List Oper} {o : Oper} {a : Act} {Q : Exit → Act → World → Prop} {w' : World} {s x : Operand} {t t' : TypeId} {v xv v' : Value} (hgd : Region.wanted o (yielded ops a.tmps) = true)
    (ho : o.op = .call { callee := .builtin .append, args := #[s, x], argTypes := #[t, t'] }) (hs : a.eval s = v) (hx : a.eval x = xv)
    (hrun : (Builtin.append_ #[t, t'] o.type #[v, xv]).run P w = .ok v' w') (h : wpList P ops Q rest (a.put o.dst v') w') : wpList P ops Q (o :: rest) a w :=
  wpList_step fun K hK => by
    rw [if_pos hgd]
    unfold Oper.wp execOp
    simp only [ho, resolve, invoke, builtin, Sem.run_bind, Sem.run_pure, Result.andThen_ok, List.map_toArray, List.map_cons, List.map_nil, hs, hx, hrun]
    exact hK _ _ h
/-- append(v, x...) of bytes. -/
theorem app_bytes (w : World) (v : Value) (xs ys : List UInt8) (hown : Own w 5 1 v xs.length (u8s xs)) (a : Option Addr) (c : Nat) (hx : Rd w w.heap.size a (u8s ys)) (hl : xs.length + ys.length ≤ 140737488355328) :
    ∃ a' c' w', (Builtin.append_ #[23, 23] 23 #[v, .slice a ys.length c]).run Try.prog w = .ok (.slice a' (xs ++ ys).length c') w' ∧
      Own w' 5 1 (.slice a' (xs ++ ys).length c') (xs ++ ys).length (u8s (xs ++ ys)) ∧ Kp (fun k => v.ownBlock = some k) w w' ∧
      ((Value.slice a' (xs ++ ys).length c').ownBlock = v.ownBlock ∨ ∃ g, (Value.slice a' (xs ++ ys).length c').ownBlock = some g ∧ w.heap.size ≤ g) := by
  obtain ⟨i0, hi, hz0, hz1, hz2⟩ := info_parts infoByte
  obtain ⟨v', w', hrun, ho, hkp, hblk⟩ := run_append_Own (P := Try.prog) (w := w) 23 23 23 5 i0 (.int .u8 0) 1 1 Try.underlying23 ⟨_, Try.underlying23⟩ hi hz0 hz1 hz2 rfl
    v xs.length (u8s xs) hown (.slice a ys.length c) ys.length (u8s ys) ⟨by simp [u8s_length], a, c, rfl, hx⟩ (u8s_one ys) (by simp only [maxLen]; omega) (by omega)
  obtain ⟨_, a', c', rfl, _⟩ := id ho
  rw [← u8s_append, ← List.length_append] at ho
  rw [← List.length_append] at hrun hblk
  exact ⟨a', c', w', hrun, ho, hkp, hblk⟩
/-- append([]byte{}, x...): a copy. -/
theorem cpy_bytes (w : World) (xs : List UInt8) (a : Option Addr) (c : Nat) (hx : Rd w w.heap.size a (u8s xs)) (hl : xs.length ≤ 140737488355328) :
    ∃ a' c' w', (Builtin.append_ #[23, 23] 23 #[.slice (some ⟨w.heap.size, 0, none⟩) 0 0, .slice a xs.length c]).run Try.prog (w.alloc (.cells #[] 5)) = .ok (.slice a' xs.length c') w' ∧
      Own w' 5 1 (.slice a' xs.length c') xs.length (u8s xs) ∧ Kp No w w' ∧ (∀ g, (Value.slice a' xs.length c').ownBlock = some g → w.heap.size ≤ g) := by
  have hal : Kp No w (w.alloc (.cells #[] 5)) := (Kp.refl _ _).alloc _
  obtain ⟨a', c', w', h1, h2, h3, h4⟩ := app_bytes (w.alloc (.cells #[] 5)) (.slice (some ⟨w.heap.size, 0, none⟩) 0 0) [] xs (Own.made w 5 1 #[] 0 0 (Nat.le_refl _) (by simp [maxLen]) (by simp) rfl) a c
    ((hx.keep hal fun _ _ x => x).mono hal.size (Nat.le_refl _)) (by simpa using hl)
  refine ⟨a', c', w', h1, h2, hal.trans h3 (fun k hk h => by simp [Value.ownBlock] at h; omega), fun g hg => ?_⟩
  rcases h4 with h4 | ⟨g', h4, h5⟩
  · have hg2 : (Value.slice a' ([] ++ xs).length c').ownBlock = some g := hg
    rw [h4] at hg2
    simp [Value.ownBlock] at hg2
    omega
  · have hg2 : (Value.slice a' ([] ++ xs).length c').ownBlock = some g := hg
    rw [h4] at hg2
    injection hg2 with hg2
    simp at h5
    omega

/-- The same, where draws lie between. -/
theorem cpy_bytes' (V : World) (g : Nat) (h0 : Own V 5 1 (.slice (some ⟨g, 0, none⟩) 0 0) 0 []) (xs : List UInt8) (a : Option Addr) (c : Nat) (hx : Rd V V.heap.size a (u8s xs)) (hl : xs.length ≤ 140737488355328) :
    ∃ a' c' w', (Builtin.append_ #[23, 23] 23 #[.slice (some ⟨g, 0, none⟩) 0 0, .slice a xs.length c]).run Try.prog V = .ok (.slice a' xs.length c') w' ∧
      Own w' 5 1 (.slice a' xs.length c') xs.length (u8s xs) ∧ Kp (One g) V w' ∧ (∀ k, (Value.slice a' xs.length c').ownBlock = some k → k = g ∨ V.heap.size ≤ k) := by
  obtain ⟨a', c', w', h1, h2, h3, h4⟩ := app_bytes V (.slice (some ⟨g, 0, none⟩) 0 0) [] xs h0 a c hx (by simpa using hl)
  refine ⟨a', c', w', h1, h2, h3.mono fun k _ hk => (Option.some.inj hk).symm, fun k hk => ?_⟩
  have hk2 : (Value.slice a' ([] ++ xs).length c').ownBlock = some k := hk
  rcases h4 with h4 | ⟨g', h4, h5⟩
  · rw [h4] at hk2
    exact .inl (Option.some.inj hk2).symm
  · rw [h4] at hk2
    exact .inr ((Option.some.inj hk2) ▸ h5)

/-! ### Two lists of bytes beside the disk -/
structure Two (w W : World) (d : Nat) (s : DSt) (F : Nat → Prop) (v1 : Value) (xs1 : List UInt8) (v2 : Value) (xs2 : List UInt8) : Prop where
  mine : Mine w W d s F
  o1 : Own W 5 1 v1 xs1.length (u8s xs1)
  o2 : Own W 5 1 v2 xs2.length (u8s xs2)
  a1 : ∀ g, v1.ownBlock = some g → w.heap.size ≤ g ∧ ¬ F g
  a2 : ∀ g, v2.ownBlock = some g → w.heap.size ≤ g ∧ ¬ F g
  ne : ∀ g, v1.ownBlock = some g → v2.ownBlock ≠ some g
section
variable {w W W' : World} {d : Nat} {s s' : DSt} {F : Nat → Prop} {v1 v2 v' : Value} {xs1 xs2 ys : List UInt8} {r : Int × DSt} {e : Ending} {c : Int}
theorem Mine.lt (h : Mine w W d s F) : ∀ k, F k → k < W.heap.size := by
  obtain ⟨_, _, _, _, _, _, _, _, hF⟩ := h.disk
  exact hF
theorem Two.no (h : Two w W d s F v1 xs1 v2 xs2) (hk : Kp No W W') : Two w W' d s F v1 xs1 v2 xs2 :=
  ⟨h.mine.no hk, h.o1.keep hk fun _ _ x => x, h.o2.keep hk fun _ _ x => x, h.a1, h.a2, h.ne⟩
theorem Two.turn (h : Two w W d s F v1 xs1 v2 xs2) (hk : Kp F W W') (hD : DiskAt W' d s' F) : Two w W' d s' F v1 xs1 v2 xs2 :=
  ⟨h.mine.turn hk hD, h.o1.keep hk fun g hg => (h.a1 g hg).2, h.o2.keep hk fun g hg => (h.a2 g hg).2, h.a1, h.a2, h.ne⟩
theorem Two.step (h : Two w W d s F v1 xs1 v2 xs2) (h' : Said5 W d F r e W') (hr : r = (c, s')) : e = .returned (.int .i64 c) ∧ ∃ F', Two w W' d s' F' v1 xs1 v2 xs2 := by
  obtain ⟨he, F', hM, hF, hK⟩ := h.mine.step h' hr
  have h1 : ∀ g, v1.ownBlock = some g → ¬ F' g := fun g hg hf => (hF g hf).elim (h.a1 g hg).2 fun hs => by have := h.o1.lt g hg; omega
  have h2 : ∀ g, v2.ownBlock = some g → ¬ F' g := fun g hg hf => (hF g hf).elim (h.a2 g hg).2 fun hs => by have := h.o2.lt g hg; omega
  exact ⟨he, F', hM, h.o1.keep hK fun g hg => (h.a1 g hg).2, h.o2.keep hK fun g hg => (h.a2 g hg).2, fun g hg => ⟨(h.a1 g hg).1, h1 g hg⟩, fun g hg => ⟨(h.a2 g hg).1, h2 g hg⟩, h.ne⟩
/-- The first grows. -/
theorem Two.app (h : Two w W d s F v1 xs1 v2 xs2) (hk : Kp (fun k => v1.ownBlock = some k) W W') (ho : Own W' 5 1 v' ys.length (u8s ys)) (hb : v'.ownBlock = v1.ownBlock ∨ ∃ g, v'.ownBlock = some g ∧ W.heap.size ≤ g) :
    Two w W' d s F v' ys v2 xs2 := by
  refine ⟨⟨h.mine.kp.trans hk fun i hi hv => ?_, h.mine.disk.keep hk fun k hf hv => (h.a1 k hv).2 hf, h.mine.new⟩, ho, h.o2.keep hk fun g hg hv => h.ne g hv hg, fun g hg => ?_, h.a2, fun g hg => ?_⟩
  · have := (h.a1 i hv).1; omega
  · rcases hb with hb | ⟨g', hb, hs⟩
    · exact h.a1 g (hb ▸ hg)
    · rw [hb] at hg
      injection hg with hg
      subst hg
      exact ⟨Nat.le_trans h.mine.kp.size hs, fun hf => by have := h.mine.lt _ hf; omega⟩
  · rcases hb with hb | ⟨g', hb, hs⟩
    · exact h.ne g (hb ▸ hg)
    · rw [hb] at hg
      injection hg with hg
      subst hg
      exact fun h2 => by have := h.o2.lt _ h2; omega
/-- The second is a new one. -/
theorem Two.cpy (h : Two w W d s F v1 xs1 v2 xs2) (hk : Kp No W W') (ho : Own W' 5 1 v' ys.length (u8s ys)) (hb : ∀ g, v'.ownBlock = some g → W.heap.size ≤ g) : Two w W' d s F v1 xs1 v' ys :=
  ⟨h.mine.no hk, h.o1.keep hk fun _ _ x => x, ho, h.a1, fun g hg => ⟨Nat.le_trans h.mine.kp.size (hb g hg), fun hf => by have := h.mine.lt _ hf; have := hb g hg; omega⟩, fun g hg h2 => by have := h.o1.lt g hg; have := hb g h2; omega⟩
theorem Mine.two (h : Mine w W d s F) : Two w W d s F (.slice none 0 0) [] (.slice none 0 0) [] :=
  ⟨h, Own.nil _ _ _, Own.nil _ _ _, fun g h => (by cases h), fun g h => (by cases h), fun g h => (by cases h)⟩
/-- The first is a new one, where there was none. -/
theorem Two.fst {a : Option Addr} {n c : Nat} (h : Two w W d s F (.slice none 0 0) [] v2 xs2) (hk : Kp No W W') (ho : Own W' 5 1 (.slice a n c) ys.length (u8s ys)) (hb : ∀ g, (Value.slice a n c).ownBlock = some g → W.heap.size ≤ g) :
    Two w W' d s F (.slice a n c) ys v2 xs2 :=
  h.app hk.of_no ho (by
    cases a with
    | none => exact .inl rfl
    | some ad => exact .inr ⟨ad.block, rfl, hb _ rfl⟩)
end

/-! ### Rows, one behind the other -/
def cat (R : List Row) : List UInt8 := (R.map Row.data).flatten
theorem cat_step (R : List Row) {j : Nat} (h : j < R.length) : cat (R.take (j + 1)) = cat (R.take j) ++ R[j].data := by
  rw [List.take_succ_eq_append_getElem h]
  unfold cat
  rw [List.map_append, List.flatten_append]
  simp
theorem cat_len (R : List Row) : (cat R).length ≤ wt R := by
  induction R with
  | nil => simp [cat]
  | cons r R ih =>
    simp only [cat, wt, List.map_cons, List.flatten_cons, List.length_append, List.sum_cons] at *
    omega
theorem cat_take (R : List Row) (j : Nat) : (cat (R.take j)).length ≤ wt R := Nat.le_trans (cat_len _) (wt_take R j)

end Go.Proofs.Ytenidddbjobblaa
