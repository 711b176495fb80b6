/-
  The reference's disk while one of its functions runs: what it is now, and what has turned.
-/
import Derived.Test.YtenidddbjobblaaRD1
import Derived.Test.YtenidddbjobblaaRD2
import Derived.Test.YtenidddbjobblaaRD5
import Derived.Test.YtenidddbjobblaaLast
import Derived.Test.YtenidddbjobblaaBytes
namespace Go.Proofs.Ytenidddbjobblaa
open Go.RowKit Go.Mer

structure RRun (w W : World) (r room : Nat) (left : Int) (rv : Value) (L : List RFile) (G : Nat → Prop) : Prop where
  c : RC W r room left rv L
  foot : ∀ k, RFP r rv L k → G k ∨ w.heap.size ≤ k
  kp : Kp G w W
section
variable {w W W' : World} {r room : Nat} {left left' : Int} {rv rv' : Value} {L L' L1 L2 : List RFile} {G : Nat → Prop} {f f' : RFile}
theorem RRun.step {S : Nat → Prop} (h : RRun w W r room left rv L G) (hk : Kp S W W') (hS : ∀ k, S k → RFP r rv L k ∨ W.heap.size ≤ k) (hc : RC W' r room left' rv' L') (hf : ∀ k, RFP r rv' L' k → RFP r rv L k ∨ W.heap.size ≤ k) : RRun w W' r room left' rv' L' G := by
  have hsz := h.kp.size
  refine ⟨hc, fun k hk' => ?_, h.kp.trans hk fun i hi hs => ?_⟩
  · rcases hf k hk' with h1 | h1
    · exact h.foot k h1
    · exact .inr (Nat.le_trans hsz h1)
  · rcases hS i hs with h1 | h1
    · rcases h.foot i h1 with h2 | h2
      · exact h2
      · omega
    · omega
theorem RRun.step2 {S : Nat → Prop} (h : RRun w W r room left rv L G) (hk : Kp S W W') (hS : ∀ k, S k → RFP r rv L k ∨ W.heap.size ≤ k) (hc : RC W' r room left' rv' L') (hf : ∀ k, RFP r rv' L' k → G k ∨ w.heap.size ≤ k) : RRun w W' r room left' rv' L' G := by
  have hsz := h.kp.size
  refine ⟨hc, hf, h.kp.trans hk fun i hi hs => ?_⟩
  rcases hS i hs with h1 | h1
  · rcases h.foot i h1 with h2 | h2
    · exact h2
    · omega
  · omega
theorem RRun.no (h : RRun w W r room left rv L G) (hk : Kp No W W') : RRun w W' r room left rv L G := h.step hk (fun _ x => x.elim) (h.c.keep_no hk) (fun _ x => .inl x)
theorem RRun.start {s : DSt} (h : RAt w r s G) : ∃ rv L, RRun w w r s.room (leftOf s.fuse) rv L G ∧ (absR L).Perm s.files ∧ ∀ k, G k → k < w.heap.size := by
  obtain ⟨rv, L, h1, h2, h3, h4⟩ := h
  exact ⟨rv, L, ⟨h1, fun k hk => .inl (h3 k hk), Kp.refl _ _⟩, h2, h4⟩
theorem RRun.stop {q : Int} {s : DSt} (h : RRun w W r s.room (leftOf s.fuse) rv L G) (hp : (absR L).Perm s.files) : SaidR w r G (q, s) (.returned (.int .i64 q)) W :=
  ⟨rfl, RFP r rv L, ⟨rv, L, h.c, hp, fun _ x => x, h.c.lt⟩, h.foot, h.kp⟩
/-- The fuse's number. -/
theorem RRun.setLeft (h : RRun w W r room left rv L G) (hc : RC W' r room left' rv L) (hk : Kp (One r) W W') : RRun w W' r room left' rv L G :=
  h.step hk (fun k (e : k = r) => .inl (.inl e)) hc (fun _ x => .inl x)
/-- A file of the row turned. -/
theorem RRun.turn (h : RRun w W r room left rv (L1 ++ f :: L2) G) (hn : f'.name = f.name) (hk : Kp (fun k => rv.ownBlock = some k) W W') (hrow : Own W' 77 3 rv (L1 ++ f' :: L2).length ((L1 ++ f' :: L2).flatMap RFile.cells)) (hok : RFileOk W' f')
    (hfo : ∀ g, f'.val.ownBlock = some g → f.val.ownBlock = some g ∨ W.heap.size ≤ g) (hfit : totF (absR (L1 ++ f' :: L2)) ≤ room) : RRun w W' r room left rv (L1 ++ f' :: L2) G := by
  have hc := h.c
  have hlen : (L1 ++ f' :: L2).length = (L1 ++ f :: L2).length := by simp
  have hother : ∀ g, g ∈ L1 ∨ g ∈ L2 → RFileOk W' g := fun g hg => by
    have hg' : g ∈ L1 ++ f :: L2 := by rcases hg with hg | hg <;> simp [hg]
    exact (hc.files g hg').keep hk fun k hk1 hk2 => (hc.data_ne hg' hk1).2 hk2
  refine h.step hk (fun k hk' => .inl (.inr (.inl hk'))) ⟨hk.get hc.cell fun hr => hc.row_ne hr rfl, hrow, fun g hg => ?_, sorted_turn hc.sorted hn, hfit, hc.roomy, by rw [hlen]; exact hc.few, hc.left0, hc.leftM⟩ fun k hk' => ?_
  · rcases List.mem_append.1 hg with hg | hg
    · exact hother g (.inl hg)
    · rcases List.mem_cons.1 hg with rfl | hg
      · exact hok
      · exact hother g (.inr hg)
  · rcases hk' with hk' | hk' | ⟨g, hg, hk'⟩
    · exact .inl (.inl hk')
    · exact .inl (.inr (.inl hk'))
    · rcases List.mem_append.1 hg with hg | hg
      · exact .inl (.inr (.inr ⟨g, by simp [hg], hk'⟩))
      · rcases List.mem_cons.1 hg with rfl | hg
        · rcases hfo k hk' with h1 | h1
          · exact .inl (.inr (.inr ⟨f, by simp, h1⟩))
          · exact .inr h1
        · exact .inl (.inr (.inr ⟨g, by simp [hg], hk'⟩))
/-- Another row. -/
theorem RRun.row (h : RRun w W r room left rv L G) (hk : Kp (One r) W W') (hcell : W'.heap[r]? = some (.cells #[.int .i64 (room : Int), rv', .int .i64 left] 75 (0, 0))) (hrow : Own W' 77 3 rv' L'.length (L'.flatMap RFile.cells))
    (hfresh : ∀ g, rv'.ownBlock = some g → RFP r rv L g ∨ W.heap.size ≤ g) (hfiles : ∀ f ∈ L', f ∈ L ∨ (RFileOk W' f ∧ ∀ g, f.val.ownBlock = some g → G g ∨ w.heap.size ≤ g)) (hs : SortedR L') (hfit : totF (absR L') ≤ room) (hfew : L'.length ≤ 4096) :
    RRun w W' r room left rv' L' G := by
  have hc := h.c
  refine h.step2 hk (fun k (e : k = r) => .inl (.inl e)) ⟨hcell, hrow, fun g hg => ?_, hs, hfit, hc.roomy, hfew, hc.left0, hc.leftM⟩ fun k hk' => ?_
  · rcases hfiles g hg with h1 | ⟨h1, _⟩
    · exact (hc.files g h1).keep hk fun k hk1 (e : k = r) => (hc.data_ne h1 hk1).1 e
    · exact h1
  · rcases hk' with hk' | hk' | ⟨g, hg, hk'⟩
    · exact h.foot k (.inl hk')
    · rcases hfresh k hk' with h1 | h1
      · exact h.foot k h1
      · exact .inr (Nat.le_trans h.kp.size h1)
    · rcases hfiles g hg with h1 | ⟨_, h1⟩
      · exact h.foot k (.inr (.inr ⟨g, h1, hk'⟩))
      · exact h1 k hk'
theorem absR_append (L1 L2 : List RFile) : absR (L1 ++ L2) = absR L1 ++ absR L2 := by simp [absR]
theorem absR_cons (f : RFile) (L : List RFile) : absR (f :: L) = (f.name, ⟨f.data, f.lasts⟩) :: absR L := rfl
theorem totF_mid (L1 : List RFile) (f : RFile) (L2 : List RFile) : totF (absR (L1 ++ f :: L2)) = totF (absR (L1 ++ L2)) + f.data.length := by
  rw [absR_append, absR_cons, totF_append, totF_cons, absR_append, totF_append]
  simp only
  omega
/-- What the document's files are where a file was turned, put, taken. -/
theorem perm_turn {S : Files} (hs : SortedR (L1 ++ f :: L2)) (hp : (absR (L1 ++ f :: L2)).Perm S) (hn : f'.name = f.name) : (absR (L1 ++ f' :: L2)).Perm (gset S f.name ⟨f'.data, f'.lasts⟩) := by
  have h1 := gset_perm hp f.name (⟨f'.data, f'.lasts⟩ : FileS)
  have hk := hs.keys
  rw [absR_append, absR_cons] at h1 hk
  rw [gset_split hk] at h1
  rw [absR_append, absR_cons, hn]
  exact h1
theorem perm_put {S : Files} (hs : SortedR (L1 ++ f :: L2)) (hp : (absR (L1 ++ L2)).Perm S) : (absR (L1 ++ f :: L2)).Perm (gset S f.name ⟨f.data, f.lasts⟩) := by
  refine List.Perm.trans ?_ (gset_perm hp f.name (⟨f.data, f.lasts⟩ : FileS))
  have hk := hs.keys
  rw [absR_append, absR_cons] at hk ⊢
  rw [absR_append]
  refine gset_mid _ fun hm => ?_
  rw [List.map_append, List.map_cons, List.nodup_append] at hk
  rw [List.map_append] at hm
  rcases List.mem_append.1 hm with hm | hm
  · exact hk.2.2 _ hm _ (List.mem_cons_self ..) rfl
  · exact (List.nodup_cons.1 hk.2.1).1 hm
theorem perm_del {S : Files} (hs : SortedR (L1 ++ f :: L2)) (hp : (absR (L1 ++ f :: L2)).Perm S) : (absR (L1 ++ L2)).Perm (gdel S f.name) := by
  have h1 := gdel_perm hp f.name
  have hk := hs.keys
  rw [absR_append, absR_cons] at h1 hk
  rw [gdel_mid hk] at h1
  rw [absR_append]
  exact h1
end
theorem infoRFile : (Try.prog.info? 77).map (fun i => ((i.zero.map fun z => z.cells.size), i.size, i.bytes)) = some (some 3, 3, 48) := by kernel_rfl
/-- Own's row where one of its cells is stored. -/
theorem row_set {W : World} {g off n cap : Nat} {L1 L2 : List RFile} {f f' : RFile} {j : Nat} {u : Value} (h : Own W 77 3 (.slice (some ⟨g, off, none⟩) n cap) n ((L1 ++ f :: L2).flatMap RFile.cells)) (hn : n = (L1 ++ f :: L2).length) (hj : j < 3) (hu : f.cells.set j u = f'.cells) :
    Own (W.setCell ⟨g, off + L1.length * 3 + j, none⟩ u) 77 3 (.slice (some ⟨g, off, none⟩) n cap) (L1 ++ f' :: L2).length ((L1 ++ f' :: L2).flatMap RFile.cells) := by
  have hlt : L1.length < (L1 ++ f :: L2).length := by simp
  have h1 := own_set h (L1.length * 3 + j) (by rw [hn]; simp; omega) u
  have hget : (L1 ++ f :: L2)[L1.length] = f := by simp
  rw [chunk_set RFile.cells 3 RFile.cells_len _ hlt hj (x := f') (by rw [hget]; exact hu)] at h1
  have hs : (L1 ++ f :: L2).set L1.length f' = L1 ++ f' :: L2 := by simp
  rw [hs] at h1
  rw [Nat.add_assoc]
  have e : n = (L1 ++ f' :: L2).length := by rw [hn]; simp
  rw [← e]
  exact h1
section
variable {w V W : World} {r room n rcap g off : Nat} {left : Int} {rv : Value} {L1 L2 : List RFile} {G : Nat → Prop} {f f' : RFile}
/-- The cells of the struct and of one file, in every world that is one but for what is new. -/
structure RCells (W : World) (r g off n rcap : Nat) (i : Nat) (f : RFile) : Prop where
  c1 : W.cell? ⟨r, 1, none⟩ = some (.slice (some ⟨g, off, none⟩) n rcap)
  d0 : W.cell? ⟨g, off + i * 3, none⟩ = some (.string f.name)
  d1 : W.cell? ⟨g, off + i * 3 + 1, none⟩ = some (.slice f.a f.data.length f.cap)
  d2 : W.cell? ⟨g, off + i * 3 + 2, none⟩ = some (.int .i64 (f.lasts : Int))
  fr : ∀ o, W.frozen? ⟨r, o, none⟩ = false
  fg : ∀ o, W.frozen? ⟨g, o, none⟩ = false
  rl : r < W.heap.size
  gl : g < W.heap.size
theorem RC.at_ (h : RC V r room left rv (L1 ++ f :: L2)) : ∃ g off rcap n, n = (L1 ++ f :: L2).length ∧ L1.length < n ∧ n ≤ rcap ∧ g ≠ r ∧ rv = .slice (some ⟨g, off, none⟩) n rcap ∧ ∀ W, Kp No V W → RCells W r g off n rcap L1.length f := by
  obtain ⟨ra, rcap, rfl, hrc, hrd⟩ := h.row.rd
  obtain ⟨g, off, rfl, hgl, _⟩ := h.row.place (by simp; omega)
  have hlt : L1.length < (L1 ++ f :: L2).length := by simp
  have hget : (L1 ++ f :: L2)[L1.length] = f := by simp
  obtain ⟨g', off', hg', hc⟩ := rd_chunk (f := RFile.cells) (c := 3) RFile.cells_len (by decide) hrd hlt
  injection hg' with hg'
  injection hg' with e1 e2
  subst e1; subst e2
  rw [hget] at hc
  refine ⟨g, off, rcap, _, rfl, hlt, hrc, h.row_ne rfl, rfl, fun W hW => ?_⟩
  have hC := h.keep_no hW
  obtain ⟨_, _, hgg, hgl2, hfz⟩ := hC.row.place (by simp; omega)
  injection hgg with hgg
  injection hgg with e1 _
  subst e1
  refine ⟨by rw [cell_at hC.cell]; rfl, ?_, hc W hW 1 _ rfl, hc W hW 2 _ rfl, fun o => free_at hC.cell o, hfz, get_lt hC.cell, hgl2⟩
  have := hc W hW 0 _ rfl
  rwa [Nat.add_zero] at this
/-- One of a file's cells stored. -/
theorem RRun.setAt (h : RRun w V r room left (.slice (some ⟨g, off, none⟩) n rcap) (L1 ++ f :: L2) G) (hn : n = (L1 ++ f :: L2).length) (hW : Kp No V W) (j : Nat) (u : Value) (hj : j < 3) (f' : RFile) (hu : f.cells.set j u = f'.cells) (hnm : f'.name = f.name) (hok : RFileOk W f')
    (hfo : ∀ k, f'.val.ownBlock = some k → f.val.ownBlock = some k ∨ V.heap.size ≤ k) (hfit : totF (absR (L1 ++ f' :: L2)) ≤ room) :
    RRun w (W.setCell ⟨g, off + L1.length * 3 + j, none⟩ u) r room left (.slice (some ⟨g, off, none⟩) n rcap) (L1 ++ f' :: L2) G := by
  have hC := h.c.keep_no hW
  have hs : Kp (One g) W (W.setCell ⟨g, off + L1.length * 3 + j, none⟩ u) := (Kp.refl (One g) _).setCell (p := ⟨g, off + L1.length * 3 + j, none⟩) (.inl rfl) u
  have hrow : Own W 77 3 (.slice (some ⟨g, off, none⟩) n rcap) n ((L1 ++ f :: L2).flatMap RFile.cells) := by have := hC.row; rwa [← hn] at this
  obtain ⟨cur, hcur⟩ := hrow.type g rfl
  refine h.turn hnm ((Kp.of_no hW).trans hs fun k _ (e : k = g) => by show some g = some k; rw [e]) (row_set hrow hn hj hu) (hok.keep hs fun k hk (e : k = g) => ?_) hfo hfit
  obtain ⟨cur', hcur'⟩ := hok.1.type k hk
  exact ne_of_type hcur' hcur (by decide) e
end
theorem row_cells {W : World} {g off n rcap : Nat} {L1 L2 : List RFile} {f : RFile} (h : Own W 77 3 (.slice (some ⟨g, off, none⟩) n rcap) n ((L1 ++ f :: L2).flatMap RFile.cells)) :
    W.cell? ⟨g, off + L1.length * 3, none⟩ = some (.string f.name) ∧ W.cell? ⟨g, off + L1.length * 3 + 1, none⟩ = some (.slice f.a f.data.length f.cap) ∧ W.cell? ⟨g, off + L1.length * 3 + 2, none⟩ = some (.int .i64 (f.lasts : Int)) := by
  have hlt : L1.length < (L1 ++ f :: L2).length := by simp
  have hget : (L1 ++ f :: L2)[L1.length] = f := by simp
  obtain ⟨g', off', hg', hc⟩ := rd_chunk (f := RFile.cells) (c := 3) RFile.cells_len (by decide) h.rd' hlt
  injection hg' with hg'
  injection hg' with e1 e2
  subst e1; subst e2
  rw [hget] at hc
  have h0 := hc W (Kp.refl _ _) 0 _ rfl
  rw [Nat.add_zero] at h0
  exact ⟨h0, hc W (Kp.refl _ _) 1 _ rfl, hc W (Kp.refl _ _) 2 _ rfl⟩
/-- Two of a file's cells stored, one behind the other. -/
theorem RRun.setAt2 {w V W W1 W2 : World} {r room n rcap g off : Nat} {left : Int} {L1 L2 : List RFile} {G : Nat → Prop} {f f1 f2 : RFile} {u1 u2 : Value} {j1 j2 : Nat}
    (h : RRun w V r room left (.slice (some ⟨g, off, none⟩) n rcap) (L1 ++ f :: L2) G) (hn : n = (L1 ++ f :: L2).length) (hW : Kp No V W) (hj1 : j1 < 3) (hu1 : f.cells.set j1 u1 = f1.cells) (h1 : W1 = W.setCell ⟨g, off + L1.length * 3 + j1, none⟩ u1) (hW2 : Kp No W1 W2)
    (hj2 : j2 < 3) (hu2 : f1.cells.set j2 u2 = f2.cells) (hnm : f2.name = f.name) (hok : RFileOk W f2) (hfo : ∀ k, f2.val.ownBlock = some k → f.val.ownBlock = some k ∨ V.heap.size ≤ k) (hfit : totF (absR (L1 ++ f2 :: L2)) ≤ room) :
    RRun w (W2.setCell ⟨g, off + L1.length * 3 + j2, none⟩ u2) r room left (.slice (some ⟨g, off, none⟩) n rcap) (L1 ++ f2 :: L2) G := by
  have hC := h.c.keep_no hW
  have s1 : Kp (One g) W W1 := by rw [h1]; exact (Kp.refl (One g) _).setCell (p := ⟨g, off + L1.length * 3 + j1, none⟩) (.inl rfl) u1
  have s2 : Kp (One g) W2 (W2.setCell ⟨g, off + L1.length * 3 + j2, none⟩ u2) := (Kp.refl (One g) _).setCell (p := ⟨g, off + L1.length * 3 + j2, none⟩) (.inl rfl) u2
  have hall : Kp (One g) W (W2.setCell ⟨g, off + L1.length * 3 + j2, none⟩ u2) := (s1.trans_no hW2).trans_same s2
  have hrow : Own W 77 3 (.slice (some ⟨g, off, none⟩) n rcap) n ((L1 ++ f :: L2).flatMap RFile.cells) := by have := hC.row; rwa [← hn] at this
  obtain ⟨cur, hcur⟩ := hrow.type g rfl
  have hr1 := row_set hrow hn hj1 hu1
  rw [← h1] at hr1
  have e1 : (L1 ++ f1 :: L2).length = n := by rw [hn]; simp
  rw [e1] at hr1
  have hr2 := row_set (hr1.keep hW2 fun _ _ x => x) e1.symm hj2 hu2
  refine h.turn hnm ((Kp.of_no hW).trans hall fun k _ (e : k = g) => by show some g = some k; rw [e]) hr2 (hok.keep hall fun k hk (e : k = g) => ?_) hfo hfit
  obtain ⟨cur', hcur'⟩ := hok.1.type k hk
  exact ne_of_type hcur' hcur (by decide) e
/-- A new row, laid. -/
theorem RRun.laid {w V w9 : World} {r room N c9 : Nat} {left : Int} {rv : Value} {a9 : Option Addr} {L Q : List RFile} {G : Nat → Prop} (h : RRun w V r room left rv L G) (hm : RowRel 77 3 RFile.cells V w9 (.slice a9 N c9) N Q)
    (hfiles : ∀ f ∈ Q, f ∈ L ∨ (RFileOk w9 f ∧ ∀ g, f.val.ownBlock = some g → G g ∨ w.heap.size ≤ g)) (hs : SortedR Q) (hfit : totF (absR Q) ≤ room) (hfew : Q.length ≤ 4096) :
    RRun w (w9.setCell ⟨r, 1, none⟩ (.slice a9 N c9)) r room left (.slice a9 N c9) Q G ∧ w9.cell? ⟨r, 1, none⟩ = some rv ∧ w9.frozen? ⟨r, 1, none⟩ = false ∧ r < w9.heap.size := by
  have hk9 := hm.2.2.2
  have hc9 := (h.c.keep_no hk9).cell
  have hs9 : Kp (One r) w9 (w9.setCell ⟨r, 1, none⟩ (.slice a9 N c9)) := (Kp.refl (One r) _).setCell (p := ⟨r, 1, none⟩) (.inl rfl) _
  have hrl : r < V.heap.size := get_lt h.c.cell
  refine ⟨h.row ((Kp.of_no hk9).trans_same hs9) ?_ ?_ (fun g hg => .inr (hm.2.2.1 g hg)) (fun f hf => ?_) hs hfit hfew, ?_, free_at hc9 _, get_lt hc9⟩
  · have := set_at hc9 1 (.slice a9 N c9)
    simpa using this
  · have h1 := hm.2.1.keep hs9 fun g hg (e : g = r) => by have := hm.2.2.1 g hg; omega
    have e := hm.1
    rw [e] at h1 ⊢
    exact h1
  · rcases hfiles f hf with h1 | ⟨h1, h2⟩
    · exact .inl h1
    · refine .inr ⟨h1.keep hs9 fun g hg (e : g = r) => ?_, h2⟩
      obtain ⟨cur, hcur⟩ := h1.1.type g hg
      exact ne_of_type hcur hc9 (by decide) e
  · rw [cell_at hc9]
    rfl
theorem five9 {s : DSt} (h : s.fuse = some 0) (ns : List ByteArray) (c : Int) (fs : Files) : five s ns c fs = (9, s) := by simp [five, h]
theorem five1 {s : DSt} (h : s.fuse ≠ some 0) {ns : List ByteArray} (hn : ns.all nameOk = false) (c : Int) (fs : Files) : five s ns c fs = (1, s) := by simp [five, h, hn]
theorem fiveE {s : DSt} (h : s.fuse ≠ some 0) {ns : List ByteArray} (hn : ns.all nameOk = true) {c : Int} (hc : c ≠ 0) (fs : Files) : five s ns c fs = (c, s) := by simp [five, h, hn, hc]
theorem five0 {s : DSt} (h : s.fuse ≠ some 0) {ns : List ByteArray} (hn : ns.all nameOk = true) {c : Int} (hc : c = 0) (fs : Files) : five s ns c fs = (0, { s with fuse := s.fuse.map (· - 1), files := fs }) := by simp [five, h, hn, hc]
theorem left_zero (f : Option Nat) : leftOf f = 0 ↔ f = some 0 := by
  cases f with
  | none => simp [leftOf]
  | some n => simp [leftOf]
/-- may's answer. -/
def mayQ (f : Option Nat) (ns : List ByteArray) : Int := if leftOf f = 0 then 9 else if ns.all nameOk = true then 0 else 1
theorem mayQ_cases (f : Option Nat) (ns : List ByteArray) : (f = some 0 ∧ mayQ f ns = 9) ∨ (f ≠ some 0 ∧ ns.all nameOk = false ∧ mayQ f ns = 1) ∨ (f ≠ some 0 ∧ ns.all nameOk = true ∧ mayQ f ns = 0) := by
  unfold mayQ
  by_cases h : f = some 0
  · exact .inl ⟨h, if_pos ((left_zero f).2 h)⟩
  · rw [if_neg (fun e => h ((left_zero f).1 e))]
    cases hn : ns.all nameOk with
    | false => exact .inr (.inl ⟨h, rfl, rfl⟩)
    | true => exact .inr (.inr ⟨h, rfl, rfl⟩)
end Go.Proofs.Ytenidddbjobblaa
