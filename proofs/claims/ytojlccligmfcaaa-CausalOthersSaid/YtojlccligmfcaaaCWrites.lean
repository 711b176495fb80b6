/-
  Of events all writes: causal's Writes.
-/
import Derived.Test.YtojlccligmfcaaaCaus
import Derived.Test.YtojlccligmfcaaaClone
import Derived.Test.YtojlccligmfcaaaWide
import Derived.WalkKit
import Derived.WalkSpells
import Derived.WalkLawsBesides
import Derived.Deep.Cut
import Derived.Outline
namespace Go.Mer
open Go Go.RowKit
/-- A write, without where its bytes lie. -/
structure WrP where
  who : Int
  key : ByteArray
  m : Int
  c : Int
  origin : Int
  val : List UInt8
  gone : Bool
  ttl : Int
  unsure : Bool
structure WrR where
  p : WrP
  a : Option Addr
  cap : Nat
def WrR.cells (r : WrR) : List Value := [.int .i64 r.p.who, .string r.p.key, .int .i64 r.p.m, .int .i64 r.p.c, .int .i64 r.p.origin, .slice r.a r.p.val.length r.cap, .bool r.p.gone, .int .i64 r.p.ttl, .bool r.p.unsure]
theorem WrR.cells_len (r : WrR) : r.cells.length = 9 := rfl
theorem WrR.cells_one (r : WrR) : ∀ u ∈ r.cells, u.oneCell' = true := by
  intro u hu
  simp only [WrR.cells, List.mem_cons, List.not_mem_nil, or_false] at hu
  rcases hu with rfl | rfl | rfl | rfl | rfl | rfl | rfl | rfl | rfl <;> rfl
/-- What an event wrote. -/
def wrF (x : EvR) : Option WrP :=
  if (x.s.kind = 1 ∨ x.s.kind = 2) ∧ (x.r.err = 0 ∨ x.r.err = 9) then
    some ⟨x.who, x.s.key, if x.r.err = 0 then x.r.t1 else 0, if x.r.err = 0 then x.r.t2 else 0, x.s.node, if x.s.kind = 2 then [] else x.s.val, decide (x.s.kind = 2), if x.s.kind = 2 then 0 else x.s.n, decide (x.r.err = 9)⟩
  else none
structure WrsAt (w : World) (a : Option Addr) (R : List WrR) : Prop where
  top : Rd w w.heap.size a (R.flatMap WrR.cells)
  each : ∀ r ∈ R, Rd w w.heap.size r.a (u8s r.p.val)
theorem WrsAt.keep {w w' : World} {a : Option Addr} {R : List WrR} (h : WrsAt w a R) (hk : Kp No w w') : WrsAt w' a R := ⟨h.top.kp hk, fun r hr => (h.each r hr).kp hk⟩
end Go.Mer
namespace Go.Proofs.Ytojlccligmfcaaa
open Go.RowKit Go.Mer

/-- While writes are gathered in a slice of one's own, of elements of type E. -/
def WRel (E : Nat) (w0 wr : World) (v : Value) (n : Nat) (Q : List WrP) : Prop :=
  ∃ R : List WrR, n = R.length ∧ R.map (·.p) = Q ∧ Own wr E 9 v n (R.flatMap WrR.cells) ∧ (∀ g, v.ownBlock = some g → w0.heap.size ≤ g) ∧
    (∀ r ∈ R, Own wr 5 1 (.slice r.a r.p.val.length r.cap) r.p.val.length (u8s r.p.val)) ∧ Kp No w0 wr
theorem WRel.kp {E : Nat} {w0 wr : World} {v : Value} {n : Nat} {Q : List WrP} (h : WRel E w0 wr v n Q) : Kp No w0 wr := by obtain ⟨R, _, _, _, _, _, h⟩ := h; exact h
theorem WRel.nil (E : Nat) (w : World) : WRel E w w (.slice none 0 0) 0 [] := ⟨[], rfl, rfl, by simpa using Own.nil w E 9, fun g h => by simp [Value.ownBlock] at h, by simp, Kp.refl _ _⟩
theorem WRel.keep {E : Nat} {w0 wr W : World} {v : Value} {n : Nat} {Q : List WrP} (h : WRel E w0 wr v n Q) (hk : Kp No wr W) : WRel E w0 W v n Q := by
  obtain ⟨R, h1, h2, h3, h4, h5, h6⟩ := h
  exact ⟨R, h1, h2, h3.keep hk fun _ _ x => x, h4, fun r hr => (h5 r hr).keep hk fun _ _ x => x, h6.trans_same hk⟩
/-- append(v, a literal of one write). -/
theorem WRel.app {E T : Nat} (hE : (Try.prog.info? E).map (fun i => ((i.zero.map fun z => z.cells.size), i.size, i.bytes)) = some (some 9, 9, 96)) (hT : Try.prog.underlying T = some (.slice E)) (hne : E ≠ 5)
    {w0 wr : World} {v : Value} {n : Nat} {Q : List WrP} (h : WRel E w0 wr v n Q) {W : World} (hk : Kp No wr W) (r : WrR)
    (hr : Own W 5 1 (.slice r.a r.p.val.length r.cap) r.p.val.length (u8s r.p.val)) (hn : n ≤ 1000) (cs : Array Value) (hcs : cs.toList = r.cells) :
    ∃ a' c' W', (Builtin.append_ #[T, T] T #[v, .slice (some ⟨W.heap.size, 0, none⟩) 1 1]).run Try.prog (W.alloc (.cells cs E)) = .ok (.slice a' (n + 1) c') W' ∧ WRel E w0 W' (.slice a' (n + 1) c') (n + 1) (Q ++ [r.p]) := by
  obtain ⟨R, rfl, h2, h3, h4, h5, h6⟩ := h
  obtain ⟨i0, hi, hz⟩ := Option.map_eq_some_iff.1 hE
  injection hz with hz0 hz
  injection hz with hz1 hz2
  obtain ⟨z, hz, hz3⟩ := Option.map_eq_some_iff.1 hz0
  have hka : Kp No W (W.alloc (.cells cs E)) := (Kp.refl _ _).alloc _
  have hown := (h3.keep hk fun _ _ x => x).keep hka fun _ _ x => x
  have hsrc : Src (W.alloc (.cells cs E)) 9 (.slice (some ⟨W.heap.size, 0, none⟩) 1 1) 1 r.cells :=
    ⟨by rw [r.cells_len], some ⟨W.heap.size, 0, none⟩, 1, rfl, Rd.row (n := 9) (heap_alloc_new W _) (by rw [List.drop_zero, hcs]; exact List.take_of_length_le (by rw [r.cells_len]; omega)) (by simp) (Nat.le_refl _)⟩
  obtain ⟨v', w', hrun, ho, hkp, hblk⟩ := run_append_Own (P := Try.prog) T T T E i0 z 9 96 hT ⟨_, hT⟩ hi hz hz1 hz2 hz3 v R.length _ hown (.slice (some ⟨W.heap.size, 0, none⟩) 1 1) 1 r.cells hsrc r.cells_one (by unfold maxLen; omega) (by omega)
  obtain ⟨_, a', c', rfl, _⟩ := id ho
  have hbyte : ∀ (a : Option Addr) (l c : Nat) (xs : List Value) (m : Nat), Own (W.alloc (.cells cs E)) 5 1 (.slice a l c) m xs → Own w' 5 1 (.slice a l c) m xs := fun a l c xs m ho' => by
    refine ho'.keep hkp fun g hg hs => ?_
    obtain ⟨c1, b1⟩ := ho'.type g hg
    obtain ⟨c2, b2⟩ := hown.type g hs
    exact ne_of_type b2 b1 hne rfl
  have hno : Kp No w0 w' := ((h6.trans_same hk).trans_same hka).trans hkp fun i hi hs => by
    have := h4 i hs
    omega
  refine ⟨a', c', w', hrun, R ++ [r], by simp, by simp [h2], ?_, fun g hg => ?_, fun r' hr' => ?_, hno⟩
  · rw [List.flatMap_append]
    simpa using ho
  · rcases hblk with hb | ⟨g2, hb, hb2⟩
    · exact h4 g (hb.symm.trans hg)
    · obtain rfl := Option.some.inj (hb.symm.trans hg)
      have h7 := ((h6.trans_same hk).trans_same hka).size
      omega
  · rcases List.mem_append.1 hr' with hr' | hr'
    · exact hbyte _ _ _ _ _ (((h5 r' hr').keep hk fun _ _ x => x).keep hka fun _ _ x => x)
    · obtain rfl := List.mem_singleton.1 hr'
      exact hbyte _ _ _ _ _ (hr.keep hka fun _ _ x => x)
theorem wr_cells {W : World} {b : Nat} {v0 v1 v2 v3 v4 v5 v6 v7 v8 : Value} {t : TypeId} (h : W.heap[b]? = some (.cells #[v0, v1, v2, v3, v4, v5, v6, v7, v8] t (0, 0))) :
    W.cell? ⟨b, 0, none⟩ = some v0 ∧ W.cell? ⟨b, 1, none⟩ = some v1 ∧ W.cell? ⟨b, 2, none⟩ = some v2 ∧ W.cell? ⟨b, 3, none⟩ = some v3 ∧ W.cell? ⟨b, 4, none⟩ = some v4 ∧ W.cell? ⟨b, 5, none⟩ = some v5 ∧ W.cell? ⟨b, 6, none⟩ = some v6 ∧ W.cell? ⟨b, 7, none⟩ = some v7 ∧ W.cell? ⟨b, 8, none⟩ = some v8 := by
  rw [cell_at h, cell_at h, cell_at h, cell_at h, cell_at h, cell_at h, cell_at h, cell_at h, cell_at h]
  exact ⟨rfl, rfl, rfl, rfl, rfl, rfl, rfl, rfl, rfl⟩
def WritesP (w : World) (L : List EvR) (e : Ending) (w' : World) : Prop := ∃ (b : Option Addr) (cap : Nat) (R : List WrR), e = .returned (.slice b R.length cap) ∧ R.map (·.p) = L.filterMap wrF ∧ WrsAt w' b R ∧ Kp No w w'
theorem WRel.done {E : Nat} {w0 wr : World} {a : Option Addr} {n c : Nat} {Q : List WrP} (h : WRel E w0 wr (.slice a n c) n Q) : ∃ R : List WrR, n = R.length ∧ R.map (·.p) = Q ∧ WrsAt wr a R ∧ Kp No w0 wr := by
  obtain ⟨R, h1, h2, h3, h4, h5, h6⟩ := h
  exact ⟨R, h1, h2, ⟨h3.rd', fun r hr => (h5 r hr).rd'⟩, h6⟩
theorem infoWrite : (Try.prog.info? 37).map (fun i => ((i.zero.map fun z => z.cells.size), i.size, i.bytes)) = some (some 9, 9, 96) := by kernel_rfl
theorem wrF_no1 {x : EvR} (h1 : x.s.kind ≠ 1) (h2 : x.s.kind ≠ 2) : wrF x = none := if_neg (by rintro ⟨h | h, _⟩ <;> contradiction)
theorem wrF_no2 {x : EvR} (h1 : x.r.err ≠ 0) (h2 : x.r.err ≠ 9) : wrF x = none := if_neg (by rintro ⟨_, h | h⟩ <;> contradiction)
theorem wrF_B {x : EvR} (h1 : x.s.kind = 1) (h2 : x.r.err = 0) : wrF x = some ⟨x.who, x.s.key, x.r.t1, x.r.t2, x.s.node, x.s.val, false, x.s.n, false⟩ := by simp [wrF, h1, h2]
theorem wrF_C {x : EvR} (h1 : x.s.kind = 1) (h2 : x.r.err = 9) : wrF x = some ⟨x.who, x.s.key, 0, 0, x.s.node, x.s.val, false, x.s.n, true⟩ := by simp [wrF, h1, h2]
theorem wrF_D {x : EvR} (h1 : x.s.kind = 2) (h2 : x.r.err = 0) : wrF x = some ⟨x.who, x.s.key, x.r.t1, x.r.t2, x.s.node, [], true, 0, false⟩ := by simp [wrF, h1, h2]
theorem wrF_E {x : EvR} (h1 : x.s.kind = 2) (h2 : x.r.err = 9) : wrF x = some ⟨x.who, x.s.key, 0, 0, x.s.node, [], true, 0, true⟩ := by simp [wrF, h1, h2]
theorem step_no {L : List EvR} {k : Nat} {x : EvR} (HE : Hid (L.take (k + 1) = L.take k ++ [x])) (h : wrF x = none) : (L.take (k + 1)).filterMap wrF = (L.take k).filterMap wrF := by
  rw [HE.out, List.filterMap_append]
  simp [h]
theorem step_yes {L : List EvR} {k : Nat} {x : EvR} {p : WrP} (HE : Hid (L.take (k + 1) = L.take k ++ [x])) (h : wrF x = some p) : (L.take (k + 1)).filterMap wrF = (L.take k).filterMap wrF ++ [p] := by
  rw [HE.out, List.filterMap_append]
  simp [h]
/-- The cells of an event's and its step's boxes that are read. -/
def EvBox (W : World) (b c : Nat) (x : EvR) : Prop :=
  W.cell? ⟨b, 0, none⟩ = some (.int .i64 x.who) ∧ W.cell? ⟨b, 11, none⟩ = some (.int .i64 x.r.err) ∧ W.cell? ⟨b, 13, none⟩ = some (.int .i64 x.r.t1) ∧ W.cell? ⟨b, 14, none⟩ = some (.int .i64 x.r.t2) ∧
  W.cell? ⟨c, 0, none⟩ = some (.int .i64 x.s.kind) ∧ W.cell? ⟨c, 1, none⟩ = some (.int .i64 x.s.node) ∧ W.cell? ⟨c, 2, none⟩ = some (.int .i64 x.s.n) ∧ W.cell? ⟨c, 7, none⟩ = some (.string x.s.key) ∧ W.cell? ⟨c, 9, none⟩ = some (.slice x.s.va x.s.val.length x.s.vcap)
theorem evBox {W1 : World} {b c : Nat} {x : EvR} {cs ds : Array Value} {t u : TypeId} (h1 : W1.heap[b]? = some (.cells cs t (0, 0))) (h2 : W1.heap[c]? = some (.cells ds u (0, 0))) (hc : cs.toList = x.cells) (hd : ds.toList = x.s.cells) :
    ∀ W, Kp No W1 W → EvBox W b c x := fun W h => by
  obtain ⟨cs⟩ := cs
  obtain ⟨ds⟩ := ds
  have e1 := h.get h1 fun x => x
  have e2 := h.get h2 fun x => x
  have hc : cs = x.cells := hc
  have hd : ds = x.s.cells := hd
  subst hc; subst hd
  unfold EvBox
  rw [cell_at e1, cell_at e1, cell_at e1, cell_at e1, cell_at e2, cell_at e2, cell_at e2, cell_at e2, cell_at e2]
  exact ⟨rfl, rfl, rfl, rfl, rfl, rfl, rfl, rfl, rfl⟩
theorem inforWrite : (Try.prog.info? 38).map (fun i => ((i.zero.map fun z => z.cells.size), i.size, i.bytes)) = some (some 9, 9, 96) := by kernel_rfl
set_option maxRecDepth 100000 in
set_option maxHeartbeats 4000000 in
theorem Writes_any (w : World) (a : Option Addr) (cap : Nat) (L : List EvR) (h : EvsAt w a L) (hl : L.length ≤ 1000) (hv : ∀ x ∈ L, x.s.val.length ≤ 140737488355328) :
    Calls Try.prog 7 #[.slice a L.length cap] w (WritesP w L) := by
  have HA := Lib.hid h
  have HV := Lib.hid hv
  clear h hv
  go_enter Try.func7, Try.ntmps7
  go_wp2_with fail
  rename World => w0
  go_loopw [3, 10] (fun s i wr => ∃ (k nn : Nat) (a' : Option Addr) (c' : Nat), k ≤ L.length ∧ nn ≤ k ∧ i = .int .i64 (k : Int) ∧ s = .slice a' nn c' ∧ Hid (WRel 37 w0 wr (.slice a' nn c') nn ((L.take k).filterMap wrF))) (fun _ i _ => L.length - (intOf i).toNat)
  case atStart => exact ⟨0, 0, none, 0, Nat.zero_le _, Nat.le_refl _, rfl, rfl, Lib.hid (by simpa using WRel.nil 37 w0)⟩
  case round =>
    obtain ⟨k, nn, ao, co, hk, hnk, rfl, rfl, HR⟩ := hrel
    have HKP := Lib.hid HR.out.kp
    by_cases hlt : k < L.length
    · obtain ⟨g, off, rfl, l0⟩ := rd_chunk (f := EvR.cells) (c := 18) EvR.cells_len (by decide) HA.out.top hlt
      have HE := Lib.hid (List.take_succ_eq_append_getElem hlt)
      have hat := (HA.out.each _ (List.getElem_mem hlt)).keep HKP.out
      have hvl := HV.out _ (List.getElem_mem hlt)
      obtain ⟨x, hx⟩ : ∃ x, x = L[k] := ⟨_, rfl⟩
      rw [← hx] at l0 hat HE hvl
      obtain ⟨who, ⟨kind, node, n, m, by_, s1, s2, key, to, va, vcap, val⟩, ⟨err, an, q1, q2, found, aa, acap, aval, pa, pcap, pairs⟩⟩ := x
      have R1 : Hid (wr.rangeAt g (off + k * 18) [.int .i64 who, .int .i64 kind, .int .i64 node, .int .i64 n, .int .i64 m, .int .u8 by_, .int .i64 s1, .int .i64 s2, .string key, .string to, .slice va val.length vcap, .int .i64 err, .int .i64 an, .int .i64 q1, .int .i64 q2, .bool found, .slice aa aval.length acap, .slice pa pairs.length pcap]) := Lib.hid fun j v hv => l0 wr HKP.out j v hv
      have HAT := Lib.hid hat.s.val
      clear hx l0 hat
      simp only at hvl
      obtain ⟨W1, hW1⟩ : ∃ W1, W1 = (wr.alloc (.cells #[.int .i64 who, .int .i64 kind, .int .i64 node, .int .i64 n, .int .i64 m, .int .u8 by_, .int .i64 s1, .int .i64 s2, .string key, .string to, .slice va val.length vcap, .int .i64 err, .int .i64 an, .int .i64 q1, .int .i64 q2, .bool found, .slice aa aval.length acap, .slice pa pairs.length pcap] 47)).alloc (.cells #[.int .i64 kind, .int .i64 node, .int .i64 n, .int .i64 m, .int .u8 by_, .int .i64 s1, .int .i64 s2, .string key, .string to, .slice va val.length vcap] 41) := ⟨_, rfl⟩
      have b1 : W1.heap[wr.heap.size]? = some (.cells #[.int .i64 who, .int .i64 kind, .int .i64 node, .int .i64 n, .int .i64 m, .int .u8 by_, .int .i64 s1, .int .i64 s2, .string key, .string to, .slice va val.length vcap, .int .i64 err, .int .i64 an, .int .i64 q1, .int .i64 q2, .bool found, .slice aa aval.length acap, .slice pa pairs.length pcap] 47 (0, 0)) := by rw [hW1]; exact alloc_far (heap_alloc_new wr _) _
      have b2 : W1.heap[wr.heap.size + 1]? = some (.cells #[.int .i64 kind, .int .i64 node, .int .i64 n, .int .i64 m, .int .u8 by_, .int .i64 s1, .int .i64 s2, .string key, .string to, .slice va val.length vcap] 41 (0, 0)) := by rw [hW1]; exact (congrArg (fun k => ((wr.alloc _).alloc _).heap[k]?) (by simp)).trans (heap_alloc_new (wr.alloc _) _)
      have H1 : Kp No wr W1 := by rw [hW1]; exact ((Kp.refl _ _).alloc _).alloc _
      have HBX := Lib.hid (evBox (x := ⟨who, ⟨kind, node, n, m, by_, s1, s2, key, to, va, vcap, val⟩, ⟨err, an, q1, q2, found, aa, acap, aval, pa, pcap, pairs⟩⟩) b1 b2 rfl rfl)
      have hs1 : wr.heap.size + 1 < W1.heap.size := get_lt b2
      have hs0 : wr.heap.size < W1.heap.size := by omega
      have HH1 := Lib.hid H1
      have b0 := heap_alloc_new wr (.cells #[.int .i64 who, .int .i64 kind, .int .i64 node, .int .i64 n, .int .i64 m, .int .u8 by_, .int .i64 s1, .int .i64 s2, .string key, .string to, .slice va val.length vcap, .int .i64 err, .int .i64 an, .int .i64 q1, .int .i64 q2, .bool found, .slice aa aval.length acap, .slice pa pairs.length pcap] 47)
      have R2 : Hid ((wr.alloc (.cells #[.int .i64 who, .int .i64 kind, .int .i64 node, .int .i64 n, .int .i64 m, .int .u8 by_, .int .i64 s1, .int .i64 s2, .string key, .string to, .slice va val.length vcap, .int .i64 err, .int .i64 an, .int .i64 q1, .int .i64 q2, .bool found, .slice aa aval.length acap, .slice pa pairs.length pcap] 47)).rangeAt wr.heap.size 1 [.int .i64 kind, .int .i64 node, .int .i64 n, .int .i64 m, .int .u8 by_, .int .i64 s1, .int .i64 s2, .string key, .string to, .slice va val.length vcap]) := Lib.hid (rangeAt_block b0 1 10)
      have HW1 := Lib.hid hW1
      clear b0 b1 b2 H1 hW1
      go_upto_region 6 with (first
        | (refine wpList_load_w rfl 47 _ rfl g (off + k * 18) rfl _ _ R1 Try.underlying47 rfl (by kernel_rfl) ?_)
        | (refine wpList_load_w rfl 41 _ rfl wr.heap.size 1 rfl _ _ R2 Try.underlying41 rfl (by kernel_rfl) ?_)
        | (refine wpList_store_w rfl 47 _ _ rfl wr.heap.size (by rfl) _ _ _ rfl rfl (by kernel_rfl) (by rfl) (by rfl) ?_)
        | (refine wpList_store_w rfl 41 _ _ rfl (wr.heap.size + 1) (by simp) _ _ _ rfl rfl (by kernel_rfl) (by rfl) (by rfl) ?_))

      rw [← HW1.out]
      clear HW1 R1 R2
      obtain ⟨d0, d1, d2, d3, d4, d5, d6, d7, d8⟩ := HBX.out W1 (Kp.refl _ _)
      simp only at d0 d1 d2 d3 d4 d5 d6 d7 d8
      have h7 : (kind ≠ 1 ∧ kind ≠ 2) ∨ (kind = 1 ∧ err = 0) ∨ (kind = 1 ∧ err = 9) ∨ (kind = 2 ∧ err = 0) ∨ (kind = 2 ∧ err = 9) ∨ (kind = 1 ∧ err ≠ 0 ∧ err ≠ 9) ∨ (kind = 2 ∧ err ≠ 0 ∧ err ≠ 9) := by omega
      rcases h7 with ⟨hk1, hk2⟩ | ⟨rfl, rfl⟩ | ⟨rfl, rfl⟩ | ⟨rfl, rfl⟩ | ⟨rfl, rfl⟩ | ⟨rfl, he0, he9⟩ | ⟨rfl, he0, he9⟩
      ·
          have f1 : (kind != 1) = true := by simp [hk1]
          have f2 : (kind != 2) = true := by simp [hk2]
          have hst := step_no HE (wrF_no1 hk1 hk2)
          have hw := Lib.hid (HR.out.keep HH1.out)
          rw [← hst] at hw
          clear hst
          go_wp2_with fail
          go_roundw
          case rel => exact ⟨k + 1, nn, ao, co, by omega, by omega, by go_num, rfl, hw⟩
          case measure => simp [intOf]; omega
      ·
          go_upto_region 13 with fail
          obtain ⟨W3, hW3⟩ : ∃ W, W = W1.alloc (.cells #[.int .i64 who, .string key, .int .i64 q1, .int .i64 q2, .int .i64 node, .slice none 0 0, .bool false, .int .i64 0, .bool false] 37) := ⟨_, rfl⟩
          rw [← hW3]
          have b3 : W3.heap[W1.heap.size]? = some (.cells #[.int .i64 who, .string key, .int .i64 q1, .int .i64 q2, .int .i64 node, .slice none 0 0, .bool false, .int .i64 0, .bool false] 37 (0, 0)) := by rw [hW3]; exact heap_alloc_new W1 _
          have H3 : Kp No W1 W3 := by rw [hW3]; exact (Kp.refl _ _).alloc _
          have hs3 : W1.heap.size < W3.heap.size := get_lt b3
          have e2 : ∀ W, Kp No W1 W → W.cell? ⟨wr.heap.size + 1, 2, none⟩ = some (.int .i64 n) := fun W h => (HBX.out W h).2.2.2.2.2.2.1
          have e9 : ∀ W, Kp No W1 W → W.cell? ⟨wr.heap.size + 1, 9, none⟩ = some (.slice va val.length vcap) := fun W h => (HBX.out W h).2.2.2.2.2.2.2.2
          have HCL := Lib.hid (fun n => clone_any va vcap val W3.heap.size (W3.drewN n) ((HAT.out.kp (HH1.out.trans_same H3)).drewN n) hvl)
          have HB3 := Lib.hid b3
          clear hW3 b3 d0 d1 d2 d3 d4 d5 d6 d7 d8
          refine wp_region_held' (Kp No W1) [0,0,2,0,0,0,0,2,0,0,2] [0,1,3,4,2,5,6,7,8,9,10] (by kernel_rfl) (by kernel_rfl) (fun _ n h => h.drewN n) H3 ?_
          repeat (first
            | (apply wpOrd_skip rfl (by decide) rfl; (focus (go_simp; rfl)))
            | (apply wpOrd_pure rfl rfl rfl; (focus (intro _ _; go_simp; (try go_ints); rfl)); (focus (go_simp; rfl)))
            | (apply wpOrd_read rfl rfl rfl; (focus (intro _; go_simp; (try go_ints); rfl)); (focus (go_simp; rfl))))
          refine wpOrd_eff rfl rfl (fun n1 => ?_)
          go_wp2_with fail
          refine (HCL.out n1).mono ?_
          rintro e w4 ⟨v, rfl, ho, hk4, hg4⟩
          obtain ⟨_, a4, c4, rfl, _⟩ := id ho
          have K4 : Kp No W3 w4 := hk4.of_drewN
          have H4 : Kp No W1 w4 := H3.trans_same K4
          have HO4 := Lib.hid ho
          have HG4 := Lib.hid hg4
          have HB4 := Lib.hid (K4.get HB3.out fun x => x)
          have HK34 := Lib.hid K4
          clear hk4 ho hg4 K4
          go_wp2_with fail
          repeat (first
            | (apply wpOrd_skip rfl (by decide) rfl; (focus (go_simp; rfl)))
            | (apply wpOrd_pure rfl rfl rfl; (focus (intro _ _; go_simp; (try go_ints); rfl)); (focus (go_simp; rfl)))
            | (apply wpOrd_read rfl rfl rfl; (focus (intro _; go_simp; (try go_ints); rfl)); (focus (go_simp; rfl))))
          refine wpOrd_eff rfl rfl (fun n2 => ?_)
          have q5 : (w4.drewN n2).cell? ⟨W1.heap.size, 5, none⟩ = some (.slice none 0 0) := by rw [cell_at (show (w4.drewN n2).heap[W1.heap.size]? = _ from HB4.out)]; rfl
          have f5 : (w4.drewN n2).frozen? ⟨W1.heap.size, 5, none⟩ = false := free_at (show (w4.drewN n2).heap[W1.heap.size]? = _ from HB4.out) _
          go_wp2_with fail
          obtain ⟨W5, hW5⟩ : ∃ W, W = (w4.drewN n2).setCell ⟨W1.heap.size, 5, none⟩ (.slice a4 val.length c4) := ⟨_, rfl⟩
          rw [← hW5]
          have H5 : Kp No W1 W5 := by rw [hW5]; exact (H4.drewN n2).setCell (.inr (Nat.le_refl _)) _
          have HB5 := Lib.hid (show W5.heap[W1.heap.size]? = some (.cells #[.int .i64 who, .string key, .int .i64 q1, .int .i64 q2, .int .i64 node, .slice a4 val.length c4, .bool false, .int .i64 0, .bool false] 37 (0, 0)) by rw [hW5]; exact set_at (show (w4.drewN n2).heap[W1.heap.size]? = _ from HB4.out) 5 _)
          have K5 := Lib.hid (show Kp (One W1.heap.size) w4 W5 by rw [hW5]; exact ((Kp.refl _ _).drewN n2).setCell (p := ⟨W1.heap.size, 5, none⟩) (.inl (show One W1.heap.size W1.heap.size from rfl)) _)
          clear hW5 q5 f5 H4
          refine ⟨H5, ?_⟩
          repeat (first
            | (apply wpOrd_skip rfl (by decide) rfl; (focus (go_simp; rfl)))
            | (apply wpOrd_pure rfl rfl rfl; (focus (intro _ _; go_simp; (try go_ints); rfl)); (focus (go_simp; rfl)))
            | (apply wpOrd_read rfl rfl rfl; (focus (intro _; go_simp; (try go_ints); rfl)); (focus (go_simp; rfl))))
          refine wpOrd_eff rfl rfl (fun n3 => ?_)
          have q7 : (W5.drewN n3).cell? ⟨W1.heap.size, 7, none⟩ = some (.int .i64 0) := by rw [cell_at (show (W5.drewN n3).heap[W1.heap.size]? = _ from HB5.out)]; rfl
          have f7 : (W5.drewN n3).frozen? ⟨W1.heap.size, 7, none⟩ = false := free_at (show (W5.drewN n3).heap[W1.heap.size]? = _ from HB5.out) _
          go_wp2_with fail
          obtain ⟨W6, hW6⟩ : ∃ W, W = (W5.drewN n3).setCell ⟨W1.heap.size, 7, none⟩ (.int .i64 n) := ⟨_, rfl⟩
          rw [← hW6]
          have H6 : Kp No W1 W6 := by rw [hW6]; exact (H5.drewN n3).setCell (.inr (Nat.le_refl _)) _
          have HB6 := Lib.hid (show W6.heap[W1.heap.size]? = some (.cells #[.int .i64 who, .string key, .int .i64 q1, .int .i64 q2, .int .i64 node, .slice a4 val.length c4, .bool false, .int .i64 n, .bool false] 37 (0, 0)) by rw [hW6]; exact set_at (show (W5.drewN n3).heap[W1.heap.size]? = _ from HB5.out) 7 _)
          have K6 := Lib.hid (show Kp (One W1.heap.size) w4 W6 by rw [hW6]; exact (K5.out.drewN n3).setCell (p := ⟨W1.heap.size, 7, none⟩) (.inl (show One W1.heap.size W1.heap.size from rfl)) _)
          clear hW6 q7 f7 H5 e2 e9
          refine ⟨H6, ?_⟩
          repeat (first
            | (apply wpOrd_skip rfl (by decide) rfl; (focus (go_simp; rfl)))
            | (apply wpOrd_pure rfl rfl rfl; (focus (intro _ _; go_simp; (try go_ints); rfl)); (focus (go_simp; rfl)))
            | (apply wpOrd_read rfl rfl rfl; (focus (intro _; go_simp; (try go_ints); rfl)); (focus (go_simp; rfl))))
          refine wpOrd_nil (fun nq => ?_)
          obtain ⟨W4, hW4⟩ : ∃ W, W = W6.drewN nq := ⟨_, rfl⟩
          have b4 : W4.heap[W1.heap.size]? = some (.cells #[.int .i64 who, .string key, .int .i64 q1, .int .i64 q2, .int .i64 node, .slice a4 val.length c4, .bool false, .int .i64 n, .bool false] 37 (0, 0)) := by rw [hW4]; exact HB6.out
          have HK4 := Lib.hid (show Kp No wr W4 by rw [hW4]; exact (HH1.out.trans_same H6).drewN nq)
          have HO := Lib.hid (show Own W4 5 1 (.slice a4 val.length c4) val.length (u8s val) from HO4.out.keep (by rw [hW4]; exact K6.out.drewN nq) (fun g hg hs => by
            have h1 := HG4.out g hg
            have h2 : (W3.drewN n1).heap.size = W3.heap.size := rfl
            have h3 : g = W1.heap.size := hs
            omega))
          clear H6
          rw [← hW4]
          clear hW4
          skip
          have hR := WRel.app infoWrite Try.underlying24 (by decide) HR.out (W := W4) HK4.out ⟨⟨who, key, q1, q2, node, val, false, n, false⟩, a4, c4⟩ HO.out (by omega) #[.int .i64 who, .string key, .int .i64 q1, .int .i64 q2, .int .i64 node, .slice a4 val.length c4, .bool false, .int .i64 n, .bool false] rfl
          obtain ⟨a5, c5, W5, hrun, hw5⟩ := hR
          have hst : (L.take (k + 1)).filterMap wrF = (L.take k).filterMap wrF ++ [⟨who, key, q1, q2, node, val, false, n, false⟩] := step_yes HE (wrF_B rfl rfl)
          rw [← hst] at hw5
          have HX := Lib.hid hrun
          have HW5 := Lib.hid hw5
          clear hrun hw5 hst
          (try clear d0 d1 d2 d3 d4 d5 d6 d7 d8)
          obtain ⟨g0, g1, g2, g3, g4, g5, g6, g7, g8⟩ := wr_cells b4
          clear b4
          go_wp2_with (at_builtin; refine wpList_append_run rfl rfl rfl rfl HX.out ?_)
          go_roundw
          case rel => exact ⟨k + 1, nn + 1, a5, c5, by omega, by omega, by go_num, rfl, HW5⟩
          case measure => simp [intOf]; omega
      ·
          go_upto_region 13 with fail
          obtain ⟨W3, hW3⟩ : ∃ W, W = W1.alloc (.cells #[.int .i64 who, .string key, .int .i64 0, .int .i64 0, .int .i64 node, .slice none 0 0, .bool false, .int .i64 0, .bool true] 37) := ⟨_, rfl⟩
          rw [← hW3]
          have b3 : W3.heap[W1.heap.size]? = some (.cells #[.int .i64 who, .string key, .int .i64 0, .int .i64 0, .int .i64 node, .slice none 0 0, .bool false, .int .i64 0, .bool true] 37 (0, 0)) := by rw [hW3]; exact heap_alloc_new W1 _
          have H3 : Kp No W1 W3 := by rw [hW3]; exact (Kp.refl _ _).alloc _
          have hs3 : W1.heap.size < W3.heap.size := get_lt b3
          have e2 : ∀ W, Kp No W1 W → W.cell? ⟨wr.heap.size + 1, 2, none⟩ = some (.int .i64 n) := fun W h => (HBX.out W h).2.2.2.2.2.2.1
          have e9 : ∀ W, Kp No W1 W → W.cell? ⟨wr.heap.size + 1, 9, none⟩ = some (.slice va val.length vcap) := fun W h => (HBX.out W h).2.2.2.2.2.2.2.2
          have HCL := Lib.hid (fun n => clone_any va vcap val W3.heap.size (W3.drewN n) ((HAT.out.kp (HH1.out.trans_same H3)).drewN n) hvl)
          have HB3 := Lib.hid b3
          clear hW3 b3 d0 d1 d2 d3 d4 d5 d6 d7 d8
          refine wp_region_held' (Kp No W1) [0,0,2,0,0,0,0,2,0,0,2] [0,1,3,4,2,5,6,7,8,9,10] (by kernel_rfl) (by kernel_rfl) (fun _ n h => h.drewN n) H3 ?_
          repeat (first
            | (apply wpOrd_skip rfl (by decide) rfl; (focus (go_simp; rfl)))
            | (apply wpOrd_pure rfl rfl rfl; (focus (intro _ _; go_simp; (try go_ints); rfl)); (focus (go_simp; rfl)))
            | (apply wpOrd_read rfl rfl rfl; (focus (intro _; go_simp; (try go_ints); rfl)); (focus (go_simp; rfl))))
          refine wpOrd_eff rfl rfl (fun n1 => ?_)
          go_wp2_with fail
          refine (HCL.out n1).mono ?_
          rintro e w4 ⟨v, rfl, ho, hk4, hg4⟩
          obtain ⟨_, a4, c4, rfl, _⟩ := id ho
          have K4 : Kp No W3 w4 := hk4.of_drewN
          have H4 : Kp No W1 w4 := H3.trans_same K4
          have HO4 := Lib.hid ho
          have HG4 := Lib.hid hg4
          have HB4 := Lib.hid (K4.get HB3.out fun x => x)
          have HK34 := Lib.hid K4
          clear hk4 ho hg4 K4
          go_wp2_with fail
          repeat (first
            | (apply wpOrd_skip rfl (by decide) rfl; (focus (go_simp; rfl)))
            | (apply wpOrd_pure rfl rfl rfl; (focus (intro _ _; go_simp; (try go_ints); rfl)); (focus (go_simp; rfl)))
            | (apply wpOrd_read rfl rfl rfl; (focus (intro _; go_simp; (try go_ints); rfl)); (focus (go_simp; rfl))))
          refine wpOrd_eff rfl rfl (fun n2 => ?_)
          have q5 : (w4.drewN n2).cell? ⟨W1.heap.size, 5, none⟩ = some (.slice none 0 0) := by rw [cell_at (show (w4.drewN n2).heap[W1.heap.size]? = _ from HB4.out)]; rfl
          have f5 : (w4.drewN n2).frozen? ⟨W1.heap.size, 5, none⟩ = false := free_at (show (w4.drewN n2).heap[W1.heap.size]? = _ from HB4.out) _
          go_wp2_with fail
          obtain ⟨W5, hW5⟩ : ∃ W, W = (w4.drewN n2).setCell ⟨W1.heap.size, 5, none⟩ (.slice a4 val.length c4) := ⟨_, rfl⟩
          rw [← hW5]
          have H5 : Kp No W1 W5 := by rw [hW5]; exact (H4.drewN n2).setCell (.inr (Nat.le_refl _)) _
          have HB5 := Lib.hid (show W5.heap[W1.heap.size]? = some (.cells #[.int .i64 who, .string key, .int .i64 0, .int .i64 0, .int .i64 node, .slice a4 val.length c4, .bool false, .int .i64 0, .bool true] 37 (0, 0)) by rw [hW5]; exact set_at (show (w4.drewN n2).heap[W1.heap.size]? = _ from HB4.out) 5 _)
          have K5 := Lib.hid (show Kp (One W1.heap.size) w4 W5 by rw [hW5]; exact ((Kp.refl _ _).drewN n2).setCell (p := ⟨W1.heap.size, 5, none⟩) (.inl (show One W1.heap.size W1.heap.size from rfl)) _)
          clear hW5 q5 f5 H4
          refine ⟨H5, ?_⟩
          repeat (first
            | (apply wpOrd_skip rfl (by decide) rfl; (focus (go_simp; rfl)))
            | (apply wpOrd_pure rfl rfl rfl; (focus (intro _ _; go_simp; (try go_ints); rfl)); (focus (go_simp; rfl)))
            | (apply wpOrd_read rfl rfl rfl; (focus (intro _; go_simp; (try go_ints); rfl)); (focus (go_simp; rfl))))
          refine wpOrd_eff rfl rfl (fun n3 => ?_)
          have q7 : (W5.drewN n3).cell? ⟨W1.heap.size, 7, none⟩ = some (.int .i64 0) := by rw [cell_at (show (W5.drewN n3).heap[W1.heap.size]? = _ from HB5.out)]; rfl
          have f7 : (W5.drewN n3).frozen? ⟨W1.heap.size, 7, none⟩ = false := free_at (show (W5.drewN n3).heap[W1.heap.size]? = _ from HB5.out) _
          go_wp2_with fail
          obtain ⟨W6, hW6⟩ : ∃ W, W = (W5.drewN n3).setCell ⟨W1.heap.size, 7, none⟩ (.int .i64 n) := ⟨_, rfl⟩
          rw [← hW6]
          have H6 : Kp No W1 W6 := by rw [hW6]; exact (H5.drewN n3).setCell (.inr (Nat.le_refl _)) _
          have HB6 := Lib.hid (show W6.heap[W1.heap.size]? = some (.cells #[.int .i64 who, .string key, .int .i64 0, .int .i64 0, .int .i64 node, .slice a4 val.length c4, .bool false, .int .i64 n, .bool true] 37 (0, 0)) by rw [hW6]; exact set_at (show (W5.drewN n3).heap[W1.heap.size]? = _ from HB5.out) 7 _)
          have K6 := Lib.hid (show Kp (One W1.heap.size) w4 W6 by rw [hW6]; exact (K5.out.drewN n3).setCell (p := ⟨W1.heap.size, 7, none⟩) (.inl (show One W1.heap.size W1.heap.size from rfl)) _)
          clear hW6 q7 f7 H5 e2 e9
          refine ⟨H6, ?_⟩
          repeat (first
            | (apply wpOrd_skip rfl (by decide) rfl; (focus (go_simp; rfl)))
            | (apply wpOrd_pure rfl rfl rfl; (focus (intro _ _; go_simp; (try go_ints); rfl)); (focus (go_simp; rfl)))
            | (apply wpOrd_read rfl rfl rfl; (focus (intro _; go_simp; (try go_ints); rfl)); (focus (go_simp; rfl))))
          refine wpOrd_nil (fun nq => ?_)
          obtain ⟨W4, hW4⟩ : ∃ W, W = W6.drewN nq := ⟨_, rfl⟩
          have b4 : W4.heap[W1.heap.size]? = some (.cells #[.int .i64 who, .string key, .int .i64 0, .int .i64 0, .int .i64 node, .slice a4 val.length c4, .bool false, .int .i64 n, .bool true] 37 (0, 0)) := by rw [hW4]; exact HB6.out
          have HK4 := Lib.hid (show Kp No wr W4 by rw [hW4]; exact (HH1.out.trans_same H6).drewN nq)
          have HO := Lib.hid (show Own W4 5 1 (.slice a4 val.length c4) val.length (u8s val) from HO4.out.keep (by rw [hW4]; exact K6.out.drewN nq) (fun g hg hs => by
            have h1 := HG4.out g hg
            have h2 : (W3.drewN n1).heap.size = W3.heap.size := rfl
            have h3 : g = W1.heap.size := hs
            omega))
          clear H6
          rw [← hW4]
          clear hW4
          skip
          have hR := WRel.app infoWrite Try.underlying24 (by decide) HR.out (W := W4) HK4.out ⟨⟨who, key, 0, 0, node, val, false, n, true⟩, a4, c4⟩ HO.out (by omega) #[.int .i64 who, .string key, .int .i64 0, .int .i64 0, .int .i64 node, .slice a4 val.length c4, .bool false, .int .i64 n, .bool true] rfl
          obtain ⟨a5, c5, W5, hrun, hw5⟩ := hR
          have hst : (L.take (k + 1)).filterMap wrF = (L.take k).filterMap wrF ++ [⟨who, key, 0, 0, node, val, false, n, true⟩] := step_yes HE (wrF_C rfl rfl)
          rw [← hst] at hw5
          have HX := Lib.hid hrun
          have HW5 := Lib.hid hw5
          clear hrun hw5 hst
          (try clear d0 d1 d2 d3 d4 d5 d6 d7 d8)
          obtain ⟨g0, g1, g2, g3, g4, g5, g6, g7, g8⟩ := wr_cells b4
          clear b4
          go_wp2_with (at_builtin; refine wpList_append_run rfl rfl rfl rfl HX.out ?_)
          go_roundw
          case rel => exact ⟨k + 1, nn + 1, a5, c5, by omega, by omega, by go_num, rfl, HW5⟩
          case measure => simp [intOf]; omega
      ·
          go_upto_region 14 with fail
          obtain ⟨W4, hW4⟩ : ∃ W4, W4 = W1.alloc (.cells #[.int .i64 who, .string key, .int .i64 q1, .int .i64 q2, .int .i64 node, .slice none 0 0, .bool true, .int .i64 0, .bool false] 37) := ⟨_, rfl⟩
          have HK4 := Lib.hid (show Kp No wr W4 by rw [hW4]; exact HH1.out.alloc _)
          have HO := Lib.hid (Own.nil W4 5 1)
          have b4 : W4.heap[W1.heap.size]? = some (.cells #[.int .i64 who, .string key, .int .i64 q1, .int .i64 q2, .int .i64 node, .slice none 0 0, .bool true, .int .i64 0, .bool false] 37 (0, 0)) := by rw [hW4]; exact heap_alloc_new W1 _
          rw [← hW4]
          clear hW4
          skip
          have hR := WRel.app infoWrite Try.underlying24 (by decide) HR.out (W := W4) HK4.out ⟨⟨who, key, q1, q2, node, [], true, 0, false⟩, none, 0⟩ HO.out (by omega) #[.int .i64 who, .string key, .int .i64 q1, .int .i64 q2, .int .i64 node, .slice none 0 0, .bool true, .int .i64 0, .bool false] rfl
          obtain ⟨a5, c5, W5, hrun, hw5⟩ := hR
          have hst : (L.take (k + 1)).filterMap wrF = (L.take k).filterMap wrF ++ [⟨who, key, q1, q2, node, [], true, 0, false⟩] := step_yes HE (wrF_D rfl rfl)
          rw [← hst] at hw5
          have HX := Lib.hid hrun
          have HW5 := Lib.hid hw5
          clear hrun hw5 hst
          (try clear d0 d1 d2 d3 d4 d5 d6 d7 d8)
          obtain ⟨g0, g1, g2, g3, g4, g5, g6, g7, g8⟩ := wr_cells b4
          clear b4
          go_wp2_with (at_builtin; refine wpList_append_run rfl rfl rfl rfl HX.out ?_)
          go_roundw
          case rel => exact ⟨k + 1, nn + 1, a5, c5, by omega, by omega, by go_num, rfl, HW5⟩
          case measure => simp [intOf]; omega
      ·
          go_upto_region 14 with fail
          obtain ⟨W4, hW4⟩ : ∃ W4, W4 = W1.alloc (.cells #[.int .i64 who, .string key, .int .i64 0, .int .i64 0, .int .i64 node, .slice none 0 0, .bool true, .int .i64 0, .bool true] 37) := ⟨_, rfl⟩
          have HK4 := Lib.hid (show Kp No wr W4 by rw [hW4]; exact HH1.out.alloc _)
          have HO := Lib.hid (Own.nil W4 5 1)
          have b4 : W4.heap[W1.heap.size]? = some (.cells #[.int .i64 who, .string key, .int .i64 0, .int .i64 0, .int .i64 node, .slice none 0 0, .bool true, .int .i64 0, .bool true] 37 (0, 0)) := by rw [hW4]; exact heap_alloc_new W1 _
          rw [← hW4]
          clear hW4
          skip
          have hR := WRel.app infoWrite Try.underlying24 (by decide) HR.out (W := W4) HK4.out ⟨⟨who, key, 0, 0, node, [], true, 0, true⟩, none, 0⟩ HO.out (by omega) #[.int .i64 who, .string key, .int .i64 0, .int .i64 0, .int .i64 node, .slice none 0 0, .bool true, .int .i64 0, .bool true] rfl
          obtain ⟨a5, c5, W5, hrun, hw5⟩ := hR
          have hst : (L.take (k + 1)).filterMap wrF = (L.take k).filterMap wrF ++ [⟨who, key, 0, 0, node, [], true, 0, true⟩] := step_yes HE (wrF_E rfl rfl)
          rw [← hst] at hw5
          have HX := Lib.hid hrun
          have HW5 := Lib.hid hw5
          clear hrun hw5 hst
          (try clear d0 d1 d2 d3 d4 d5 d6 d7 d8)
          obtain ⟨g0, g1, g2, g3, g4, g5, g6, g7, g8⟩ := wr_cells b4
          clear b4
          go_wp2_with (at_builtin; refine wpList_append_run rfl rfl rfl rfl HX.out ?_)
          go_roundw
          case rel => exact ⟨k + 1, nn + 1, a5, c5, by omega, by omega, by go_num, rfl, HW5⟩
          case measure => simp [intOf]; omega
      iterate 2
        ·
            have f1 : (err != 0) = true := by simp [he0]
            have f2 : (err != 9) = true := by simp [he9]
            have hst := step_no HE (wrF_no2 he0 he9)
            have hw := Lib.hid (HR.out.keep HH1.out)
            rw [← hst] at hw
            clear hst
            go_wp2_with fail
            go_roundw
            case rel => exact ⟨k + 1, nn, ao, co, by omega, by omega, by go_num, rfl, hw⟩
            case measure => simp [intOf]; omega
    · obtain rfl : k = L.length := by omega
      have hd := HR.out.done
      rw [List.take_length] at hd
      have HD := Lib.hid hd
      clear hlt hd
      go_wp2_with fail
      go_ret
      obtain ⟨R, h1, h2, h3, h4⟩ := HD.out
      subst h1
      exact ⟨ao, co, R, rfl, h2, h3, h4⟩
end Go.Proofs.Ytojlccligmfcaaa
