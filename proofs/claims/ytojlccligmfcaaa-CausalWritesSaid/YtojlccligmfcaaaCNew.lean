/-
  What may be read of a key at a stamp: causal's Newest.
-/
import Derived.Test.YtojlccligmfcaaaCWrites
import Derived.Test.YtojlccligmfcaaaCOrd
import Derived.Test.YtojlccligmfcaaaMapS
import Derived.Deep.Cut
import Derived.Deep.CutBlock
import Derived.Outline
namespace Go.Mer
open Go Go.RowKit
theorem Row.val_one (L : List Row) : ∀ u ∈ L.map Row.val, u.oneCell' = true := by
  intro u hu
  obtain ⟨r, _, rfl⟩ := List.mem_map.1 hu
  rfl
end Go.Mer
namespace Go.Proofs.Ytojlccligmfcaaa
open Go.RowKit Go.Mer

/-! ### the plain law -/
def newer (b : Option WrP) (w : WrP) : Bool := match b with
  | none => true
  | some v => decide (0 < ordF w.m w.c w.origin v.m v.c v.origin)
def nwStep (key : ByteArray) (t1 t2 : Int) (s : Option WrP × Bool × List (List UInt8)) (w : WrP) : Option WrP × Bool × List (List UInt8) :=
  if w.key ≠ key then s
  else if w.unsure then (s.1, true, if w.gone then s.2.2 else s.2.2 ++ [w.val])
  else if decide (cmpH w.m w.c t1 t2 ≤ 0) && newer s.1 w then (some w, s.2.1, s.2.2) else s
def nwState (key : ByteArray) (t1 t2 : Int) (R : List WrP) : Option WrP × Bool × List (List UInt8) := R.foldl (nwStep key t1 t2) (none, false, [])
def newestF (key : ByteArray) (t1 t2 : Int) (R : List WrP) : List (List UInt8) × Bool :=
  match nwState key t1 t2 R with
  | (none, _, u) => (u, true)
  | (some v, n, u) => if seenF v.m v.c v.gone v.ttl t1 t2 then (v.val :: u, n) else (u, true)

/-! ### rows of bytes of one's own -/
theorem infoRow : (Try.prog.info? 33).map (fun i => (i.zero, i.size, i.bytes)) = some (some (.slice none 0 0), 1, 24) := by kernel_rfl
def URel (w0 wr : World) (v : Value) (n : Nat) (U : List (List UInt8)) : Prop :=
  ∃ Us : List Row, n = Us.length ∧ Us.map (·.data) = U ∧ Own wr 33 1 v n (Us.map Row.val) ∧ (∀ g, v.ownBlock = some g → w0.heap.size ≤ g) ∧ ∀ r ∈ Us, Own wr 5 1 r.val r.data.length (u8s r.data)
theorem URel.nil (w0 wr : World) : URel w0 wr (.slice none 0 0) 0 [] := ⟨[], rfl, rfl, by simpa using Own.nil wr 33 1, fun g h => by simp [Value.ownBlock] at h, by simp⟩
theorem URel.keep {w0 wr W : World} {v : Value} {n : Nat} {U : List (List UInt8)} {S : Nat → Prop} (h : URel w0 wr v n U) (hk : Kp S wr W)
    (hS : ∀ g cur t, wr.heap[g]? = some (.cells cur t (0, 0)) → t = 33 ∨ t = 5 → ¬ S g) : URel w0 W v n U := by
  obtain ⟨Us, h1, h2, h3, h4, h5⟩ := h
  exact ⟨Us, h1, h2, h3.keep hk fun g hg => by obtain ⟨c, b⟩ := h3.type g hg; exact hS g c _ b (.inl rfl), h4, fun r hr => (h5 r hr).keep hk fun g hg => by obtain ⟨c, b⟩ := (h5 r hr).type g hg; exact hS g c _ b (.inr rfl)⟩
theorem URel.no {w0 wr W : World} {v : Value} {n : Nat} {U : List (List UInt8)} (h : URel w0 wr v n U) (hk : Kp No wr W) : URel w0 W v n U := h.keep hk fun _ _ _ _ _ x => x
/-- append(v, rows..): of one's own, or of what was handed in. -/
theorem URel.app {w0 W : World} {v : Value} {n : Nat} {U : List (List UInt8)} (h : URel w0 W v n U) (hw : w0.heap.size ≤ W.heap.size) {x : Option Addr} {c m : Nat} (Xs : List Row) (hm : m = Xs.length) (hx : Rd W W.heap.size x (Xs.map Row.val))
    (hX : ∀ r ∈ Xs, Own W 5 1 r.val r.data.length (u8s r.data)) (hl : n + m ≤ 100000) :
    ∃ a' c' W', (Builtin.append_ #[71, 71] 71 #[v, .slice x m c]).run Try.prog W = .ok (.slice a' (n + m) c') W' ∧ URel w0 W' (.slice a' (n + m) c') (n + m) (U ++ Xs.map (·.data)) ∧ Kp (fun k => v.ownBlock = some k) W W' := by
  obtain ⟨Us, rfl, h2, h3, h4, h5⟩ := h
  subst hm
  obtain ⟨i0, hi, hz0, hz1, hz2⟩ := info_parts infoRow
  obtain ⟨v', w', hrun, ho, hkp, hblk⟩ := run_append_Own (P := Try.prog) 71 71 71 33 i0 (.slice none 0 0) 1 24 Try.underlying71 ⟨_, Try.underlying71⟩ hi hz0 hz1 hz2 rfl v Us.length _ h3 (.slice x Xs.length c) Xs.length (Xs.map Row.val)
    ⟨by simp, x, c, rfl, hx⟩ (Row.val_one Xs) (by unfold maxLen; omega) (by omega)
  obtain ⟨_, a', c', rfl, _⟩ := id ho
  have hb : ∀ r : Row, Own W 5 1 r.val r.data.length (u8s r.data) → Own w' 5 1 r.val r.data.length (u8s r.data) := fun r hr => hr.keep hkp fun g hg hs => by
    obtain ⟨c1, b1⟩ := hr.type g hg
    obtain ⟨c2, b2⟩ := h3.type g hs
    exact ne_of_type b2 b1 (by decide) rfl
  refine ⟨a', c', w', hrun, ⟨Us ++ Xs, by simp, by simp [h2], by simpa using ho, fun g hg => ?_, fun r hr => ?_⟩, hkp⟩
  · rcases hblk with hb' | ⟨g2, hb', hb2⟩
    · exact h4 g (hb'.symm.trans hg)
    · obtain rfl := Option.some.inj (hb'.symm.trans hg)
      omega
  · rcases List.mem_append.1 hr with hr | hr
    · exact hb r (h5 r hr)
    · exact hb r (hX r hr)
theorem URel.blk {w0 wr : World} {v : Value} {n : Nat} {U : List (List UInt8)} (h : URel w0 wr v n U) : ∀ g, v.ownBlock = some g → w0.heap.size ≤ g ∧ ∃ cur, wr.heap[g]? = some (.cells cur 33 (0, 0)) := fun g hg => by
  obtain ⟨Us, h1, h2, h3, h4, h5⟩ := h
  exact ⟨h4 g hg, h3.type g hg⟩
theorem URel.out {w0 wr : World} {a : Option Addr} {n m c : Nat} {U : List (List UInt8)} (h : URel w0 wr (.slice a m c) n U) : ∃ Us : List Row, n = Us.length ∧ Us.map (·.data) = U ∧ Rd wr wr.heap.size a (Us.map Row.val) ∧ ∀ r ∈ Us, Rd wr wr.heap.size r.a (u8s r.data) := by
  obtain ⟨Us, h1, h2, h3, h4, h5⟩ := h
  exact ⟨Us, h1, h2, h3.rd', fun r hr => (h5 r hr).rd'⟩
/-! ### the walk -/
def verCells : Option WrR → Array Value
  | none => #[.int .i64 0, .int .i64 0, .int .i64 0, .slice none 0 0, .bool false, .int .i64 0]
  | some r => #[.int .i64 r.p.m, .int .i64 r.p.c, .int .i64 r.p.origin, .slice r.a r.p.val.length r.cap, .bool r.p.gone, .int .i64 r.p.ttl]
structure NRel (w0 wr : World) (R : List WrR) (k : Nat) (key : ByteArray) (t1 t2 : Int) (best : Option WrR) (no : Bool) (U : List (List UInt8)) (v : Value) (n : Nat) : Prop where
  st : nwState key t1 t2 ((R.take k).map (·.p)) = (best.map (·.p), no, U)
  box : wr.heap[w0.heap.size + 1]? = some (.cells (verCells best) 35 (0, 0))
  stamp : wr.heap[w0.heap.size]? = some (.cells #[.int .i64 t1, .int .i64 t2] 32 (0, 0))
  un : URel w0 wr v n U
  mem : ∀ r, best = some r → r ∈ R
  kp : Kp No w0 wr
theorem nw_step {R : List WrR} {k : Nat} {r : WrR} (HE : Hid (R.take (k + 1) = R.take k ++ [r])) (key : ByteArray) (t1 t2 : Int) : nwState key t1 t2 ((R.take (k + 1)).map (·.p)) = nwStep key t1 t2 (nwState key t1 t2 ((R.take k).map (·.p))) r.p := by
  rw [HE.out, List.map_append]
  unfold nwState
  rw [List.foldl_append]
  rfl
/-- The cells that are read in a round. -/
def NBox (W : World) (b S : Nat) (r : WrR) (t1 t2 : Int) : Prop :=
  W.cell? ⟨b, 1, none⟩ = some (.string r.p.key) ∧ W.cell? ⟨b, 2, none⟩ = some (.int .i64 r.p.m) ∧ W.cell? ⟨b, 3, none⟩ = some (.int .i64 r.p.c) ∧ W.cell? ⟨b, 4, none⟩ = some (.int .i64 r.p.origin) ∧ W.cell? ⟨b, 5, none⟩ = some (.slice r.a r.p.val.length r.cap) ∧
  W.cell? ⟨b, 6, none⟩ = some (.bool r.p.gone) ∧ W.cell? ⟨b, 7, none⟩ = some (.int .i64 r.p.ttl) ∧ W.cell? ⟨b, 8, none⟩ = some (.bool r.p.unsure) ∧ W.cell? ⟨S, 0, none⟩ = some (.int .i64 t1) ∧ W.cell? ⟨S, 1, none⟩ = some (.int .i64 t2)
theorem nBox {W1 : World} {b S : Nat} {r : WrR} {t1 t2 : Int} {t u : TypeId} {cs : Array Value} (hc : cs.toList = r.cells) (h1 : W1.heap[b]? = some (.cells cs t (0, 0))) (h2 : W1.heap[S]? = some (.cells #[.int .i64 t1, .int .i64 t2] u (0, 0))) :
    ∀ W, Kp No W1 W → NBox W b S r t1 t2 := fun W h => by
  obtain ⟨cs⟩ := cs
  have hc : cs = r.cells := hc
  subst hc
  have e1 := h.get h1 fun x => x
  have e2 := h.get h2 fun x => x
  unfold NBox
  rw [cell_at e1, cell_at e1, cell_at e1, cell_at e1, cell_at e1, cell_at e1, cell_at e1, cell_at e1, cell_at e2, cell_at e2]
  exact ⟨rfl, rfl, rfl, rfl, rfl, rfl, rfl, rfl, rfl, rfl⟩
def VBox (W : World) (B : Nat) (r : WrR) : Prop :=
  W.cell? ⟨B, 0, none⟩ = some (.int .i64 r.p.m) ∧ W.cell? ⟨B, 1, none⟩ = some (.int .i64 r.p.c) ∧ W.cell? ⟨B, 2, none⟩ = some (.int .i64 r.p.origin) ∧ W.cell? ⟨B, 3, none⟩ = some (.slice r.a r.p.val.length r.cap) ∧ W.cell? ⟨B, 4, none⟩ = some (.bool r.p.gone) ∧ W.cell? ⟨B, 5, none⟩ = some (.int .i64 r.p.ttl)
theorem vBox {W : World} {B : Nat} {r : WrR} {t : TypeId} (h : W.heap[B]? = some (.cells (verCells (some r)) t (0, 0))) : VBox W B r := by
  unfold VBox
  rw [cell_at h, cell_at h, cell_at h, cell_at h, cell_at h, cell_at h]
  exact ⟨rfl, rfl, rfl, rfl, rfl, rfl⟩
/-- What Newest answers. -/
def NewP (w : World) (F : List (List UInt8) × Bool) (e : Ending) (w' : World) : Prop :=
  ∃ (a : Option Addr) (cap : Nat) (Vs : List Row), e = .returned (.tuple #[.slice a Vs.length cap, .bool F.2]) ∧ Vs.map (·.data) = F.1 ∧ Rd w' w'.heap.size a (Vs.map Row.val) ∧ (∀ r ∈ Vs, Rd w' w'.heap.size r.a (u8s r.data)) ∧ Kp No w w'
set_option maxRecDepth 100000 in
set_option maxHeartbeats 4000000 in
theorem Newest_any (w : World) (a : Option Addr) (cap : Nat) (R : List WrR) (key : ByteArray) (t1 t2 : Int) (h : WrsAt w a R) (hl : R.length ≤ 1000) (hv : ∀ r ∈ R, r.p.val.length ≤ 140737488355328) :
    Calls Try.prog 21 #[.slice a R.length cap, .string key, stv t1 t2] w (NewP w (newestF key t1 t2 (R.map (·.p)))) := by
  have HA := Lib.hid h
  have HV := Lib.hid hv
  clear h hv
  have hN0 : NRel w ((w.alloc (.cells #[.int .i64 t1, .int .i64 t2] 32)).alloc (.cells #[.int .i64 0, .int .i64 0, .int .i64 0, .slice none 0 0, .bool false, .int .i64 0] 35)) R 0 key t1 t2 none false [] (.slice none 0 0) 0 :=
    ⟨by simp [nwState], (congrArg (fun k => ((w.alloc _).alloc _).heap[k]?) (by simp)).trans (heap_alloc_new (w.alloc _) _), alloc_far (heap_alloc_new w _) _, URel.nil _ _, (fun r h => by cases h), ((Kp.refl _ _).alloc _).alloc _⟩
  have HN0 := Lib.hid hN0
  clear hN0
  go_enter Try.func21, Try.ntmps21
  go_wp2_with fail
  rename World => w0
  go_loopw [9, 10, 11, 16] (fun s9 s10 s11 i wr => ∃ (k : Nat) (best : Option WrR) (no : Bool) (U : List (List UInt8)) (ua : Option Addr) (un uc : Nat), k ≤ R.length ∧ un ≤ k ∧ i = .int .i64 (k : Int) ∧ s9 = .bool best.isSome ∧ s10 = .bool no ∧ s11 = .slice ua un uc ∧ Hid (NRel w0 wr R k key t1 t2 best no U (.slice ua un uc) un)) (fun _ _ _ i _ => R.length - (intOf i).toNat)
  case atStart => exact ⟨0, none, false, [], none, 0, 0, Nat.zero_le _, Nat.le_refl _, rfl, rfl, rfl, rfl, HN0⟩
  case round =>
    obtain ⟨k, best, no, U, ua, un, uc, hk, hun, rfl, rfl, rfl, rfl, HN⟩ := hrel
    have HKP := Lib.hid HN.out.kp
    have hbs : w0.heap.size + 1 < wr.heap.size := get_lt HN.out.box
    have hbs0 : w0.heap.size < wr.heap.size := by omega
    by_cases hlt : k < R.length
    · obtain ⟨g, off, rfl, l0⟩ := rd_chunk (f := WrR.cells) (c := 9) WrR.cells_len (by decide) HA.out.top hlt
      have HE := Lib.hid (List.take_succ_eq_append_getElem hlt)
      have hvl := HV.out _ (List.getElem_mem hlt)
      have hat := (HA.out.each _ (List.getElem_mem hlt)).kp HKP.out
      have HMem := Lib.hid (List.getElem_mem hlt)
      obtain ⟨r, hr⟩ : ∃ r, r = R[k] := ⟨_, rfl⟩
      rw [← hr] at l0 HE hvl hat HMem
      have R1 : Hid (wr.rangeAt g (off + k * 9) r.cells) := Lib.hid fun j v hv => l0 wr HKP.out j v hv
      have HAT := Lib.hid hat
      clear l0 hr hat
      obtain ⟨W1, hW1⟩ : ∃ W1, W1 = wr.alloc (.cells r.cells.toArray 37) := ⟨_, rfl⟩
      have b1 : W1.heap[wr.heap.size]? = some (.cells r.cells.toArray 37 (0, 0)) := by rw [hW1]; exact heap_alloc_new wr _
      have H1 : Kp No wr W1 := by rw [hW1]; exact (Kp.refl _ _).alloc _
      have HBX := Lib.hid (nBox (r := r) rfl b1 (H1.get HN.out.stamp fun x => x))
      have hs1 : wr.heap.size < W1.heap.size := get_lt b1
      have HH1 := Lib.hid H1
      have HW1 := Lib.hid hW1
      clear b1 H1 hW1
      go_upto_block 2 with (first
        | (refine wpList_load_w rfl 37 _ rfl g (off + k * 9) rfl _ _ R1 Try.underlying37 rfl (by kernel_rfl) ?_)
        | (refine wpList_store_w rfl 37 _ _ rfl wr.heap.size (by rfl) _ _ _ rfl rfl (by kernel_rfl) (by rfl) (by rfl) ?_))
      rw [← HW1.out]
      clear HW1 R1
      obtain ⟨d1, d2, d3, d4, d5, d6, d7, d8, s0, s1⟩ := HBX.out W1 (Kp.refl _ _)
      by_cases hkey : r.p.key = key
      · rw [hkey] at d1
        by_cases hu : r.p.unsure = true
        · rw [hu] at d8
          by_cases hg : r.p.gone = true
          · rw [hg] at d6
            have HST := Lib.hid (show nwStep key t1 t2 (best.map (·.p), no, U) r.p = (best.map (·.p), true, U) by simp [nwStep, hkey, hu, hg])
            clear hkey hu hg
            have HN2 := Lib.hid (show NRel w0 W1 R (k + 1) key t1 t2 best true U (.slice ua un uc) un from ⟨by rw [nw_step HE, HN.out.st]; exact HST.out, (HH1.out).get HN.out.box fun x => x, (HH1.out).get HN.out.stamp fun x => x, HN.out.un.no (HH1.out), HN.out.mem, HN.out.kp.trans_same (HH1.out)⟩)
            go_wp2_with fail
            go_roundw
            case rel => exact ⟨k + 1, best, true, U, ua, un, uc, by omega, by omega, by go_num, rfl, rfl, rfl, HN2⟩
            case measure => simp [intOf]; omega
          · have hg' : r.p.gone = false := by simpa using hg
            rw [hg'] at d6
            have HST := Lib.hid (show nwStep key t1 t2 (best.map (·.p), no, U) r.p = (best.map (·.p), true, U ++ [r.p.val]) by simp [nwStep, hkey, hu, hg'])
            have hcl := clone_any r.a r.cap r.p.val W1.heap.size W1 (HAT.out.kp HH1.out) hvl
            have HCL := Lib.hid hcl
            clear hkey hu hg hg' hcl
            go_wp2_with fail
            refine HCL.out.mono ?_
            rintro e w2 ⟨v, rfl, ho, hk2, hg2⟩
            obtain ⟨_, a4, c4, rfl, _⟩ := id ho
            have hk3 : Kp No wr (w2.alloc (.cells #[.slice a4 r.p.val.length c4] 33)) := (HH1.out.trans_same hk2).alloc _
            have hlit := heap_alloc_new w2 (.cells #[.slice a4 r.p.val.length c4] 33)
            obtain ⟨a5, c5, W5, hrun, hu5, hk5⟩ := (HN.out.un.no hk3).app (HN.out.kp.trans_same hk3).size (x := some ⟨w2.heap.size, 0, none⟩) (c := 1) (m := 1) [⟨a4, c4, r.p.val⟩] rfl (Rd.row (n := 1) hlit rfl (get_lt hlit) (Nat.le_refl _)) (by
              intro r' hr'
              obtain rfl := List.mem_singleton.1 hr'
              exact ho.keep ((Kp.refl No _).alloc _) fun _ _ x => x) (by omega)
            have hblk := (HN.out.un.no hk3).blk
            have hno : ∀ {g : Nat} {cs : Array Value} {t : TypeId}, wr.heap[g]? = some (.cells cs t (0, 0)) → t ≠ 33 → W5.heap[g]? = some (.cells cs t (0, 0)) := fun {g cs t} hb ht => hk5.get (hk3.get hb fun x => x) fun hs => by
              obtain ⟨_, cur, hcur⟩ := hblk g hs
              exact ne_of_type (hk3.get hb fun x => x) hcur ht rfl
            have HN2 := Lib.hid (show NRel w0 W5 R (k + 1) key t1 t2 best true (U ++ [r.p.val]) (.slice a5 (un + 1) c5) (un + 1) from ⟨by rw [nw_step HE, HN.out.st]; exact HST.out, hno HN.out.box (by decide), hno HN.out.stamp (by decide), hu5, HN.out.mem, (HN.out.kp.trans_same hk3).trans hk5 (fun i hi hs => by
              have := (hblk i hs).1
              omega)⟩)
            have HX := Lib.hid hrun
            clear hrun hu5 hk5 hblk hno hk3 hlit ho hk2 hg2
            go_wp2_with (at_builtin; refine wpList_append_run rfl rfl rfl rfl HX.out ?_)
            go_roundw
            case rel => exact ⟨k + 1, best, true, U ++ [r.p.val], a5, un + 1, c5, by omega, by omega, by go_num, rfl, rfl, rfl, HN2⟩
            case measure => simp [intOf]; omega
        · have hu' : r.p.unsure = false := by simpa using hu
          rw [hu'] at d8
          have hnw : nwStep key t1 t2 (best.map (·.p), no, U) r.p = if decide (cmpH r.p.m r.p.c t1 t2 ≤ 0) && newer (best.map (·.p)) r.p then (some r.p, no, U) else (best.map (·.p), no, U) := by simp [nwStep, hkey, hu']
          have hcc := fun W => Compare_any r.p.m r.p.c t1 t2 W
          obtain ⟨q, hq⟩ : ∃ q, q = cmpH r.p.m r.p.c t1 t2 := ⟨_, rfl⟩
          rw [← hq] at hnw hcc
          have HNW := Lib.hid hnw
          have HC := Lib.hid hcc
          clear hkey hu hu' hnw hcc hq
          go_wp2_with fail
          refine (HC.out _).mono ?_
          rintro e w2 ⟨rfl, hk2⟩
          clear d1 d2 d3 d4 d5 d6 d7 d8 s0 s1
          obtain ⟨d1, d2, d3, d4, d5, d6, d7, d8, s0, s1⟩ := HBX.out w2 hk2
          have HK2 := Lib.hid (HH1.out.trans_same hk2)
          have HK12 := Lib.hid hk2
          have hs2 : wr.heap.size < w2.heap.size := Nat.lt_of_lt_of_le hs1 hk2.size
          clear hk2
          by_cases hq : q ≤ 0
          · have hd : decide (q ≤ 0) = true := decide_eq_true hq
            have HD := Lib.hid hd
            cases best with
            | none =>
              have HST := Lib.hid (show nwStep key t1 t2 (Option.map (·.p) (none : Option WrR), no, U) r.p = (Option.map (·.p) (some r), no, U) by rw [HNW.out, hd]; rfl)
              clear hd
              have HB := Lib.hid ((HK2.out).get HN.out.box fun x => x)
              have HN2 := Lib.hid (show NRel w0 (World.setRow w2 (w0.heap.size + 1) (verCells (some r))) R (k + 1) key t1 t2 (some r) no U (.slice ua un uc) un from
                ⟨by rw [nw_step HE, HN.out.st]; exact HST.out, setRow_at ((HK2.out).get HN.out.box fun x => x), setRow_far ((HK2.out).get HN.out.stamp fun x => x) (by omega),
                 (HN.out.un.no (HK2.out)).keep ((Kp.refl (One (w0.heap.size + 1)) _).setRow (.inl rfl) _) (fun g cur t hg ht hs => by
                   have hs : g = w0.heap.size + 1 := hs
                   have hb := (HK2.out).get HN.out.box fun x => x
                   rw [hs] at hg
                   rw [hg] at hb
                   injection hb with hb
                   injection hb with _ hb
                   rcases ht with ht | ht <;> rw [ht] at hb <;> exact absurd hb (by decide)),
                 (fun r' h => by cases h; exact HMem.out), (HN.out.kp.trans_same (HK2.out)).setRow (.inr (by omega)) _⟩)
              go_wp2_with (refine wpList_store_r rfl 35 _ _ rfl (w0.heap.size + 1) _ rfl rfl 35 _ HB (by kernel_rfl) (by rfl) (by rfl) ?_)
              go_roundw
              case rel => exact ⟨k + 1, some r, no, U, ua, un, uc, by omega, by omega, by go_num, rfl, rfl, rfl, HN2⟩
              case measure => simp [intOf]; omega
            | some b =>
              obtain ⟨v0, v1, v2, v3, v4, v5⟩ := vBox (HK2.out.get HN.out.box fun x => x)
              have hcc := fun W => order_any r.p.m r.p.c r.p.origin (.slice r.a r.p.val.length r.cap) r.p.gone r.p.ttl b.p.m b.p.c b.p.origin (.slice b.a b.p.val.length b.cap) b.p.gone b.p.ttl W
              obtain ⟨q2, hq2⟩ : ∃ q2, q2 = ordF r.p.m r.p.c r.p.origin b.p.m b.p.c b.p.origin := ⟨_, rfl⟩
              have hnw2 : nwStep key t1 t2 (Option.map (·.p) (some b), no, U) r.p = if decide (0 < q2) then (some r.p, no, U) else (some b.p, no, U) := by
                rw [HNW.out, hd, hq2]
                rfl
              rw [← hq2] at hcc
              have HC2 := Lib.hid hcc
              have HNW2 := Lib.hid hnw2
              clear hcc hnw2 hq2 hd
              go_wp2_with fail
              refine (HC2.out _).mono ?_
              rintro e w3 ⟨rfl, hk3⟩
              clear d1 d2 d3 d4 d5 d6 d7 d8 s0 s1 v0 v1 v2 v3 v4 v5
              obtain ⟨d1, d2, d3, d4, d5, d6, d7, d8, s0, s1⟩ := HBX.out w3 (HK12.out.trans_same hk3)
              have HK3 := Lib.hid (HK2.out.trans_same hk3)
              have hs3 : wr.heap.size < w3.heap.size := Nat.lt_of_lt_of_le hs2 hk3.size
              clear hk3 hq
              by_cases hq2 : 0 < q2
              · have HST := Lib.hid (show nwStep key t1 t2 (Option.map (·.p) (some b), no, U) r.p = (Option.map (·.p) (some r), no, U) by rw [HNW2.out, decide_eq_true hq2]; rfl)
                have HB := Lib.hid ((HK3.out).get HN.out.box fun x => x)
                have HN2 := Lib.hid (show NRel w0 (World.setRow w3 (w0.heap.size + 1) (verCells (some r))) R (k + 1) key t1 t2 (some r) no U (.slice ua un uc) un from
                  ⟨by rw [nw_step HE, HN.out.st]; exact HST.out, setRow_at ((HK3.out).get HN.out.box fun x => x), setRow_far ((HK3.out).get HN.out.stamp fun x => x) (by omega),
                   (HN.out.un.no (HK3.out)).keep ((Kp.refl (One (w0.heap.size + 1)) _).setRow (.inl rfl) _) (fun g cur t hg ht hs => by
                     have hs : g = w0.heap.size + 1 := hs
                     have hb := (HK3.out).get HN.out.box fun x => x
                     rw [hs] at hg
                     rw [hg] at hb
                     injection hb with hb
                     injection hb with _ hb
                     rcases ht with ht | ht <;> rw [ht] at hb <;> exact absurd hb (by decide)),
                   (fun r' h => by cases h; exact HMem.out), (HN.out.kp.trans_same (HK3.out)).setRow (.inr (by omega)) _⟩)
                go_wp2_with (refine wpList_store_r rfl 35 _ _ rfl (w0.heap.size + 1) _ rfl rfl 35 _ HB (by kernel_rfl) (by rfl) (by rfl) ?_)
                go_roundw
                case rel => exact ⟨k + 1, some r, no, U, ua, un, uc, by omega, by omega, by go_num, rfl, rfl, rfl, HN2⟩
                case measure => simp [intOf]; omega
              · have HST := Lib.hid (show nwStep key t1 t2 (Option.map (·.p) (some b), no, U) r.p = (Option.map (·.p) (some b), no, U) by rw [HNW2.out, decide_eq_false hq2]; rfl)
                have HN2 := Lib.hid (show NRel w0 w3 R (k + 1) key t1 t2 (some b) no U (.slice ua un uc) un from ⟨by rw [nw_step HE, HN.out.st]; exact HST.out, (HK3.out).get HN.out.box fun x => x, (HK3.out).get HN.out.stamp fun x => x, HN.out.un.no (HK3.out), HN.out.mem, HN.out.kp.trans_same (HK3.out)⟩)
                go_wp2_with fail
                go_roundw
                case rel => exact ⟨k + 1, (some b), no, U, ua, un, uc, by omega, by omega, by go_num, rfl, rfl, rfl, HN2⟩
                case measure => simp [intOf]; omega
          · have hd : decide (q ≤ 0) = false := decide_eq_false hq
            have HST := Lib.hid (show nwStep key t1 t2 (best.map (·.p), no, U) r.p = (best.map (·.p), no, U) by rw [HNW.out, hd]; rfl)
            clear hq
            have HN2 := Lib.hid (show NRel w0 w2 R (k + 1) key t1 t2 best no U (.slice ua un uc) un from ⟨by rw [nw_step HE, HN.out.st]; exact HST.out, (HK2.out).get HN.out.box fun x => x, (HK2.out).get HN.out.stamp fun x => x, HN.out.un.no (HK2.out), HN.out.mem, HN.out.kp.trans_same (HK2.out)⟩)
            go_wp2_with fail
            go_roundw
            case rel => exact ⟨k + 1, best, no, U, ua, un, uc, by omega, by omega, by go_num, rfl, rfl, rfl, HN2⟩
            case measure => simp [intOf]; omega
      · have hne : (r.p.key.toList == key.toList) = false := by rw [← beq_toListBytes]; exact beq_false_of_ne hkey
        have HST := Lib.hid (show nwStep key t1 t2 (best.map (·.p), no, U) r.p = (best.map (·.p), no, U) by simp [nwStep, hkey])
        clear hkey
        have HN2 := Lib.hid (show NRel w0 W1 R (k + 1) key t1 t2 best no U (.slice ua un uc) un from ⟨by rw [nw_step HE, HN.out.st]; exact HST.out, (HH1.out).get HN.out.box fun x => x, (HH1.out).get HN.out.stamp fun x => x, HN.out.un.no (HH1.out), HN.out.mem, HN.out.kp.trans_same (HH1.out)⟩)
        go_wp2_with fail
        go_roundw
        case rel => exact ⟨k + 1, best, no, U, ua, un, uc, by omega, by omega, by go_num, rfl, rfl, rfl, HN2⟩
        case measure => simp [intOf]; omega
    · obtain rfl : k = R.length := by omega
      have hst := HN.out.st
      rw [List.take_length] at hst
      cases best with
      | none =>
        have hF : newestF key t1 t2 (R.map (·.p)) = (U, true) := by
          unfold newestF
          rw [hst]
          rfl
        have HF := Lib.hid hF
        clear hlt hst hF
        go_wp2_with fail
        go_ret2
        obtain ⟨Us, h1, h2, h3, h4⟩ := HN.out.un.out
        subst h1
        rw [HF.out]
        exact ⟨ua, uc, Us, rfl, h2, h3, h4, HKP.out⟩
      | some b =>
        obtain ⟨v0, v1, v2, v3, v4, v5⟩ := vBox HN.out.box
        have s0 : wr.cell? ⟨w0.heap.size, 0, none⟩ = some (.int .i64 t1) := by rw [cell_at HN.out.stamp]; rfl
        have s1 : wr.cell? ⟨w0.heap.size, 1, none⟩ = some (.int .i64 t2) := by rw [cell_at HN.out.stamp]; rfl
        have hcc := fun W => Seen_any b.p.m b.p.c b.p.origin (.slice b.a b.p.val.length b.cap) b.p.gone b.p.ttl t1 t2 W
        obtain ⟨z, hz⟩ : ∃ z, z = seenF b.p.m b.p.c b.p.gone b.p.ttl t1 t2 := ⟨_, rfl⟩
        have hF : newestF key t1 t2 (R.map (·.p)) = if z then (b.p.val :: U, no) else (U, true) := by
          unfold newestF
          rw [hst, hz]
          rfl
        rw [← hz] at hcc
        have HC := Lib.hid hcc
        have HF := Lib.hid hF
        clear hlt hst hF hz hcc
        go_wp2_with fail
        refine (HC.out _).mono ?_
        rintro e w2 ⟨rfl, hk2⟩
        have HK2 := Lib.hid hk2
        clear v0 v1 v2 v3 v4 v5 s0 s1 hk2
        cases z with
        | false =>
          go_wp2_with fail
          go_ret2
          obtain ⟨Us, h1, h2, h3, h4⟩ := (HN.out.un.no HK2.out).out
          subst h1
          rw [HF.out]
          exact ⟨ua, uc, Us, rfl, h2, h3, h4, HKP.out.trans_same HK2.out⟩
        | true =>
          obtain ⟨v0, v1, v2, v3, v4, v5⟩ := vBox (HK2.out.get HN.out.box fun x => x)
          have hmem := HN.out.mem b rfl
          have hcl := clone_any b.a b.cap b.p.val w2.heap.size w2 ((HA.out.each b hmem).kp (HKP.out.trans_same HK2.out)) (HV.out b hmem)
          have HCL := Lib.hid hcl
          clear hcl hmem
          go_wp2_with fail
          refine HCL.out.mono ?_
          rintro e w3 ⟨v, rfl, ho, hk3, hg3⟩
          obtain ⟨_, a4, c4, rfl, _⟩ := id ho
          have hk4 : Kp No wr (w3.alloc (.cells #[.slice a4 b.p.val.length c4] 33)) := (HK2.out.trans_same hk3).alloc _
          have hk34 : Kp No w3 (w3.alloc (.cells #[.slice a4 b.p.val.length c4] 33)) := (Kp.refl _ _).alloc _
          have hlit : URel w0 (w3.alloc (.cells #[.slice a4 b.p.val.length c4] 33)) (.slice (some ⟨w3.heap.size, 0, none⟩) 1 1) 1 [b.p.val] :=
            ⟨[⟨a4, c4, b.p.val⟩], rfl, rfl, Own.made w3 33 1 #[.slice a4 b.p.val.length c4] 1 1 (Nat.le_refl _) (by simp [maxLen]) (by simp) rfl, (fun g hg => by
              injection hg with hg
              have h1 := (HKP.out.trans_same (HK2.out.trans_same hk3)).size
              rw [← show w3.heap.size = g from hg]
              exact h1), (fun r' hr' => by
              obtain rfl := List.mem_singleton.1 hr'
              exact ho.keep hk34 fun _ _ x => x)⟩
          obtain ⟨Us, h1, h2, h3, h4, h5⟩ := HN.out.un.no hk4
          obtain ⟨a5, c5, W5, hrun, hu5, hk5⟩ := hlit.app (HKP.out.trans_same hk4).size (x := ua) (c := uc) (m := un) Us h1 h3.rd' h5 (by omega)
          have hblk := hlit.blk
          have hend : Kp No w0 W5 := (HKP.out.trans_same hk4).trans hk5 fun i hi hs => by
            have := (hblk i hs).1
            omega
          rw [h2] at hu5
          have HX := Lib.hid hrun
          have HU5 := Lib.hid hu5
          have HEnd := Lib.hid hend
          clear hrun hu5 hend hblk hk5 hlit hk4 hk34 ho hg3 h1 h2 h3 h4 h5 hk3
          go_wp2_with (at_builtin; refine wpList_append_run rfl rfl rfl rfl HX.out ?_)
          go_ret2
          obtain ⟨Vs, k1, k2, k3, k4⟩ := HU5.out.out
          rw [HF.out]
          rw [k1]
          exact ⟨a5, c5, Vs, rfl, k2, k3, k4, HEnd.out⟩
end Go.Proofs.Ytojlccligmfcaaa
