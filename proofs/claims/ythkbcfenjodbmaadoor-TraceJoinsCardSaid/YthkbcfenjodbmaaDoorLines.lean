/-
  trace's Lines.
-/
import Derived.Test.YthkbcfenjodbmaaDoorLineAny
namespace Go.Mer
open Go Go.RowKit
theorem chunk_get {α : Type} (f : α → List Value) (c : Nat) (hf : ∀ x, (f x).length = c) : ∀ (L : List α) {k j : Nat} (h : k < L.length), j < c → (L.flatMap f)[k * c + j]? = (f L[k])[j]?
  | [], k, j, h, _ => by simp at h
  | x :: L, k, j, h, hj => by
    rw [List.flatMap_cons]
    cases k with
    | zero =>
      rw [List.getElem?_append_left (by rw [hf]; omega)]
      simp
    | succ k =>
      rw [List.getElem?_append_right (by rw [hf, Nat.add_mul]; omega), hf, show (k + 1) * c + j - c = k * c + j from by rw [Nat.add_mul]; omega]
      exact chunk_get f c hf L (by simpa using h) hj
theorem rd_chunk {α : Type} {w : World} {a : Option Addr} {f : α → List Value} {c : Nat} (hf : ∀ x, (f x).length = c) (h0 : 0 < c) {L : List α} (h : Rd w w.heap.size a (L.flatMap f)) {k : Nat} (hk : k < L.length) :
    ∃ g off, a = some ⟨g, off, none⟩ ∧ ∀ W, Kp No w W → ∀ j u, (f L[k])[j]? = some u → W.cell? ⟨g, off + k * c + j, none⟩ = some u := by
  have hpos : 0 < (L.flatMap f).length := by
    have h1 := chunk_get f c hf L hk (j := 0) h0
    have h2 : (f L[k])[0]? = some ((f L[k])[0]'(by rw [hf]; exact h0)) := List.getElem?_eq_getElem _
    rw [h2] at h1
    have := (List.getElem?_eq_some_iff.1 h1).1
    omega
  obtain ⟨g, off, ha, hg, _, hc⟩ := h hpos
  refine ⟨g, off, ha, fun W hW j u hu => ?_⟩
  have hj : j < c := by rw [← hf L[k]]; exact (List.getElem?_eq_some_iff.1 hu).1
  rw [hW.cell (p := ⟨g, off + k * c + j, none⟩) hg (fun x => x), Nat.add_assoc]
  exact hc _ u (by rw [chunk_get f c hf L hk hj]; exact hu)
end Go.Mer
namespace Go.Proofs.YthkbcfenjodbmaaDoor
open Go.RowKit Go.Mer

def lineB (p : StepR × AnsR) : List UInt8 := (lineS p.1.kind p.1.node p.2).data.toList ++ [10]
def linesL (S : List StepR) (A : List AnsR) : List UInt8 := (S.zip A).flatMap lineB
theorem builder_keep {B b : Nat} {bs : List Value} {w w' : World} (h : Lib.IsBuilder 45 5 B b bs w) (hk : Kp No w w') : Lib.IsBuilder 45 5 B b bs w' := by
  have key : ∀ p, Lib.BuilderAt 45 5 B b p bs w → Lib.BuilderAt 45 5 B b p bs w' := by
    rintro p ⟨hB, v, hb, ⟨hl, ho⟩, hne⟩
    refine ⟨hB, v, hk.get hb fun x => x, ⟨hl, ?_⟩, hne⟩
    rcases ho with ho | ⟨g, cap, cur, h1, h2, h3, h4⟩
    · exact .inl ho
    · exact .inr ⟨g, cap, cur, h1, h2, hk.get h3 fun x => x, h4⟩
  exact h.elim (fun x => .inl (key _ x)) (fun x => .inr (key _ x))
theorem cells_eq (l : List UInt8) (s : ByteArray) : Lib.byteCells l ++ Lib.strCells s = Lib.byteCells (l ++ s.data.toList) := by simp [Lib.byteCells, Lib.strCells]
structure Args (w : World) (sa : Option Addr) (S : List StepR) (aa : Option Addr) (A : List AnsR) : Prop where
  steps : Rd w w.heap.size sa (S.flatMap StepR.cells)
  answers : Rd w w.heap.size aa (A.flatMap AnsR.cells)
  ints : ∀ s ∈ S, I64 s.kind ∧ I64 s.node
  each : ∀ r ∈ A, r.At w ∧ r.light
theorem Args.keep {w w' : World} {sa : Option Addr} {S : List StepR} {aa : Option Addr} {A : List AnsR} (h : Args w sa S aa A) (hk : Kp No w w') : Args w' sa S aa A :=
  ⟨h.steps.kp hk, h.answers.kp hk, h.ints, fun r hr => ⟨(h.each r hr).1.keep hk, (h.each r hr).2⟩⟩
def BRel (w wr : World) (l : List UInt8) : Prop := Lib.IsBuilder 45 5 w.heap.size w.heap.size (Lib.byteCells l) wr ∧ Kp No w wr
set_option maxRecDepth 100000 in
set_option maxHeartbeats 2000000 in
theorem Lines_any (w : World) (sa : Option Addr) (sc : Nat) (S : List StepR) (aa : Option Addr) (ac : Nat) (A : List AnsR) (h : Args w sa S aa A) (hS : S.length ≤ 40) (ht : Pow w) :
    Calls Tryd.prog 9 #[.slice sa S.length sc, .slice aa A.length ac] w fun e w' => e = .returned (.string ⟨(linesL S A).toArray⟩) ∧ Kp No w w' := by
  have HA := Lib.hid h
  have HT := Lib.hid ht
  have hB0 : Lib.IsBuilder 45 5 w.heap.size w.heap.size (Lib.byteCells []) (w.alloc (.cells #[.pointer none, .slice none 0 0] 45)) :=
    .inl ⟨Nat.le_refl _, .slice none 0 0, heap_alloc_new w _, World.ownsRow_nil _ _ _ _, by simp [Value.ownBlock]⟩
  have HB0 := Lib.hid hB0
  obtain ⟨M, hM⟩ : ∃ M, M = (S.zip A).length := ⟨_, rfl⟩
  have hM' : M = min S.length A.length := by rw [hM, List.length_zip]
  have hMi : min (S.length : Int) (A.length : Int) = (M : Int) := by omega
  have hM40 : M ≤ S.length ∧ M ≤ A.length := by omega
  obtain ⟨hMS, hMA⟩ := hM40
  have HM := Lib.hid hM
  clear h ht hB0 hM hM'
  go_enter Tryd.func9, Tryd.ntmps9
  go_wp2_with fail
  rename World => w0
  go_loopw [12] (fun i wr => ∃ k : Nat, k ≤ M ∧ i = .int .i64 (k : Int) ∧ BRel w0 wr (((S.zip A).take k).flatMap lineB) ∧ Hid ((((S.zip A).take k).flatMap lineB).length ≤ k * 200000001)) (fun i _ => M - (intOf i).toNat)
  case atStart => exact ⟨0, Nat.zero_le _, rfl, ⟨HB0.out, (Kp.refl _ _).alloc _⟩, Lib.hid (by simp)⟩
  case round =>
    obtain ⟨k, hk, rfl, hB, HL⟩ := hrel
    have HB := Lib.hid hB
    have hkp := hB.2
    clear hB
    by_cases hlt : k < M
    · have hlz : k < (S.zip A).length := by rw [← HM.out]; exact hlt
      have hkS : k < S.length := by omega
      have hkA : k < A.length := by omega
      have HE := Lib.hid (show ((S.zip A).take (k + 1)).flatMap lineB = ((S.zip A).take k).flatMap lineB ++ lineB (S[k], A[k]) from by rw [List.take_succ_eq_append_getElem hlz, List.flatMap_append, List.getElem_zip]; simp)
      obtain ⟨g, off, rfl, l0⟩ := rd_chunk (f := StepR.cells) (c := 10) (fun _ => rfl) (by decide) HA.out.steps hkS
      obtain ⟨g', off', rfl, l1⟩ := rd_chunk (f := AnsR.cells) (c := 7) (fun _ => rfl) (by decide) HA.out.answers hkA
      obtain ⟨i1, i2⟩ := HA.out.ints _ (List.getElem_mem hkS)
      obtain ⟨hat, hlight⟩ := HA.out.each _ (List.getElem_mem hkA)
      obtain ⟨s, hs⟩ : ∃ s, s = S[k] := ⟨_, rfl⟩
      obtain ⟨r, hr⟩ : ∃ r, r = A[k] := ⟨_, rfl⟩
      rw [← hs] at l0 i1 i2 HE
      rw [← hr] at l1 hat hlight HE
      obtain ⟨kd, nd, v2, v3, v4, v5, v6, v7, v8, v9⟩ := s
      obtain ⟨err, n, mi, co, fo, a, cap, D, pa, pcap, PS⟩ := r
      clear hs hr
      have s0 := fun W hW => l0 W hW 0 _ rfl
      have s1 := fun W hW => l0 W hW 1 _ rfl
      have s2 := fun W hW => l0 W hW 2 _ rfl
      have s3 := fun W hW => l0 W hW 3 _ rfl
      have s4 := fun W hW => l0 W hW 4 _ rfl
      have s5 := fun W hW => l0 W hW 5 _ rfl
      have s6 := fun W hW => l0 W hW 6 _ rfl
      have s7 := fun W hW => l0 W hW 7 _ rfl
      have s8 := fun W hW => l0 W hW 8 _ rfl
      have s9 := fun W hW => l0 W hW 9 _ rfl
      have t0 := fun W hW => l1 W hW 0 _ rfl
      have t1 := fun W hW => l1 W hW 1 _ rfl
      have t2 := fun W hW => l1 W hW 2 _ rfl
      have t3 := fun W hW => l1 W hW 3 _ rfl
      have t4 := fun W hW => l1 W hW 4 _ rfl
      have t5 := fun W hW => l1 W hW 5 _ rfl
      have t6 := fun W hW => l1 W hW 6 _ rfl
      rw [Nat.add_zero] at s0 t0
      have HLine := Lib.hid (fun W (hW : Kp No w0 W) => Line_any W kd nd v2 v3 v4 v5 v6 v7 v8 v9 err n mi co fo a cap D pa pcap PS (hat.keep hW) hlight i1 i2 (HT.out.keep hW))
      have hlen := lineS_len i1 i2 hat.ints hlight
      obtain ⟨T, hT⟩ : ∃ T, T = lineS kd nd (AnsR.mk err n mi co fo a cap D pa pcap PS) := ⟨_, rfl⟩
      rw [← hT] at hlen
      have HTT := Lib.hid hT
      obtain ⟨L, hLL⟩ : ∃ L, L = ((S.zip A).take k).flatMap lineB := ⟨_, rfl⟩
      rw [← hLL] at HB HL HE
      have hll : L.length ≤ k * 200000001 := HL.out
      clear l0 l1 i1 i2 hat hlight hT hlz hLL
      go_wp2_with fail
      refine wp_region_held' (Kp No w0) [0,0,0,0,0,0,0,0,2,0,2] [0,1,2,3,4,5,6,7,8,9,10] (by kernel_rfl) (by kernel_rfl) (fun _ n h => h.drewN n) hkp ?_
      repeat (first
        | (apply wpOrd_skip rfl (by decide) rfl; (focus (go_simp; rfl)))
        | (apply wpOrd_pure rfl rfl rfl; (focus (intro _ _; go_simp; (try go_ints); rfl)); (focus (go_simp; rfl)))
        | (apply wpOrd_read rfl rfl rfl; (focus (intro _; go_simp; (try go_ints); rfl)); (focus (go_simp; rfl))))
      refine wpOrd_eff rfl rfl (fun n1 => ?_)
      go_wp2_with fail
      refine (HLine.out _ (hkp.drewN n1)).mono ?_
      rintro e w4 ⟨rfl, hk4⟩
      rw [← HTT.out]
      have k4 : Kp No wr w4 := hk4.of_drewN
      have hw4 : Kp No w0 w4 := hkp.trans_same k4
      have HB4 := Lib.hid (fun n2 => builder_keep HB.out.1 (k4.drewN n2))
      clear hk4 k4
      go_wp2_with fail
      refine wpOrd_pure rfl rfl rfl (v := .string (T ++ ⟨#[10]⟩)) ?_ rfl ?_
      · intro _ _
        go_simp
        omega
      have s11 : (T ++ ⟨#[10]⟩).size ≤ 200000001 := by rw [ByteArray.size_append]; show _ + 1 ≤ _; omega
      refine wpOrd_eff rfl rfl (fun n2 => ?_)
      have hcc := wstr w0.heap.size w0.heap.size (Lib.byteCells L) (T ++ ⟨#[10]⟩) (w4.drewN n2) (HB4.out n2) (by rw [Lib.byteCells_length]; omega) hw4.size
      have HCC := Lib.hid hcc
      clear hcc s0 s1 s2 s3 s4 s5 s6 s7 s8 s9 t0 t1 t2 t3 t4 t5 t6
      go_wp2_with fail
      refine HCC.out.mono ?_
      rintro e w5 ⟨rfl, hb5, hbelow⟩
      have hw5 : Kp No w0 w5 := (hw4.drewN n2).trans (Kp.of_below (S := fun k => w0.heap.size ≤ k) hbelow (fun k _ h => h)) (fun i hi h => by omega)
      have HB5 := Lib.hid hb5
      clear hb5 hbelow
      go_wp2_with fail
      repeat (first
        | (apply wpOrd_skip rfl (by decide) rfl; (focus (go_simp; rfl)))
        | (apply wpOrd_pure rfl rfl rfl; (focus (intro _ _; go_simp; (try go_ints); rfl)); (focus (go_simp; rfl)))
        | (apply wpOrd_read rfl rfl rfl; (focus (intro _; go_simp; (try go_ints); rfl)); (focus (go_simp; rfl))))
      refine wpOrd_nil (fun nq => ?_)
      go_wp2_with fail
      have hlb : (lineB (StepR.mk kd nd v2 v3 v4 v5 v6 v7 v8 v9, AnsR.mk err n mi co fo a cap D pa pcap PS)) = T.data.toList ++ [10] := by rw [show T = _ from HTT.out]; rfl
      have hce : Lib.byteCells L ++ Lib.strCells (T ++ ⟨#[10]⟩) = Lib.byteCells (((S.zip A).take (k + 1)).flatMap lineB) := by
        rw [cells_eq, HE.out, hlb]
        simp [ByteArray.data_append]
      have hlen2 : (((S.zip A).take (k + 1)).flatMap lineB).length ≤ (k + 1) * 200000001 := by
        rw [HE.out, hlb, List.length_append, List.length_append]
        have : T.data.toList.length = T.size := Array.length_toList
        simp only [List.length_cons, List.length_nil]
        omega
      have hb6 : BRel w0 (w5.drewN nq) (((S.zip A).take (k + 1)).flatMap lineB) := by
        refine ⟨?_, hw5.drewN nq⟩
        rw [← hce]
        exact builder_keep (.inr HB5.out) ((Kp.refl _ _).drewN nq)
      clear hce hlb
      go_roundw
      case rel => exact ⟨k + 1, by omega, by go_num, hb6, Lib.hid hlen2⟩
      case measure => simp [intOf]; omega
    · obtain rfl : k = M := by omega
      have hall : ((S.zip A).take k).flatMap lineB = linesL S A := by rw [show k = _ from HM.out, List.take_length]; rfl
      have hcc := Tryd.Builder_String_any w0.heap.size w0.heap.size _ wr HB.out.1 hkp.size
      rw [hall] at hcc
      have HCC := Lib.hid hcc
      clear hall hcc hlt
      go_wp2_with fail
      refine HCC.out.mono ?_
      rintro e w5 ⟨rfl, hbelow⟩
      have hw5 : Kp No w0 w5 := hkp.trans (Kp.of_below (S := fun k => w0.heap.size ≤ k) hbelow (fun k _ h => h)) (fun i hi h => by omega)
      clear hbelow
      go_wp2_with fail
      go_ret
      exact ⟨rfl, hw5⟩
end Go.Proofs.YthkbcfenjodbmaaDoor
