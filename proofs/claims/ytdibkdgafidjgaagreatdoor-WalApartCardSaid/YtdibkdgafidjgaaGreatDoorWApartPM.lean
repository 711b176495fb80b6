/-
  The law WalApart, plainly, and in memory: two logs on one disk.
-/
import Derived.Test.YtdibkdgafidjgaaGreatDoorWd5
import Derived.Test.YtdibkdgafidjgaaGreatDoorWd0
import Derived.Test.YtdibkdgafidjgaaGreatDoorWRowsM
import Derived.Test.YtdibkdgafidjgaaGreatDoorWc4
namespace Go.Proofs.YtdibkdgafidjgaaGreatDoor
open Go.RowKit Go.Mer
def kB : ByteArray := ⟨#[97, 98]⟩
def datasA (R : List Row) : List (List UInt8) := R.map Row.data
def w16 (R : List Row) : Nat := (R.map fun r => r.data.length + 16).sum
theorem w16_step (R : List Row) {j : Nat} (h : j < R.length) : w16 (R.take (j + 1)) = w16 (R.take j) + (R[j].data.length + 16) := by
 rw [List.take_succ_eq_append_getElem h]
 unfold w16
 rw [List.map_append, List.sum_append]
 simp
theorem w16_le (R : List Row) (j : Nat) : w16 (R.take j) ≤ w16 R := by
 conv => rhs; rw [← List.take_append_drop j R]
 unfold w16
 rw [List.map_append, List.sum_append]
 omega
def slR (R : List Row) : Nat := (R.map fun r => r.data.length).sum
theorem slR_step (R : List Row) {j : Nat} (h : j < R.length) : slR (R.take (j + 1)) = slR (R.take j) + R[j].data.length := by
 rw [List.take_succ_eq_append_getElem h]
 unfold slR
 rw [List.map_append, List.sum_append]
 simp
theorem slR_end (R : List Row) {j : Nat} (h : R.length ≤ j) : slR (R.take (j + 1)) = slR (R.take j) := by
 rw [List.take_of_length_le h, List.take_of_length_le (by omega)]
theorem w16_sl (R : List Row) : w16 R = slR R + 16 * R.length := by
 unfold w16 slR
 induction R with
 | nil => rfl
 | cons r R ih =>
  simp only [List.map_cons, List.sum_cons, List.length_cons] at ih ⊢
  omega
theorem slR_mem {R : List Row} {r : Row} (h : r ∈ R) : r.data.length ≤ slR R := by
 induction R with
 | nil => cases h
 | cons q R ih =>
  simp only [slR, List.map_cons, List.sum_cons] at *
  rcases List.mem_cons.1 h with rfl | h
  ·omega
  ·have := ih h; omega
structure ApI (P Q : ByteArray) (s : DSt) (sa sb : LSt) (T N k : Nat) : Prop where
 la : ∃ A, Laid P s sa A
 lb : ∃ B, Laid Q s sb B
 roomy : Roomy s T N
 da : sa.dead = false
 db : sb.dead = false
 fa : Fit k P s sa
 fb : Fit k Q s sb
 only : ∀ q ∈ s.files, isSegN P q.1 = true ∨ isSegN Q q.1 = true
theorem ApI.swap {P Q : ByteArray} {s : DSt} {sa sb : LSt} {T N k : Nat} (h : ApI P Q s sa sb T N k) : ApI Q P s sb sa T N k :=
 ⟨h.lb, h.la, h.roomy, h.db, h.da, h.fb, h.fa, fun q hq => (h.only q hq).symm⟩
theorem ApI.mono {P Q : ByteArray} {s : DSt} {sa sb : LSt} {T N k k' : Nat} (h : ApI P Q s sa sb T N k) (hk : k ≤ k') : ApI P Q s sa sb T N k' :=
 ⟨h.la, h.lb, h.roomy, h.da, h.db, h.fa.mono hk, h.fb.mono hk, h.only⟩
theorem Fit.disk {k : Nat} {P Q : ByteArray} {s s' : DSt} {st st' : LSt} (h : Fit k P s st) (h' : Fit k Q s' st') : Fit k P s' st :=
 ⟨h'.room, h'.ok, h.hne, h.hsl, h.no, h.ents, h.segs, h.big⟩
theorem others_only {P Q : ByteArray} {s s' : DSt} (ho : Others P s s') (h : ∀ q ∈ s.files, isSegN P q.1 = true ∨ isSegN Q q.1 = true) : ∀ q ∈ s'.files, isSegN P q.1 = true ∨ isSegN Q q.1 = true := fun q hq => by
 cases hb : isSegN P q.1 with
 | true => exact .inl rfl
 | false =>
  right
  have h1 := ho q.1 hb
  have h2 : q.1 ∈ s'.files.map (·.1) := List.mem_map.2 ⟨q, hq, rfl⟩
  rw [key_get, h1, ← key_get] at h2
  obtain ⟨q', hq', e⟩ := List.mem_map.1 h2
  rcases h q' hq' with h3 | h3
  ·rw [e, hb] at h3; cases h3
  ·rw [← e]; exact h3
theorem ap_app {P Q : ByteArray} {s : DSt} {sa sb : LSt} {T N k : Nat} (h : ApI P Q s sa sb T N k) (hPQ : Q.size ≠ P.size) (hP : P.size ≤ 50) (hk : k ≤ 1000) {p : List UInt8} (hp : p.length ≤ 262134) (hT : T + (p.length + 16) ≤ 1048576) (hN : N < 4096) :
  ApI P Q (appS P s sa p).2.1 (appS P s sa p).2.2 sb (T + (p.length + 16)) (N + 1) (k + 1) ∧ (appS P s sa p).2.2.ents = sa.ents ++ [p] := by
 obtain ⟨A, hA⟩ := h.la
 obtain ⟨B, hB⟩ := h.lb
 have hna := h.fa.ents
 have hnb := h.fb.ents
 obtain ⟨h1, h2, h3, h4, h5⟩ := app_free hA h.roomy hP h.da (by omega) hp hT hN
 obtain ⟨A', k1, k2, _, _⟩ := laid_app hA (by omega) p
 have hf := fit_app h.fa (by omega) p
 exact ⟨⟨⟨A', k1⟩, ⟨B, hB.others h5 hPQ (by omega)⟩, h2, h3, h.db, hf, (h.fb.mono (Nat.le_succ k)).disk hf, others_only h5 h.only⟩, k2 (by rw [h1])⟩
theorem ap_snc {P Q : ByteArray} {s : DSt} {sa sb : LSt} {T N k : Nat} (h : ApI P Q s sa sb T N k) (hPQ : Q.size ≠ P.size) (hk : k ≤ 1000) :
  ApI P Q (sncS P s sa).2.1 (sncS P s sa).2.2 sb T N k ∧ (sncS P s sa).2.2.ents = sa.ents ∧ (sncS P s sa).2.2.synced = (sncS P s sa).2.2.ents.length := by
 obtain ⟨A, hA⟩ := h.la
 obtain ⟨B, hB⟩ := h.lb
 have hna := h.fa.ents
 have hnb := h.fb.ents
 obtain ⟨h1, h2, h3, _, h5⟩ := snc_free hA h.roomy h.da (by omega)
 obtain ⟨k1, k2, k3, _⟩ := laid_snc hA (by omega)
 have hf := fit_snc h.fa
 exact ⟨⟨⟨A, k1⟩, ⟨B, hB.others h5 hPQ (by omega)⟩, h2, h3, h.db, hf, h.fb.disk hf, others_only h5 h.only⟩, k3, by rw [k2 h1, k3]⟩
theorem ap_end {P Q : ByteArray} {s : DSt} {sa sb : LSt} {T N k : Nat} (h : ApI P Q s sa sb T N k) (hPQ : Q.size ≠ P.size) (hk : k ≤ 1000) (ha : sa.synced = sa.ents.length) (hb : sb.synced = sb.ents.length) (hle : ∀ q ∈ s.files, q.2.lasts ≤ q.2.data.length) (keep : Int) (t : UInt8) :
  Free (crS s keep t) ∧ (crS s keep t).room = 1048576 ∧ ∃ s1 sa1, openS P (crS s keep t) (nmS (crS s keep t).files) = (0, s1, sa1) ∧ Opened P (crS s keep t) s1 sa1 ∧ sa1.ents = sa.ents ∧ Free s1 ∧ s1.room = 1048576 ∧ ∃ s2 sb2, openS Q s1 (nmS s1.files) = (0, s2, sb2) ∧ Opened Q s1 s2 sb2 ∧ sb2.ents = sb.ents := by
 obtain ⟨A, hA⟩ := h.la
 obtain ⟨B, hB⟩ := h.lb
 have hna := h.fa.ents
 have hnb := h.fb.ents
 have hfull : FullF s.files := fun q hq => by
  rcases h.only q hq with hx | hx
  ·exact hA.fullAt h.roomy.free ha hle q hq hx
  ·exact hB.fullAt h.roomy.free hb hle q hq hx
 have hcf := crS_fullT hfull keep t
 have hfr := crS_freeF h.roomy.free.ok h.roomy.free.nodup keep t
 obtain ⟨s1, sa1, o1, o2, o3, _⟩ := laid_open (hA.disk hcf) hfr (by omega)
 have hB1 : Laid Q s1 sb B := (hB.disk hcf).others o2.other hPQ (by omega)
 obtain ⟨s2, sb2, u1, u2, u3, _⟩ := laid_open hB1 o2.free (by omega)
 exact ⟨hfr, h.roomy.room, s1, sa1, o1, o2, o3.trans hA.ents.symm, o2.free, o2.room.trans h.roomy.room, s2, sb2, u1, u2, u3.trans hB.ents.symm⟩
def Ap (w W : World) (p d r l m : Nat) (lv xv : Value) (P Q : ByteArray) (s : DSt) (sa sb : LSt) : Prop :=
 ∃ F G H, W.heap[p]? = some (cellP d r lv xv) ∧ DiskAt W d s F ∧ LogAt W l d P sa G ∧ LogAt W m d Q sb H ∧ Kp No w W ∧ w.heap.size ≤ p ∧ (∀ k, F k ∨ G k ∨ H k → w.heap.size ≤ k ∧ k ≠ p) ∧ (∀ k, F k → ¬ G k) ∧ (∀ k, F k → ¬ H k) ∧ ∀ k, G k → ¬ H k
section
variable {w W W' : World} {p d r l m : Nat} {lv xv : Value} {P Q : ByteArray} {s s' : DSt} {sa sb st' : LSt}
theorem Ap.swap (h : Ap w W p d r l m lv xv P Q s sa sb) : Ap w W p d r m l lv xv Q P s sb sa := by
 obtain ⟨F, G, H, h1, h2, h3, h4, h5, h6, h7, h8, h9, h10⟩ := h
 exact ⟨F, H, G, h1, h2, h4, h3, h5, h6, fun k hk => h7 k (hk.imp id Or.symm), h9, h8, fun k a b => h10 k b a⟩
theorem Ap.no (h : Ap w W p d r l m lv xv P Q s sa sb) (hk : Kp No W W') : Ap w W' p d r l m lv xv P Q s sa sb := by
 obtain ⟨F, G, H, h1, h2, h3, h4, h5, h6, h7, h8, h9, h10⟩ := h
 exact ⟨F, G, H, hk.get h1 (fun x => x), h2.keep_no hk, h3.keep_no hk, h4.keep_no hk, h5.trans_same hk, h6, h7, h8, h9, h10⟩
theorem Ap.kp (h : Ap w W p d r l m lv xv P Q s sa sb) : Kp No w W := by
 obtain ⟨_, _, _, _, _, _, _, h5, _⟩ := h
 exact h5
theorem Ap.call (h : Ap w W p d r l m lv xv P Q s sa sb) : ∃ F G, WAt W d l P s sa F G ∧ (∀ k, Both F G k → w.heap.size ≤ k) ∧ ¬ Both F G p ∧ p < W.heap.size ∧ W.heap[p]? = some (cellP d r lv xv) ∧ ∀ W' s' st', SaidW W d l P F G s' st' W' → Ap w W' p d r l m lv xv P Q s' st' sb := by
 obtain ⟨F, G, H, h1, h2, h3, h4, h5, h6, h7, h8, h9, h10⟩ := h
 have hnp : ¬ Both F G p := fun hp => hp.elim (fun y => (h7 p (.inl y)).2 rfl) fun y => (h7 p (.inr (.inl y))).2 rfl
 have hpl := get_lt h1
 refine ⟨F, G, ⟨h2, h3, h8⟩, fun k hk => hk.elim (fun y => (h7 k (.inl y)).1) fun y => (h7 k (.inr (.inl y))).1, hnp, hpl, h1, ?_⟩
 rintro W' s' st' ⟨F', G', k1, k2, k3, k4⟩
 have hHl := h4.lt
 have hsz := h5.size
 refine ⟨F', G', H, k4.get h1 hnp, k1.disk, k1.log, h4.keep k4 fun k hk hb => hb.elim (fun y => h9 k y hk) fun y => h10 k y hk, h5.trans k4 fun i hi hb => ?_, h6, fun k hk => ?_, k1.sep, fun k hf hh => ?_, fun k hg hh => ?_⟩
 ·have := hb.elim (fun y => (h7 i (.inl y)).1) fun y => (h7 i (.inr (.inl y))).1
  omega
 ·rcases hk with hk | hk | hk
  ·rcases k2 k hk with h | h
   ·exact h7 k (.inl h)
   ·exact ⟨by omega, by omega⟩
  ·rcases k3 k hk with h | h
   ·exact h7 k (.inr (.inl h))
   ·exact ⟨by omega, by omega⟩
  ·exact h7 k (.inr (.inr hk))
 ·rcases k2 k hf with h | h
  ·exact h9 k h hh
  ·have := hHl k hh; omega
 ·rcases k3 k hg with h | h
  ·exact h10 k h hh
  ·have := hHl k hh; omega
theorem Ap.disk (h : Ap w W p d r l m lv xv P Q s sa sb) : ∃ F, DiskAt W d s F ∧ (∀ k, F k → w.heap.size ≤ k) ∧ ¬ F p ∧ p < W.heap.size ∧ W.heap[p]? = some (cellP d r lv xv) ∧
  (∀ W' s', DiskAt W' d s' F → Kp F W W' → Ap w W' p d r l m lv xv P Q s' sa sb) ∧
  ∀ W' s' st' l' F' G', WAt W' d l' P s' st' F' G' → Foot F F' W → (∀ k, G' k → W.heap.size ≤ k) → Kp F W W' → Ap w W' p d r l' m lv xv P Q s' st' sb := by
 obtain ⟨F, G, H, h1, h2, h3, h4, h5, h6, h7, h8, h9, h10⟩ := h
 have hnp : ¬ F p := fun y => (h7 p (.inl y)).2 rfl
 have hpl := get_lt h1
 have hHl := h4.lt
 have hsz := h5.size
 refine ⟨F, h2, fun k hk => (h7 k (.inl hk)).1, hnp, hpl, h1, fun W' s' k1 k2 => ?_, fun W' s' st' l' F' G' k1 k2 k3 k4 => ?_⟩
 ·exact ⟨F, G, H, k2.get h1 hnp, k1, h3.keep k2 fun k a b => h8 k b a, h4.keep k2 fun k a b => h9 k b a, h5.trans k2 fun i hi hb => by have := (h7 i (.inl hb)).1; omega, h6, h7, h8, h9, h10⟩
 ·refine ⟨F', G', H, k4.get h1 hnp, k1.disk, k1.log, h4.keep k4 fun k a b => h9 k b a, h5.trans k4 fun i hi hb => by have := (h7 i (.inl hb)).1; omega, h6, fun k hk => ?_, k1.sep, fun k hf hh => ?_, fun k hg hh => ?_⟩
  ·rcases hk with hk | hk | hk
   ·rcases k2 k hk with h | h
    ·exact h7 k (.inl h)
    ·exact ⟨by omega, by omega⟩
   ·have := k3 k hk
    exact ⟨by omega, by omega⟩
   ·exact h7 k (.inr (.inr hk))
  ·rcases k2 k hf with h | h
   ·exact h9 k h hh
   ·have := hHl k hh; omega
  ·have := k3 k hg
   have := hHl k hh
   omega
theorem Ap.logs (h : Ap w W p d r l m lv xv P Q s sa sb) : (∃ G, LogAt W l d P sa G) ∧ ∃ H, LogAt W m d Q sb H := by
 obtain ⟨F, G, H, h1, h2, h3, h4, _⟩ := h
 exact ⟨⟨G, h3⟩, H, h4⟩
end
theorem Ap.make {w W : World} {p d r l x : Nat} {P Q : ByteArray} {s s' s2 : DSt} {sa sb st2 : LSt} {Z : Nat → Prop} (h : PL w W p d r l x P s sa s2 st2 Z) : ∃ F, DiskAt W d s F ∧ (∀ k, F k → w.heap.size ≤ k) ∧
  ∀ W' m F' G', WAt W' d m Q s' sb F' G' → Foot F F' W → (∀ k, G' k → W.heap.size ≤ k) → Kp F W W' → Ap w W' p d r l m (ptrV l) (ptrV x) P Q s' sa sb := by
 obtain ⟨F, G, H, K, h1, h2, h3, h4, hZ⟩ := h
 refine ⟨F, h2.disk, fun k hk => h4.an k (.inl hk), fun W' m F' G' k1 k2 k3 k4 => ?_⟩
 have hsz := h4.kp.size
 have hpl := h4.pl
 have hGl := h2.log.lt
 refine ⟨F', G, G', k4.get h1 fun hp => h4.pa (.inl hp), k1.disk, h2.log.keep k4 fun k a b => h2.sep k b a, k1.log, h4.kp.trans k4 fun i hi hb => by have := h4.an i (.inl hb); omega, h4.pn, fun k hk => ?_, fun k hf hg => ?_, k1.sep, fun k hg hh => ?_⟩
 ·rcases hk with hk | hk | hk
  ·rcases k2 k hk with h | h
   ·exact ⟨h4.an k (.inl h), fun e => h4.pa (.inl (e ▸ h))⟩
   ·exact ⟨by omega, by omega⟩
  ·exact ⟨h4.an k (.inr hk), fun e => h4.pa (.inr (e ▸ hk))⟩
  ·have := k3 k hk
   exact ⟨by omega, by omega⟩
 ·rcases k2 k hf with h | h
  ·exact h2.sep k h hg
  ·have := hGl k hg; omega
 ·have := k3 k hh
  have := hGl k hg
  omega
end Go.Proofs.YtdibkdgafidjgaaGreatDoor

