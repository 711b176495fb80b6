/-
  Texts laid together: WFit3, SWrites, SOf, SWr.
-/
import Derived.Test.YtgnkmjeoaoongaaGreatDoorSc4
import Derived.Test.YtgnkmjeoaoongaaGreatDoorSb7
import Derived.Test.YtgnkmjeoaoongaaGreatDoorSc0
import Derived.Test.YtgnkmjeoaoongaaGreatDoorSa4
import Derived.Test.YtgnkmjeoaoongaaGreatDoorSb3
import Derived.Test.YtgnkmjeoaoongaaGreatDoorSa1
namespace Go.Proofs.YtgnkmjeoaoongaaGreatDoor
open Go.RowKit Go.Mer
structure Fit (k : Nat) (P : ByteArray) (s : DSt) (st : LSt) : Prop where
 room : s.room ≤ 1048576
 ok : FilesOk s.files
 hne : st.segs = [] → st.ents.length ≤ st.synced
 hsl : st.synced ≤ st.ents.length
 no : ∀ z ∈ st.segs, z.1 ≤ st.ents.length + 1
 ents : st.ents.length ≤ 90000 + k
 segs : st.segs.length ≤ 5000 + k
 big : ∀ z ∈ st.segs, z.2 ≤ 300000 * (k + 7)
theorem Fit.mono {k k' : Nat} {P : ByteArray} {s : DSt} {st : LSt} (h : Fit k P s st) (hk : k ≤ k') : Fit k' P s st :=
 ⟨h.room, h.ok, h.hne, h.hsl, h.no, by have := h.ents; omega, by have := h.segs; omega, fun z hz => by have := h.big z hz; omega⟩
structure Whole (P : ByteArray) (s : DSt) (st : LSt) : Prop where
 tr : Tracked P s st
 only : ∀ p ∈ s.files, isSegN P p.1 = true → ∃ z ∈ st.segs, p.1 = bnm P z.1
 rise : st.segs.Pairwise fun y z => y.1 < z.1
 pos : ∀ z ∈ st.segs, 0 < z.2 → z.1 ≤ st.ents.length
theorem five_ok {s : DSt} {x : ByteArray} {c : Int} {fs : Files} (h : FilesOk s.files) (hf : nameOk x = true → FilesOk fs) : FilesOk (five s [x] c fs).2.files ∧ (five s [x] c fs).2.room = s.room := by
 unfold five
 split
 ·exact ⟨h, rfl⟩
 ·split
  ·next hx =>
   split
   ·exact ⟨hf (by simpa using hx), rfl⟩
   ·exact ⟨h, rfl⟩
  ·exact ⟨h, rfl⟩
theorem sy_ok {s : DSt} (h : FilesOk s.files) (x : ByteArray) : FilesOk (syS s x).2.files ∧ (syS s x).2.room = s.room := five_ok h fun hx => by
 unfold syFiles
 split
 ·exact ok_gset h hx
 ·exact h
theorem wr_ok {s : DSt} (h : FilesOk s.files) (x : ByteArray) (p : List UInt8) : FilesOk (wrS s x p).2.files ∧ (wrS s x p).2.room = s.room := five_ok h fun hx => by
 unfold wrFiles
 split
 ·exact ok_gset h hx
 ·exact ok_gset h hx
def SameData (l l' : Files) : Prop := (∀ y, (rdS l' y).1 = (rdS l y).1) ∧ ∀ p ∈ l', ∃ q ∈ l, q.1 = p.1
theorem SameData.refl (l : Files) : SameData l l := ⟨fun _ => rfl, fun p hp => ⟨p, hp, rfl⟩⟩
theorem Whole.same {P : ByteArray} {s s' : DSt} {st st' : LSt} (h : Whole P s st) (hd : SameData s.files s'.files) (he : st'.ents = st.ents) (hs : st'.segs = st.segs) : Whole P s' st' := by
 refine ⟨fun S1 z hz => ?_, fun p hp hx => ?_, by rw [hs]; exact h.rise, by rw [hs, he]; exact h.pos⟩
 ·rw [hd.1]
  exact h.tr S1 z (hs ▸ hz)
 ·obtain ⟨q, hq, e⟩ := hd.2 p hp
  rw [← e] at hx ⊢
  rw [hs]
  exact h.only q hq hx
theorem fit_syncs {k : Nat} {P : ByteArray} {s : DSt} {st : LSt} (h : Fit k P s st) : Fit k P (syncsS P s st).2.1 (syncsS P s st).2.2 := by
 unfold syncsS
 split
 ·split
  ·exact h
  ·next z _ =>
   have h1 := sy_ok h.ok (bnm P z.1)
   simp only
   split
   ·exact ⟨by rw [h1.2]; exact h.room, h1.1, fun _ => Nat.le_refl _, Nat.le_refl _, h.no, h.ents, h.segs, h.big⟩
   ·exact ⟨by rw [h1.2]; exact h.room, h1.1, h.hne, h.hsl, h.no, h.ents, h.segs, h.big⟩
 ·exact h
theorem Fit.dead {k : Nat} {P : ByteArray} {s : DSt} {st : LSt} (h : Fit k P s st) (b : Bool) : Fit k P s { st with dead := b } := ⟨h.room, h.ok, h.hne, h.hsl, h.no, h.ents, h.segs, h.big⟩
theorem fit_pre {k : Nat} {P : ByteArray} {s : DSt} {st : LSt} (h : Fit k P s st) : Fit k P (preS P s st).2.1 (preS P s st).2.2 := by
 unfold preS
 split
 ·exact fit_syncs h
 ·exact h
theorem segs_cases (st : LSt) : st.segs = [] ∨ ∃ S1 z, st.segs = S1 ++ [z] := by
 rcases List.eq_nil_or_concat st.segs with h | ⟨S1, z, h⟩
 ·exact .inl h
 ·exact .inr ⟨S1, z, by rw [h, List.concat_eq_append]⟩
theorem add_segs {st : LSt} {p : List UInt8} : (freshS st = true ∧ (addS st p).segs = st.segs ++ [(st.ents.length + 1, (entL (st.ents.length + 1) p).length)]) ∨
  (freshS st = false ∧ ∃ S1 z, st.segs = S1 ++ [z] ∧ (addS st p).segs = S1 ++ [(z.1, z.2 + (entL (st.ents.length + 1) p).length)]) := by
 cases hf : freshS st with
 | true => exact .inl ⟨rfl, by unfold addS; rw [if_pos hf]⟩
 | false =>
  rcases segs_cases st with h | ⟨S1, z, h⟩
  ·rw [fresh_none h] at hf; cases hf
  ·refine .inr ⟨rfl, S1, z, h, ?_⟩
   rw [add_old hf h]
theorem fit_add {k : Nat} {P : ByteArray} {s : DSt} {st : LSt} (h : Fit k P s st) (hk : k ≤ 100000) {p : List UInt8} (hp : p.length ≤ 262134) {s' : DSt} (hs : FilesOk s'.files ∧ s'.room = s.room) : Fit (k + 1) P s' (addS st p) := by
 have he := h.ents
 have hsg := h.segs
 have hel := entL_len (st.ents.length + 1) (by omega) p
 have hea : (addS st p).ents = st.ents ++ [p] := rfl
 have hsa : (addS st p).synced = st.synced := rfl
 have hsl := h.hsl
 refine ⟨by rw [hs.2]; exact h.room, hs.1, fun h0 => ?_, ?_, fun z hz => ?_, ?_, ?_, fun z hz => ?_⟩
 ·rcases add_segs (st := st) (p := p) with ⟨_, h1⟩ | ⟨_, S1, z, _, h1⟩ <;> rw [h1] at h0 <;> simp at h0
 ·rw [hea, hsa, List.length_append]; omega
 ·rw [hea, List.length_append, List.length_singleton]
  rcases add_segs (st := st) (p := p) with ⟨_, h1⟩ | ⟨_, S1, z', h2, h1⟩
  ·rw [h1] at hz
   rcases List.mem_append.1 hz with hz | hz
   ·have := h.no z hz; omega
   ·obtain rfl := List.mem_singleton.1 hz
    simp only
    omega
  ·rw [h1] at hz
   rcases List.mem_append.1 hz with hz | hz
   ·have := h.no z (by rw [h2]; exact List.mem_append_left _ hz); omega
   ·obtain rfl := List.mem_singleton.1 hz
    have := h.no z' (by rw [h2]; simp)
    simp only
    omega
 ·rw [hea, List.length_append, List.length_singleton]; omega
 ·rcases add_segs (st := st) (p := p) with ⟨_, h1⟩ | ⟨_, S1, z', h2, h1⟩
  ·rw [h1, List.length_append, List.length_singleton]; omega
  ·rw [h2] at hsg
   rw [h1]
   simp only [List.length_append, List.length_singleton] at hsg ⊢
   omega
 ·rcases add_segs (st := st) (p := p) with ⟨_, h1⟩ | ⟨_, S1, z', h2, h1⟩
  ·rw [h1] at hz
   rcases List.mem_append.1 hz with hz | hz
   ·have := h.big z hz; omega
   ·obtain rfl := List.mem_singleton.1 hz
    simp only
    omega
  ·rw [h1] at hz
   rcases List.mem_append.1 hz with hz | hz
   ·have := h.big z (by rw [h2]; exact List.mem_append_left _ hz); omega
   ·obtain rfl := List.mem_singleton.1 hz
    have := h.big z' (by rw [h2]; simp)
    simp only
    omega
theorem fit_app {k : Nat} {P : ByteArray} {s : DSt} {st : LSt} (h : Fit k P s st) (hk : k ≤ 100000) (p : List UInt8) : Fit (k + 1) P (appS P s st p).2.1 (appS P s st p).2.2 := by
 have hm := fun {s : DSt} {st : LSt} (h : Fit k P s st) => h.mono (Nat.le_succ k)
 unfold appS
 split
 ·exact hm h
 ·split
  ·exact hm h
  ·next hpl =>
   have h1 := fit_pre h
   split
   ·simp only
    have h2 := wr_ok h1.ok (toN P st) (entL (st.ents.length + 1) p)
    split
    ·exact fit_add h1 hk (by omega) h2
    ·exact hm ((⟨by rw [h2.2]; exact h1.room, h2.1, h1.hne, h1.hsl, h1.no, h1.ents, h1.segs, h1.big⟩ : Fit k P _ _).dead _)
   ·exact hm (h1.dead _)
end Go.Proofs.YtgnkmjeoaoongaaGreatDoor
namespace Go.Proofs.YtgnkmjeoaoongaaGreatDoor
open Go.RowKit Go.Mer
def wroteS (st : SSt) (q : Int) : SSt := if q = 0 then { st with n := st.n + 1 } else { st with dead := true }
theorem wrote_ok (st : SSt) {q : Int} (h : q = 0) : wroteS st q = { st with n := st.n + 1 } := if_pos h
theorem wrote_no (st : SSt) {q : Int} (h : q ≠ 0) : wroteS st q = { st with dead := true } := if_neg h
def WrtS (w : World) (s d l : Nat) (P Q : ByteArray) (o : Nat) (st : SSt) (m : Nat) (cs : ChL) (ka : Option Addr) (kc : Nat) (K : List RecR) (F G : Nat → Prop) (q : Int × DSt × LSt) (w' : World) : Prop :=
 ∃ F' G', StC w' s d l P o (wroteS st q.1) m cs ka kc K ∧ WAt w' d l Q q.2.1 q.2.2 F' G' ∧ Foot F F' w ∧ Foot G G' w ∧ Kp (fun k => k = s ∨ F k ∨ G k) w w'
theorem writes_app {Q : ByteArray} {ds : DSt} {lg : LSt} {p : List UInt8} (h : (appS Q ds lg p).1.2 ≠ 0) : writesS Q ds lg p = ((appS Q ds lg p).1.2, (appS Q ds lg p).2.1, (appS Q ds lg p).2.2) := if_neg h
theorem writes_snc {Q : ByteArray} {ds : DSt} {lg : LSt} {p : List UInt8} (h : (appS Q ds lg p).1.2 = 0) : writesS Q ds lg p = sncS Q (appS Q ds lg p).2.1 (appS Q ds lg p).2.2 := if_pos h
theorem StC.setN {w : World} {s d l o m : Nat} {P : ByteArray} {st : SSt} {cs : ChL} {ka : Option Addr} {kc : Nat} {K : List RecR} (h : StC w s d l P o st m cs ka kc K) (n : Nat) : StC (w.setCell ⟨s, 5, none⟩ (.int .i64 (n : Int))) s d l P o { st with n := n } m cs ka kc K :=
 h.turn ((Kp.refl (Mer.One s) w).setCell (p := ⟨s, 5, none⟩) (.inl (show Mer.One s s from rfl)) _) (by have := set_at h.cell 5 (.int .i64 (n : Int)); simpa [stCells] using this) rfl rfl
theorem StC.setDead {w : World} {s d l o m : Nat} {P : ByteArray} {st : SSt} {cs : ChL} {ka : Option Addr} {kc : Nat} {K : List RecR} (h : StC w s d l P o st m cs ka kc K) (b : Bool) : StC (w.setCell ⟨s, 6, none⟩ (.bool b)) s d l P o { st with dead := b } m cs ka kc K :=
 h.turn ((Kp.refl (Mer.One s) w).setCell (p := ⟨s, 6, none⟩) (.inl (show Mer.One s s from rfl)) _) (by have := set_at h.cell 6 (.bool b); simpa [stCells] using this) rfl rfl
set_option maxRecDepth 100000 in
set_option maxHeartbeats 2000000 in
theorem sWrites_any {w : World} {s d l o m : Nat} {P Q : ByteArray} {st : SSt} {cs : ChL} {ka : Option Addr} {kc : Nat} {K : List RecR} {ds : DSt} {lg : LSt} {F G : Nat → Prop} {k : Nat}
  (h : StC w s d l P o st m cs ka kc K) (hW : WAt w d l Q ds lg F G) (hsF : ∀ i, StF s m cs ka kc K i → ¬ F i) (hsG : ∀ i, StF s m cs ka kc K i → ¬ G i) (hfit : Fit k Q ds lg) (hk : k ≤ 3000) (hpow : Pow w) (hpF : ¬ F 0) (hpG : ¬ G 0) (hQ : Q.size ≤ 50) (hnb : st.n ≤ 1000000)
  (pa : Option Addr) (pc : Nat) (p : List UInt8) (hp : ∀ W, Kp (Both F G) w W → Rd W W.heap.size pa (u8s p)) (hpl : p.length ≤ 1000000000) :
  Calls Tryz.prog 60 #[.pointer (some ⟨s, 0, none⟩), .slice pa p.length pc] w fun e w' => e = .returned (.int .i64 (writesS Q ds lg p).1) ∧ WrtS w s d l P Q o st m cs ka kc K F G (writesS Q ds lg p) w' := by
 have hap := wAppend_any w d l Q ds lg F G hW hfit.hne hpow hpF hpG hQ (by have := hfit.ents; omega) (by have := hfit.segs; omega) (fun z hz => by have := hfit.big z hz; omega) pa pc p hp hpl
 have hfa := fit_app hfit (by omega) p
 have c1 : w.cell? ⟨s, 1, none⟩ = some (.pointer (some ⟨l, 0, none⟩)) := h.at_ (Kp.refl _ _) 1
 have hsl := get_lt h.cell
 have hFlt := hW.disk.lt
 have hGlt := hW.log.lt
 have H := Lib.hid h
 have HSF := Lib.hid (And.intro hsF hsG)
 have HAP := Lib.hid hap
 have HFA := Lib.hid hfa
 have HLT := Lib.hid (And.intro hFlt hGlt)
 have hw5 := Lib.hid (wrap_succ st.n hnb)
 obtain ⟨pn, hpn⟩ : ∃ pn, pn = p.length := ⟨_, rfl⟩
 rw [← hpn] at HAP ⊢
 obtain ⟨q, hq⟩ : ∃ q, q = appS Q ds lg p := ⟨_, rfl⟩
 rw [← hq] at HAP HFA
 unfold AppP at HAP
 have hS : ∀ i, StF s m cs ka kc K i → ¬ Both F G i := fun i hi hb => hb.elim (hsF i hi) (hsG i hi)
 have HS := Lib.hid hS
 by_cases hc : q.1.2 = 0
 ·have hwr := writes_snc (hq ▸ hc)
  rw [← hq] at hwr
  rw [hc] at HAP
  have HWR := Lib.hid hwr
  clear h hW hsF hsG hfit hpow hpF hpG hp hap hfa hFlt hGlt hpn hq hS hpl hnb hc hwr
  go_enter Tryz.func60, Tryz.ntmps60
  go_wp2_with fail
  refine HAP.out.mono ?_
  rintro e w2 ⟨rfl, F2, G2, hW2, hF2, hG2, k2⟩
  have h2 := H.out.keep k2 HS.out
  have c2 : w2.cell? ⟨s, 1, none⟩ = some (.pointer (some ⟨l, 0, none⟩)) := h2.at_ (Kp.refl _ _) 1
  have hsl2 := get_lt h2.cell
  have hsy := wSync_any w2 d l Q q.2.1 q.2.2 F2 G2 hW2 HFA.out.hne
  unfold SncP at hsy
  rw [← HWR.out] at hsy
  have hsF2 : ∀ i, StF s m cs ka kc K i → ¬ F2 i := fun i hi hf => by
   rcases hF2 i hf with h1 | h1
   ·exact HSF.out.1 i hi h1
   ·have := H.out.lt i hi
    omega
  have hsG2 : ∀ i, StF s m cs ka kc K i → ¬ G2 i := fun i hi hf => by
   rcases hG2 i hf with h1 | h1
   ·exact HSF.out.2 i hi h1
   ·have := H.out.lt i hi
    omega
  obtain ⟨r, hr⟩ : ∃ r, r = writesS Q ds lg p := ⟨_, rfl⟩
  rw [← hr] at hsy
  have HSY := Lib.hid hsy
  have H2 := Lib.hid h2
  have HF2 := Lib.hid (And.intro hF2 (And.intro hG2 k2))
  have HS2 := Lib.hid (show ∀ i, StF s m cs ka kc K i → ¬ Both F2 G2 i from fun i hi hb => hb.elim (hsF2 i hi) (hsG2 i hi))
  have HR := Lib.hid hr
  clear hW2 hF2 hG2 k2 h2 hsy hsF2 hsG2 hr c1
  go_wp2_with fail
  refine HSY.out.mono ?_
  rintro e w3 ⟨rfl, F3, G3, hW3, hF3, hG3, k3⟩
  have h3 := H2.out.keep k3 HS2.out
  have hsl3 := get_lt h3.cell
  have f5 := free_at h3.cell 5
  have f6 := free_at h3.cell 6
  have c5 : w3.cell? ⟨s, 5, none⟩ = some (.int .i64 (st.n : Int)) := h3.at_ (Kp.refl _ _) 5
  have c6 : w3.cell? ⟨s, 6, none⟩ = some (.bool st.dead) := h3.at_ (Kp.refl _ _) 6
  have hF : Foot F F3 w := HF2.out.1.trans hF3 HF2.out.2.2.size
  have hG : Foot G G3 w := HF2.out.2.1.trans hG3 HF2.out.2.2.size
  have hk13 : Kp (fun i => i = s ∨ F i ∨ G i) w w3 := (HF2.out.2.2.mono fun i _ hb => .inr hb).trans k3 fun i hi hb => by
   rcases hb with hb | hb
   ·rcases HF2.out.1 i hb with h1 | h1
    ·exact .inr (.inl h1)
    ·omega
   ·rcases HF2.out.2.1 i hb with h1 | h1
    ·exact .inr (.inr h1)
    ·omega
  have hsW3 : ∀ i, F3 i ∨ G3 i → i ≠ s := fun i hi e => by
   rcases hi with hi | hi
   ·rcases hF i hi with h1 | h1
    ·exact HSF.out.1 s (.inl rfl) (e ▸ h1)
    ·omega
   ·rcases hG i hi with h1 | h1
    ·exact HSF.out.2 s (.inl rfl) (e ▸ h1)
    ·omega
  have H3 := Lib.hid h3
  have HX := Lib.hid (And.intro hW3 (And.intro hF (And.intro hG (And.intro hk13 hsW3))))
  clear hW3 hF3 hG3 k3 h3 hF hG hk13 hsW3 HSY
  by_cases hrc : r.1 = 0
  ·have e1 : (r.1 == 0) = true := by rw [beq_iff_eq]; exact hrc
   have hn5 := hw5.out
   have HRC := Lib.hid hrc
   clear hrc
   rw [HRC.out]
   go_wp2_with fail
   go_ret
   refine ⟨by rw [← HR.out, HRC.out]; rfl, F3, G3, ?_, ?_, HX.out.2.1, HX.out.2.2.1, ?_⟩
   ·rw [← HR.out, wrote_ok st HRC.out]
    exact H3.out.setN (st.n + 1)
   ·rw [← HR.out]
    exact ⟨HX.out.1.disk.keep ((Kp.refl (Mer.One s) w3).setCell (p := ⟨s, 5, none⟩) (.inl (show Mer.One s s from rfl)) _) fun i hi e => HX.out.2.2.2.2 i (.inl hi) e, HX.out.1.log.keep ((Kp.refl (Mer.One s) w3).setCell (p := ⟨s, 5, none⟩) (.inl (show Mer.One s s from rfl)) _) fun i hi e => HX.out.2.2.2.2 i (.inr hi) e, HX.out.1.sep⟩
   ·exact HX.out.2.2.2.1.setCell (p := ⟨s, 5, none⟩) (.inl (.inl rfl)) _
  ·have e1 : (r.1 == 0) = false := by rw [beq_eq_false_iff_ne]; exact hrc
   have e2 : (r.1 != 0) = true := by rw [bne, e1]; rfl
   have HRC := Lib.hid hrc
   clear hrc
   go_wp2_with fail
   go_ret
   refine ⟨by rw [← HR.out]; rfl, F3, G3, ?_, ?_, HX.out.2.1, HX.out.2.2.1, ?_⟩
   ·rw [← HR.out, wrote_no st HRC.out]
    exact H3.out.setDead true
   ·rw [← HR.out]
    exact ⟨HX.out.1.disk.keep ((Kp.refl (Mer.One s) w3).setCell (p := ⟨s, 6, none⟩) (.inl (show Mer.One s s from rfl)) _) fun i hi e => HX.out.2.2.2.2 i (.inl hi) e, HX.out.1.log.keep ((Kp.refl (Mer.One s) w3).setCell (p := ⟨s, 6, none⟩) (.inl (show Mer.One s s from rfl)) _) fun i hi e => HX.out.2.2.2.2 i (.inr hi) e, HX.out.1.sep⟩
   ·exact HX.out.2.2.2.1.setCell (p := ⟨s, 6, none⟩) (.inl (.inl rfl)) _
 ·have hwr := writes_app (hq ▸ hc)
  rw [← hq] at hwr
  have HWR := Lib.hid hwr
  obtain ⟨z, hz⟩ : ∃ z, z = q.1.2 := ⟨_, rfl⟩
  rw [← hz] at hc HAP
  have HZ := Lib.hid (And.intro hz hc)
  have e1 : (z == 0) = false := by rw [beq_eq_false_iff_ne]; exact hc
  have e2 : (z != 0) = true := by rw [bne, e1]; rfl
  clear h hW hsF hsG hfit hpow hpF hpG hp hap hfa hFlt hGlt hpn hq hS hpl hnb hc hwr hz
  go_enter Tryz.func60, Tryz.ntmps60
  go_wp2_with fail
  refine HAP.out.mono ?_
  rintro e w3 ⟨rfl, F3, G3, hW3, hF3, hG3, k3⟩
  have h3 := H.out.keep k3 HS.out
  have hsl3 := get_lt h3.cell
  have f6 := free_at h3.cell 6
  have c6 : w3.cell? ⟨s, 6, none⟩ = some (.bool st.dead) := h3.at_ (Kp.refl _ _) 6
  have hsW3 : ∀ i, F3 i ∨ G3 i → i ≠ s := fun i hi e => by
   rcases hi with hi | hi
   ·rcases hF3 i hi with h1 | h1
    ·exact HSF.out.1 s (.inl rfl) (e ▸ h1)
    ·omega
   ·rcases hG3 i hi with h1 | h1
    ·exact HSF.out.2 s (.inl rfl) (e ▸ h1)
    ·omega
  have H3 := Lib.hid h3
  have HX := Lib.hid (And.intro hW3 (And.intro hF3 (And.intro hG3 (And.intro k3 hsW3))))
  clear hW3 hF3 hG3 k3 h3 hsW3 c1 HAP
  go_wp2_with fail
  go_ret
  refine ⟨by rw [HWR.out, ← HZ.out.1]; rfl, F3, G3, ?_, ?_, HX.out.2.1, HX.out.2.2.1, ?_⟩
  ·rw [HWR.out, ← HZ.out.1, wrote_no st HZ.out.2]
   exact H3.out.setDead true
  ·rw [HWR.out]
   exact ⟨HX.out.1.disk.keep ((Kp.refl (Mer.One s) w3).setCell (p := ⟨s, 6, none⟩) (.inl (show Mer.One s s from rfl)) _) fun i hi e => HX.out.2.2.2.2 i (.inl hi) e, HX.out.1.log.keep ((Kp.refl (Mer.One s) w3).setCell (p := ⟨s, 6, none⟩) (.inl (show Mer.One s s from rfl)) _) fun i hi e => HX.out.2.2.2.2 i (.inr hi) e, HX.out.1.sep⟩
  ·exact (HX.out.2.2.2.1.mono fun i _ hb => .inr hb).setCell (p := ⟨s, 6, none⟩) (.inl (.inl rfl)) _
end Go.Proofs.YtgnkmjeoaoongaaGreatDoor
namespace Go.Proofs.YtgnkmjeoaoongaaGreatDoor
open Go.RowKit Go.Mer
def ofC (of : List DoneS) : List Value :=
 [.int .i64 (ofAt of 0).seq, .int .i64 (ofAt of 0).m, .int .i64 (ofAt of 0).c, .int .i64 (ofAt of 1).seq, .int .i64 (ofAt of 1).m, .int .i64 (ofAt of 1).c,
  .int .i64 (ofAt of 2).seq, .int .i64 (ofAt of 2).m, .int .i64 (ofAt of 2).c, .int .i64 (ofAt of 3).seq, .int .i64 (ofAt of 3).m, .int .i64 (ofAt of 3).c,
  .int .i64 (ofAt of 4).seq, .int .i64 (ofAt of 4).m, .int .i64 (ofAt of 4).c]
theorem five_cases {i : Nat} (h : i < 5) : i = 0 ∨ i = 1 ∨ i = 2 ∨ i = 3 ∨ i = 4 := by omega
theorem ofC_get (of : List DoneS) {i : Nat} (h : i < 5) : (ofC of)[i * 3]? = some (.int .i64 (ofAt of i).seq) ∧ (ofC of)[i * 3 + 1]? = some (.int .i64 (ofAt of i).m) ∧ (ofC of)[i * 3 + 2]? = some (.int .i64 (ofAt of i).c) := by
 rcases five_cases h with rfl | rfl | rfl | rfl | rfl <;> exact ⟨rfl, rfl, rfl⟩
theorem ofC_set (of : List DoneS) (h5 : of.length = 5) {i : Nat} (h : i < 5) (d : DoneS) :
  (((ofC of).set (i * 3) (.int .i64 d.seq)).set (i * 3 + 1) (.int .i64 d.m)).set (i * 3 + 2) (.int .i64 d.c) = ofC (of.set i d) := by
 have hs := fun j => ofAt_set (of := of) (i := i) (by omega) d j
 unfold ofC
 rcases five_cases h with rfl | rfl | rfl | rfl | rfl
 all_goals
  rw [hs 0, hs 1, hs 2, hs 3, hs 4]
  simp
theorem st_of (d l : Nat) (P : ByteArray) (o : Nat) (st : SSt) (m : Nat) (kv : Value) : ((stCells d l P o st m kv).toList.drop 10).take 15 = ofC st.of := rfl
def ofK (of : List DoneS) (L : List RecS) : List DoneS := L.foldl doneR of
theorem ofK_snoc (of : List DoneS) (L : List RecS) (r : RecS) : ofK of (L ++ [r]) = doneR (ofK of L) r := by
 unfold ofK
 rw [List.foldl_append]
 rfl
structure OfB (of : List DoneS) : Prop where
 five : of.length = 5
 low : ∀ i, 0 ≤ (ofAt of i).seq ∧ (ofAt of i).seq ≤ 1099511627776
theorem OfB.step {of : List DoneS} (h : OfB of) {r : RecS} (hr : isR r = true) : OfB (doneR of r) := by
 obtain ⟨hv, e1, e2, e3, _⟩ := isR_iff.1 hr
 obtain ⟨_, o1, o2, _⟩ := isV_iff.1 hv
 refine ⟨by unfold doneR; rw [List.length_set]; exact h.five, fun i => ?_⟩
 unfold doneR
 rw [ofAt_set (by rw [h.five]; omega)]
 split
 ·exact ⟨by show 0 ≤ r.seq; omega, e3⟩
 ·exact h.low i
theorem Inv.ofb {o : Nat} {st : SSt} (h : Inv o st) : OfB st.of := ⟨h.of5, fun i => by
 unfold ofAt
 rw [List.getD_eq_getElem?_getD]
 cases hi : st.of[i]? with
 | none => exact ⟨by decide, by decide⟩
 | some d =>
  have := h.done d (List.mem_of_getElem? hi)
  exact ⟨this.1, this.2.1⟩⟩
theorem OfB.upto : ∀ (L : List RecS) {of : List DoneS}, OfB of → (∀ r ∈ L, isR r = true) → OfB (ofK of L)
 | [], _, h, _ => h
 | r :: L, _, h, hL => OfB.upto L (h.step (hL r (List.mem_cons_self ..))) fun x hx => hL x (List.mem_cons_of_mem _ hx)
theorem may_long {st : SSt} {L : List RecS} (h : 64 < L.length) : mayS st L = 5 := if_pos h
theorem may_none {st : SSt} {L : List RecS} (h : ¬ 64 < L.length) {k : Nat} {r : RecS} (hk : L[k]? = some r) (hr : isR r = false) : mayS st L = 1 := by
 unfold mayS
 rw [if_neg h, if_pos]
 cases ha : L.all isR with
 | false => rfl
 | true =>
  have := List.all_eq_true.1 ha r (List.mem_of_getElem? hk)
  rw [hr] at this
  cases this
theorem may_go {st : SSt} {L : List RecS} (h : ¬ 64 < L.length) (hr : ∀ r ∈ L, isR r = true) : mayS st L = if mayG st.mm st.mc st.of L = true then 0 else 12 := by
 unfold mayS
 rw [if_neg h, if_neg]
 rw [List.all_eq_true.2 hr]
 decide
theorem mayG_at {mm mc : Int} {of : List DoneS} : ∀ (L : List RecS) (k : Nat) (r : RecS), L[k]? = some r → mayG mm mc of L = mayG mm mc (ofK of (L.take k)) (L.drop k) → mayG mm mc of L = (stepOk mm mc (ofK of (L.take k)) r && mayG mm mc (ofK of (L.take (k + 1))) (L.drop (k + 1))) := by
 intro L k r hk h
 have hkl := (List.getElem?_eq_some_iff.1 hk).1
 have he := (List.getElem?_eq_some_iff.1 hk).2
 rw [h, List.drop_eq_getElem_cons hkl, he, mayG, List.take_succ_eq_append_getElem hkl, he, ofK_snoc]
theorem step_parts (mm mc : Int) (of : List DoneS) (r : RecS) : stepOk mm mc of r = (decide (r.seq = (ofAt of r.o.toNat).seq + 1) && (stLt (ofAt of r.o.toNat).m (ofAt of r.o.toNat).c r.v.m r.v.c && stLt mm mc r.v.m r.v.c)) := rfl
end Go.Proofs.YtgnkmjeoaoongaaGreatDoor
namespace Go.Proofs.YtgnkmjeoaoongaaGreatDoor
open Go.RowKit Go.Mer
structure WrI (w0 : World) (b : Nat) (v : Value) (l : List UInt8) (wr : World) : Prop where
 lo : w0.heap.size ≤ b
 cell : wr.heap[b]? = some (.cells #[v] 121 (0, 0))
 own : Mer.Own wr 5 1 v l.length (u8s l)
 new : ∀ g, v.ownBlock = some g → w0.heap.size ≤ g
 kp : Kp No w0 wr
def WrS (w1 : World) (b : Nat) (v : Value) (w' : World) (v' : Value) : Prop :=
 Kp (fun k => k = b ∨ v.ownBlock = some k) w1 w' ∧ (v'.ownBlock = v.ownBlock ∨ ∃ g, v'.ownBlock = some g ∧ w1.heap.size ≤ g)
theorem WrS.refl (w : World) (b : Nat) (v : Value) : WrS w b v w v := ⟨Kp.refl _ _, .inl rfl⟩
theorem WrS.trans {w1 w2 w3 : World} {b : Nat} {v v' v'' : Value} (h : WrS w1 b v w2 v') (k : WrS w2 b v' w3 v'') : WrS w1 b v w3 v'' := by
 refine ⟨h.1.trans k.1 fun i hi hs => ?_, ?_⟩
 ·rcases hs with hs | hs
  ·exact .inl hs
  ·rcases h.2 with e | ⟨g, e, hg⟩
   ·exact .inr (e ▸ hs)
   ·rw [e] at hs
    injection hs with hs
    omega
 ·have hsz := h.1.size
  rcases k.2 with e | ⟨g, e, hg⟩
  ·rcases h.2 with e2 | ⟨g, e2, hg⟩
   ·exact .inl (e.trans e2)
   ·exact .inr ⟨g, e.trans e2, hg⟩
  ·exact .inr ⟨g, e, Nat.le_trans hsz hg⟩
theorem WrS.no {w1 w2 w3 : World} {b : Nat} {v v' : Value} (h : Kp No w1 w2) (k : WrS w2 b v w3 v') : WrS w1 b v w3 v' :=
 ⟨(Kp.of_no h).trans_same k.1, k.2.imp id fun ⟨g, e, hg⟩ => ⟨g, e, Nat.le_trans h.size hg⟩⟩
theorem WrI.keep {w0 wr W : World} {b : Nat} {v : Value} {l : List UInt8} (h : WrI w0 b v l wr) (hk : Kp No wr W) : WrI w0 b v l W :=
 ⟨h.lo, hk.get h.cell fun x => x, h.own.keep hk fun _ _ x => x, h.new, h.kp.trans_same hk⟩
theorem WrS.get {w0 w1 w' : World} {b : Nat} {v v' : Value} {l : List UInt8} (h : WrI w0 b v l w1) (k : WrS w1 b v w' v') {g : Nat} {cs : Array Value} {t : TypeId} (hg : w1.heap[g]? = some (.cells cs t (0, 0))) (h1 : t ≠ 5) (h2 : t ≠ 121) : w'.heap[g]? = some (.cells cs t (0, 0)) :=
 k.1.get hg fun hs => by
  rcases hs with rfl | hs
  ·exact ne_of_type hg h.cell h2 rfl
  ·obtain ⟨cur, hc⟩ := h.own.type g hs
   exact ne_of_type hg hc h1 rfl
theorem WrI.start {w0 W : World} (h : Kp No w0 W) : WrI w0 W.heap.size (.slice none 0 0) [] (W.alloc (.cells #[.slice none 0 0] 121)) :=
 ⟨h.size, heap_alloc_new W _, Mer.Own.nil _ _ _, fun g h => (by cases h), h.alloc _⟩
theorem WrI.app {w0 wr : World} {b : Nat} {v : Value} {l : List UInt8} (h : WrI w0 b v l wr) (a : Option Addr) (c : Nat) (ys : List UInt8) (hy : Rd wr wr.heap.size a (u8s ys)) (hl : l.length + ys.length ≤ 140737488355328) :
  ∃ a' c' W', (Builtin.append_ #[42, 42] 42 #[v, .slice a ys.length c]).run Tryz.prog wr = .ok (.slice a' (l ++ ys).length c') W' ∧ W'.heap[b]? = some (.cells #[v] 121 (0, 0)) ∧
   WrI w0 b (.slice a' (l ++ ys).length c') (l ++ ys) (W'.setCell ⟨b, 0, none⟩ (.slice a' (l ++ ys).length c')) ∧ WrS wr b v (W'.setCell ⟨b, 0, none⟩ (.slice a' (l ++ ys).length c')) (.slice a' (l ++ ys).length c') := by
 obtain ⟨a', c', W', h1, h2, h3, h4⟩ := app_bytes wr v l ys h.own a c hy hl
 have hvb : v.ownBlock ≠ some b := fun e => by
  obtain ⟨cur, hc⟩ := h.own.type b e
  exact ne_of_type hc h.cell (by decide) rfl
 have hb : W'.heap[b]? = some (.cells #[v] 121 (0, 0)) := h3.get h.cell hvb
 have hnb : ∀ g, (Value.slice a' (l ++ ys).length c').ownBlock = some g → g ≠ b := fun g hg e => by
  rcases h4 with h4 | ⟨g', h4, h5⟩
  ·exact hvb (by rw [← h4, hg, e])
  ·rw [h4] at hg
   injection hg with hg
   have := get_lt h.cell
   omega
 have hs : Kp (Mer.One b) W' (W'.setCell ⟨b, 0, none⟩ (.slice a' (l ++ ys).length c')) := (Kp.refl (Mer.One b) _).setCell (p := ⟨b, 0, none⟩) (.inl (show Mer.One b b from rfl)) _
 have hall : Kp (fun k => k = b ∨ v.ownBlock = some k) wr (W'.setCell ⟨b, 0, none⟩ (.slice a' (l ++ ys).length c')) := (h3.mono fun _ _ x => .inr x).trans hs fun i _ e => .inl e
 refine ⟨a', c', W', h1, hb, ⟨h.lo, set_at hb 0 _, h2.keep hs fun g hg e => hnb g hg e, fun g hg => ?_, h.kp.trans hall fun i hi hS => ?_⟩, hall, h4⟩
 ·rcases h4 with h4 | ⟨g', h4, h5⟩
  ·exact h.new g (h4 ▸ hg)
  ·rw [h4] at hg
   injection hg with hg
   have := h.kp.size
   omega
 ·rcases hS with rfl | hS
  ·have := h.lo
   omega
  ·have := h.new i hS
   omega
theorem WrI.byte {w0 wr : World} {b : Nat} {v : Value} {l : List UInt8} (h : WrI w0 b v l wr) (x : UInt8) (hl : l.length ≤ 140737488355000) :
  ∃ a' c' W', (Builtin.append_ #[42, 42] 42 #[v, .slice (some ⟨wr.heap.size, 0, none⟩) 1 1]).run Tryz.prog (wr.alloc (.cells #[.int .u8 (x.toNat : Int)] 5)) = .ok (.slice a' (l.length + 1) c') W' ∧ W'.heap[b]? = some (.cells #[v] 121 (0, 0)) ∧
   WrI w0 b (.slice a' (l.length + 1) c') (l ++ [x]) (W'.setCell ⟨b, 0, none⟩ (.slice a' (l.length + 1) c')) ∧ WrS wr b v (W'.setCell ⟨b, 0, none⟩ (.slice a' (l.length + 1) c')) (.slice a' (l.length + 1) c') := by
 have hk1 : Kp No wr (wr.alloc (.cells #[.int .u8 (x.toNat : Int)] 5)) := (Kp.refl _ _).alloc _
 obtain ⟨a', c', W', h1, h2, h3, h4⟩ := (h.keep hk1).app (some ⟨wr.heap.size, 0, none⟩) 1 [x] (Rd.const wr 5 (0, 0) _ _ rfl) (by simp only [List.length_singleton]; omega)
 rw [List.length_append, List.length_singleton] at h1 h3 h4
 exact ⟨a', c', W', h1, h2, h3, WrS.no hk1 h4⟩
def intC (n : Nat) : Value := .int .i64 (n : Int)
theorem numL_len62 {n : Nat} (h : n ≤ 4611686018427387904) : (numL n).length ≤ 9 := numL_length 8 n (Nat.lt_of_le_of_lt h (by decide))
def NumsJ (w0 w1 : World) (b : Nat) (v : Value) (l : List UInt8) (V : List Nat) (j : Nat) (wr : World) : Prop :=
 ∃ v', WrI w0 b v' (l ++ (V.take j).flatMap numL) wr ∧ WrS w1 b v wr v'
def NumsU (w0 w1 : World) (b : Nat) (v : Value) (l : List UInt8) (n u : Nat) (wr : World) : Prop :=
 ∃ v' xs, numL n = xs ++ numL u ∧ WrI w0 b v' (l ++ xs) wr ∧ WrS w1 b v wr v'
theorem flat_len (V : List Nat) (hV : ∀ n ∈ V, n ≤ 4611686018427387904) : (V.flatMap numL).length ≤ V.length * 9 := by
 induction V with
 | nil => exact Nat.le_refl _
 | cons x V ih =>
  have h1 := numL_len62 (hV x (List.mem_cons_self ..))
  have h2 := ih fun y hy => hV y (List.mem_cons_of_mem _ hy)
  rw [List.flatMap_cons, List.length_append, List.length_cons]
  omega
set_option maxRecDepth 100000 in
set_option maxHeartbeats 4000000 in
theorem Nums_any (w0 w1 : World) (b : Nat) (v : Value) (l : List UInt8) (h : WrI w0 b v l w1) (g c : Nat) (V : List Nat) (t : TypeId) (hV : ∀ n ∈ V, n ≤ 4611686018427387904) (hg : w1.heap[g]? = some (.cells (V.map intC).toArray t (0, 0))) (ht1 : t ≠ 5) (ht2 : t ≠ 121) (hl : l.length ≤ 1000000000) (hn : V.length ≤ 100) :
  Calls Tryz.prog 58 #[.pointer (some ⟨b, 0, none⟩), .slice (some ⟨g, 0, none⟩) V.length c] w1 fun e w' => e = .returned (.tuple #[]) ∧ ∃ v', WrI w0 b v' (l ++ V.flatMap numL) w' ∧ WrS w1 b v w' v' := by
 obtain ⟨K, hK⟩ : ∃ K, K = V.length := ⟨_, rfl⟩
 have hgl := get_lt hg
 have hbl := get_lt h.cell
 have hfl := fun j => flat_len (V.take j) fun n hn => hV n (List.mem_of_mem_take hn)
 have HFL := Lib.hid (show ∀ j, ((V.take j).flatMap numL).length ≤ 900 from fun j => by have h1 := hfl j; have h2 := List.length_take_le' j V; omega)
 rw [← hK]
 have HS := Lib.hid (show NumsJ w0 w1 b v l V 0 w1 from ⟨v, by simpa using h, WrS.refl _ _ _⟩)
 have H := Lib.hid h
 have HV := Lib.hid hV
 have HG := Lib.hid (And.intro hg (And.intro ht1 ht2))
 have HKL := Lib.hid hK
 have hKb : K ≤ 100 := by omega
 clear h hV hg ht1 ht2 hK hn hfl
 go_enter Tryz.func58, Tryz.ntmps58
 go_wp2_with fail
 go_loopw [11] (fun i wr => ∃ j : Nat, j ≤ K ∧ i = .int .i64 (j : Int) ∧ Hid (NumsJ w0 w1 b v l V j wr)) (fun i _ => K - (intOf i).toNat)
 case atStart => exact ⟨0, Nat.zero_le _, rfl, HS⟩
 case round =>
  obtain ⟨j, hj, rfl, HJ⟩ := hrel
  rcases Nat.lt_or_ge j K with hlt | hge
  ·obtain ⟨vj, hI, hS⟩ := HJ.out
   have hjV : j < V.length := by have := HKL.out; omega
   have hgr := WrS.get H.out hS HG.out.1 HG.out.2.1 HG.out.2.2
   have hn62 := HV.out V[j] (List.getElem_mem hjV)
   have hst : (V.take (j + 1)).flatMap numL = (V.take j).flatMap numL ++ numL V[j] := by
    rw [List.take_succ_eq_append_getElem hjV, List.flatMap_append]
    simp
   have hcg : wr.cell? ⟨g, j, none⟩ = some (.int .i64 (V[j] : Int)) := by
    rw [cell_at hgr]
    simp [hjV, intC]
   have hglr := get_lt hgr
   have hblr := get_lt hI.cell
   obtain ⟨n, hn⟩ : ∃ n, n = V[j] := ⟨_, rfl⟩
   rw [← hn] at hn62 hst hcg
   have hlj := HFL.out j
   obtain ⟨lj, hlj2⟩ : ∃ lj, lj = l ++ (V.take j).flatMap numL := ⟨_, rfl⟩
   have hlb : lj.length ≤ 1000000900 := by rw [hlj2, List.length_append]; omega
   rw [← hlj2] at hI
   have HST := Lib.hid (show l ++ (V.take (j + 1)).flatMap numL = lj ++ numL n from by rw [hst, hlj2, List.append_assoc])
   have d3 : min (n : Int) 4611686018427387904 = (n : Int) := by omega
   have d3' : min n 4611686018427387904 = n := by omega
   have d4 : max 0 (n : Int) = (n : Int) := by omega
   have hmod : (n : Int) % 18446744073709551616 = (n : Int) := Int.emod_eq_of_lt (by omega) (by omega)
   have HU := Lib.hid (show NumsU w0 w1 b v lj n n wr from ⟨vj, [], rfl, by simpa using hI, hS⟩)
   have HN62 := Lib.hid hn62
   clear hI hS hjV hgr hst hn hlj hlj2 HJ
   go_upto_block 2 with fail
   go_wp2_with fail
   go_loopw [6] (fun s6 wr => ∃ u : Nat, u ≤ 4611686018427387904 ∧ s6 = .int .u64 (u : Int) ∧ Hid (NumsU w0 w1 b v lj n u wr)) (fun s6 _ => (intOf s6).toNat)
   case atStart => exact ⟨n, HN62.out, rfl, HU⟩
   case round =>
    obtain ⟨u, hu, rfl, HR⟩ := hrel
    obtain ⟨v', xs, hnum, hI, hS⟩ := HR.out
    have hxl : xs.length ≤ 9 := by
     have h1 := numL_len62 HN62.out
     rw [hnum, List.length_append] at h1
     omega
    have hxl2 : (lj ++ xs).length ≤ 1000000909 := by rw [List.length_append]; omega
    have c0 := cell_at hI.cell 0
    simp at c0
    have hblr := get_lt hI.cell
    clear HR d3 d3' d4 hmod hcg HU hglr
    by_cases hlt2 : 128 ≤ u
    ·have e1 : decide ((128 : Int) ≤ (u : Int)) = true := by rw [decide_eq_true_iff]; omega
     have e2 : decide (128 ≤ u) = true := decide_eq_true hlt2
     obtain ⟨a', c', W', hrun, hbW, hI2, hS2⟩ := hI.byte (UInt8.ofNat (u % 128 + 128)) (by omega)
     have b3 := or_128 u
     rw [← byte_128 u] at b3
     obtain ⟨z, hz, b4⟩ : ∃ z : Nat, z = u / 128 ∧ (u : Int) / 128 = (z : Int) := ⟨u / 128, rfl, (Int.natCast_ediv u 128).symm⟩
     have hnew : NumsU w0 w1 b v lj n z (W'.setCell ⟨b, 0, none⟩ (.slice a' ((lj ++ xs).length + 1) c')) := ⟨_, xs ++ [UInt8.ofNat (u % 128 + 128)], by rw [hnum, numL_cons hlt2, hz, List.append_assoc]; rfl, by rw [← List.append_assoc]; exact hI2, hS.trans hS2⟩
     obtain ⟨x, hx⟩ : ∃ x : Nat, x = (UInt8.ofNat (u % 128 + 128)).toNat := ⟨_, rfl⟩
     obtain ⟨ln, hln⟩ : ∃ ln, ln = (lj ++ xs).length + 1 := ⟨_, rfl⟩
     rw [← hx] at hrun b3
     rw [← hln] at hrun hnew
     have cw : W'.cell? ⟨b, 0, none⟩ = some v' := cell_at hbW 0
     have fw := free_at hbW 0
     have hbWl := get_lt hbW
     have HX := Lib.hid hrun
     have HNEW := Lib.hid hnew
     have hzu : z < u := by omega
     clear hz hnum hI hS hrun hbW hI2 hS2 hnew hx hln hxl hxl2
     go_wp2_with (at_builtin; refine wpList_append_run rfl rfl rfl rfl HX.out ?_)
     go_roundw
     case rel => exact ⟨z, by omega, rfl, HNEW⟩
     case measure => simp [intOf]; omega
    ·have e1 : decide ((128 : Int) ≤ (u : Int)) = false := by rw [decide_eq_false_iff_not]; omega
     have e2 : decide (128 ≤ u) = false := by rw [decide_eq_false_iff_not]; omega
     have hm : (u : Int) % 256 = (u : Int) := Int.emod_eq_of_lt (by omega) (by omega)
     obtain ⟨a', c', W', hrun, hbW, hI2, hS2⟩ := hI.byte (UInt8.ofNat u) (by omega)
     rw [show (UInt8.ofNat u).toNat = u by rw [u8_of]; omega] at hrun
     have hl : numL n = xs ++ [UInt8.ofNat u] := by rw [hnum, numL_small (by omega)]
     have hnew : NumsJ w0 w1 b v l V (j + 1) (W'.setCell ⟨b, 0, none⟩ (.slice a' ((lj ++ xs).length + 1) c')) := ⟨_, by rw [HST.out, hl, ← List.append_assoc]; exact hI2, hS.trans hS2⟩
     obtain ⟨ln, hln⟩ : ∃ ln, ln = (lj ++ xs).length + 1 := ⟨_, rfl⟩
     rw [← hln] at hrun hnew
     have cw : W'.cell? ⟨b, 0, none⟩ = some v' := cell_at hbW 0
     have fw := free_at hbW 0
     have hbWl := get_lt hbW
     have HX := Lib.hid hrun
     have HNEW := Lib.hid hnew
     clear hnum hI hS hrun hbW hI2 hS2 hnew hln hl hxl hxl2
     go_wp2_with (at_builtin; refine wpList_append_run rfl rfl rfl rfl HX.out ?_)
     go_roundw
     case rel => exact ⟨j + 1, hlt, by go_num, HNEW⟩
     case measure => simp [intOf]; omega
  ·obtain rfl : j = K := by omega
   clear hge
   go_wp2_with fail
   refine bodyPost_end (results_none rfl _ _ _) rfl ⟨rfl, ?_⟩
   have := HJ.out
   rw [HKL.out] at this
   unfold NumsJ at this
   rwa [List.take_length] at this
end Go.Proofs.YtgnkmjeoaoongaaGreatDoor

