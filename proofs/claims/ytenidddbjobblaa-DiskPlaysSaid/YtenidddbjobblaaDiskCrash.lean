/-
  disk: Crash.
-/
import Derived.Test.YtenidddbjobblaaDiskApi
namespace Go.Proofs.Ytenidddbjobblaa
open Go.RowKit Go.Mer

/-- Bytes from a on, up to b, each turned by t. -/
def torn (l : List UInt8) (a b : Nat) (t : UInt8) : List UInt8 := l.mapIdx fun j x => if a ≤ j ∧ j < b then x ^^^ t else x
theorem torn_length (l : List UInt8) (a b : Nat) (t : UInt8) : (torn l a b t).length = l.length := by simp [torn]
theorem torn_start (l : List UInt8) (a : Nat) (t : UInt8) : torn l a a t = l := by
  apply List.ext_getElem?
  intro i
  simp only [torn, List.getElem?_mapIdx]
  cases l[i]? with
  | none => rfl
  | some x => simp; omega
theorem torn_step (l : List UInt8) (a b : Nat) (t : UInt8) (h : a ≤ b) (hb : b < l.length) : torn l a (b + 1) t = (torn l a b t).set b (l[b] ^^^ t) := by
  apply List.ext_getElem?
  intro i
  rw [List.getElem?_set, torn_length]
  simp only [torn, List.getElem?_mapIdx]
  by_cases hi : b = i
  · subst hi
    simp [hb, h]
  · rw [if_neg hi]
    cases l[i]? with
    | none => rfl
    | some x =>
      simp only [Option.map_some, Option.some.injEq]
      have : (a ≤ i ∧ i < b + 1) ↔ (a ≤ i ∧ i < b) := by omega
      simp only [this]
theorem torn_full (l : List UInt8) (a b b' : Nat) (t : UInt8) (h : l.length ≤ b) (h' : l.length ≤ b') : torn l a b t = torn l a b' t := by
  apply List.ext_getElem?
  intro i
  simp only [torn, List.getElem?_mapIdx]
  cases hi : l[i]? with
  | none => rfl
  | some x =>
    have := (List.getElem?_eq_some_iff.1 hi).1
    simp only [Option.map_some, Option.some.injEq]
    have : (a ≤ i ∧ i < b) ↔ (a ≤ i ∧ i < b') := by omega
    simp only [this]
theorem torn_get (l : List UInt8) (a b : Nat) (t : UInt8) (hb : b < l.length) : (torn l a b t)[b]'(by rw [torn_length]; exact hb) = l[b] := by
  simp [torn]

/-- How many bytes stay. -/
def stays (keep : Int) (x : FileS) : Nat := x.lasts + keep.toNat % (x.data.length - x.lasts + 1)
def crF (keep : Int) (t : UInt8) (x : FileS) : FileS :=
  ⟨torn (x.data.take (stays keep x)) (max x.lasts ((stays keep x - 1) / 16 * 16)) (stays keep x) t, stays keep x⟩
def crS (s : DSt) (keep : Int) (t : UInt8) : DSt := { s with fuse := none, files := s.files.map fun p => (p.1, crF keep t p.2) }

/-- A store into one's own row. -/
theorem own_store {w : World} {e : TypeId} {g off n cap : Nat} {xs : List Value} (h : Own w e 1 (.slice (some ⟨g, off, none⟩) n cap) n xs) (i : Nat) (hi : i < n) (u : Value) :
    Own (w.setCell ⟨g, off + i, none⟩ u) e 1 (.slice (some ⟨g, off, none⟩) n cap) n (xs.set i u) := by
  obtain ⟨hl, a, cap', hv, h1, h2, h3, h4⟩ := h
  injection hv with hv1 hv2 hv3
  subst hv3
  obtain ⟨g', off', cur, had, hg, hfit, hx⟩ := h4 ⟨g, off, none⟩ hv1.symm
  injection had with e1 e2
  subst e1; subst e2
  refine ⟨by simpa using hl, some ⟨g, off, none⟩, cap, rfl, h1, h2, fun h => (by cases h), fun ad had => ?_⟩
  injection had with had
  subst had
  refine ⟨g, off, cur.setIfInBounds (off + i) u, rfl, set_at hg (off + i) u, by simpa using hfit, ?_⟩
  rw [← hx]
  apply List.ext_getElem?
  intro j
  simp only [Nat.mul_one] at *
  rw [List.getElem?_take, List.getElem?_set, List.getElem?_take]
  by_cases hj : j < n
  · simp only [hj, if_true]
    rw [List.getElem?_drop, List.getElem?_drop, Array.toList_setIfInBounds, List.getElem?_set]
    have hsz : off + i < cur.toList.length := by simp; omega
    have hlen : i < ((cur.toList.drop off).take n).length := by simp; omega
    by_cases hij : i = j
    · subst hij
      simp only [if_pos hsz, if_pos hlen]
    · rw [if_neg (by omega), if_neg hij]
  · rw [if_neg hj, if_neg hj]
    by_cases hij : i = j
    · subst hij; omega
    · rw [if_neg hij]
/-- A row cut off at its head's end: 's[:n:n]'. -/
theorem own_cut {w : World} {e : TypeId} {a : Option Addr} {n cap : Nat} {xs : List Value} (h : Own w e 1 (.slice a n cap) n xs) (k : Nat) (hk : k ≤ n) : Own w e 1 (.slice a k k) k (xs.take k) := by
  obtain ⟨hl, a', cap', hv, h1, h2, h3, h4⟩ := h
  injection hv with hv1 hv2 hv3
  subst hv1; subst hv3
  refine ⟨by rw [List.length_take, hl]; omega, a, k, rfl, Nat.le_refl _, by omega, fun ha => by have := h3 ha; omega, fun ad had => ?_⟩
  obtain ⟨g, off, cur, rfl, hg, hfit, hx⟩ := h4 ad had
  refine ⟨g, off, cur, rfl, hg, by omega, ?_⟩
  rw [← hx, List.take_take, Nat.mul_one, Nat.mul_one, Nat.min_eq_left hk]
theorem u8s_take (l : List UInt8) (k : Nat) : (u8s l).take k = u8s (l.take k) := by simp [u8s, List.map_take]
theorem u8s_set (l : List UInt8) (k : Nat) (b : UInt8) : (u8s l).set k (u8 b) = u8s (l.set k b) := by simp [u8s, List.map_set]
theorem xor_u8 (x t : UInt8) : Go.bits .xor .u8 (x.toNat : Int) (t.toNat : Int) = ((x ^^^ t).toNat : Int) := by
  rw [Go.u8_xor_nat _ _ x.toNat_lt t.toNat_lt, UInt8.toNat_xor]

/-- The files of which V have crashed. -/
def crV (keep : Int) (t : UInt8) (l : Files) (V : List ByteArray) : Files := l.map fun p => if p.1 ∈ V then (p.1, crF keep t p.2) else p

theorem crV_nil (keep : Int) (t : UInt8) (l : Files) : crV keep t l [] = l := by simp [crV]
theorem crV_all {keep : Int} {t : UInt8} {l : Files} {V : List ByteArray} (h : ∀ p ∈ l, p.1 ∈ V) : crV keep t l V = l.map fun p => (p.1, crF keep t p.2) := by
  unfold crV
  apply List.map_congr_left
  intro p hp
  rw [if_pos (h p hp)]
theorem crV_keys (keep : Int) (t : UInt8) (l : Files) (V : List ByteArray) : (crV keep t l V).map (·.1) = l.map (·.1) := by
  unfold crV
  rw [List.map_map]
  apply List.map_congr_left
  intro p _
  simp only [Function.comp_def]
  split <;> rfl
theorem crV_step {keep : Int} {t : UInt8} {l : Files} {V : List ByteArray} (hn : (l.map (·.1)).Nodup) {k : ByteArray} {y : FileS} (hm : (k, y) ∈ l) :
    gset (crV keep t l V) k (crF keep t y) = crV keep t l (k :: V) := by
  have hk : k ∈ (crV keep t l V).map (·.1) := by rw [crV_keys]; exact List.mem_map.2 ⟨_, hm, rfl⟩
  unfold gset
  rw [if_pos hk]
  unfold crV
  rw [List.map_map]
  apply List.map_congr_left
  intro p hp
  simp only [Function.comp_def]
  by_cases hpk : p.1 = k
  · have : p.2 = y := by
      have h1 := gget_some hn hm
      have h2 := gget_some hn (show (k, p.2) ∈ l from hpk ▸ hp)
      rw [h1] at h2
      injection h2 with h2
      exact h2.symm
    subst this
    have e : (if p.1 ∈ V then (p.1, crF keep t p.2) else p).1 = k := by split <;> exact hpk
    rw [if_pos e, if_pos (by rw [hpk]; exact List.mem_cons_self ..), hpk]
  · have e : ¬ (if p.1 ∈ V then (p.1, crF keep t p.2) else p).1 = k := by split <;> exact hpk
    rw [if_neg e]
    by_cases hV : p.1 ∈ V
    · rw [if_pos hV, if_pos (List.mem_cons_of_mem _ hV)]
    · rw [if_neg hV, if_neg (fun h => (List.mem_cons.1 h).elim hpk hV)]
theorem crV_old {keep : Int} {t : UInt8} {l : Files} {V : List ByteArray} {k : ByteArray} {y : FileS} (hm : (k, y) ∈ crV keep t l V) (hV : k ∉ V) : (k, y) ∈ l := by
  unfold crV at hm
  obtain ⟨p, hp, he⟩ := List.mem_map.1 hm
  split at he
  · rename_i h
    injection he with h1 h2
    exact absurd (h1 ▸ h) hV
  · exact he ▸ hp
theorem gset_same {L : FilesR} (hn : (L.map (·.1)).Nodup) {k : ByteArray} {c c' : FileR} (hc : gget L k = some c) (h1 : c'.blk = c.blk) (h2 : c'.v.ownBlock = c.v.ownBlock) (d m : Nat) :
    ptrL (gset L k c') = ptrL L ∧ ∀ i, FP d m (gset L k c') i → FP d m L i := by
  obtain ⟨l1, l2, rfl, _⟩ := gget_split hc
  rw [gset_split hn]
  refine ⟨by simp [ptrL, FileR.ptr, h1], ?_⟩
  rintro i (rfl | rfl | ⟨p, hp, hpk⟩)
  · exact .inl rfl
  · exact .inr (.inl rfl)
  · rcases List.mem_append.1 hp with hp | hp
    · exact .inr (.inr ⟨p, by simp [hp], hpk⟩)
    · rcases List.mem_cons.1 hp with rfl | hp
      · exact .inr (.inr ⟨(k, c), by simp, by simpa [h1, h2] using hpk⟩)
      · exact .inr (.inr ⟨p, by simp [hp], hpk⟩)

set_option maxRecDepth 100000 in
set_option maxHeartbeats 1000000 in
theorem Crash_any (w : World) (d : Nat) (s : DSt) (F : Nat → Prop) (hD : DiskAt w d s F) (keep : Int) (hk0 : -9223372036854775808 ≤ keep) (hk1 : keep ≤ 9223372036854775807) (t : UInt8) :
    Calls Try.prog 13 #[.pointer (some ⟨d, 0, none⟩), .int .i64 keep, .int .u8 (t.toNat : Int)] w fun e w' => e = .returned (.tuple #[]) ∧ DiskAt w' d (crS s keep t) F ∧ Kp F w w' := by
  obtain ⟨m, fused, left, L, hC, hf, hs, hF, hFs⟩ := hD
  have HD := Lib.hid hC
  have c1 := cell_at hC.cell 1
  simp at c1
  obtain ⟨o, hrun, hit⟩ := run_range_g (P := Try.prog) Try.underlying58 hC.map
  have HI := Lib.hid hit
  obtain ⟨K, hK⟩ : ∃ K, K = keep.toNat := ⟨_, rfl⟩
  have hmax : (if 0 < keep then keep else 0) = (K : Int) := by split <;> omega
  have HK := Lib.hid hK
  clear hK
  have HS := Lib.hid hs
  have HF := Lib.hid hF
  have HFs := Lib.hid hFs
  clear hit hC hs hF hFs hf
  go_enter Try.func13, Try.ntmps13
  go_wp2_with fail
  go_loopg [] (restV (absL L) []) (fun g wr => ∃ V Lc, g = restV (absL L) V ∧ Hid (GIter Value.string wr w.heap.size m (ptrL L) V) ∧ Hid (DiskC wr d m s.room fused left Lc) ∧ Hid (absL Lc = crV keep t (absL L) V) ∧ Hid (ptrL Lc = ptrL L) ∧
    Hid (∀ k, FP d m Lc k → FP d m L k) ∧ Kp (FP d m L) w wr)
  case atStart => exact ⟨[], L, rfl, HI.out, HD.out.keep_no ((Kp.refl _ _).alloc _), (crV_nil _ _ _).symm, rfl, fun _ h => h, (Kp.refl _ _).alloc _⟩
  case round =>
    obtain ⟨V, Lc, rfl, hI, hDc, hab, hpt, hfp, hk⟩ := hrel
    rcases run_next_g (P := Try.prog) 0 hI.out with ⟨hall, hnext⟩ | ⟨p, hp, hpV, n, o', hnext, hI', hent⟩
    · have HA := Lib.hid hall
      clear hall
      have hdl := get_lt hDc.out.cell
      have cd2 := cell_at hDc.out.cell 2
      have fd2 := free_at hDc.out.cell 2
      simp at cd2 fd2
      go_wp2_with fail
      go_end0
      have hset : Kp (One d) wr (wr.setCell ⟨d, 2, none⟩ (.bool false)) := (Kp.refl (One d) _).setCell (p := ⟨d, 2, none⟩) (.inl rfl) _
      have hk2 : Kp (FP d m L) w (wr.setCell ⟨d, 2, none⟩ (.bool false)) := hk.trans hset fun i _ hi => by rw [show i = d from hi]; exact .inl rfl
      have hcr : absL Lc = (crS s keep t).files := by
        rw [hab.out, crV_all (fun q hq => by
          obtain ⟨x, hx, rfl⟩ := List.mem_map.1 hq
          exact HA.out (x.1, x.2.ptr) (List.mem_map.2 ⟨x, hx, rfl⟩))]
        unfold crS
        rw [HS.out]
      refine ⟨rfl, ⟨m, false, left, Lc, hDc.out.setFuse false left hDc.out.left0 hDc.out.leftM hset ?_, rfl, hcr.symm, fun k h => HF.out k (hfp.out k h), fun k h => hk2.lt (HFs.out k h)⟩, hk2.mono fun k _ h => HF.out k h⟩
      have := set_at hDc.out.cell 2 (.bool false)
      simpa using this
    · have hp2 : p ∈ ptrL Lc := by rw [hpt.out]; exact hp
      obtain ⟨x, hx, rfl⟩ := List.mem_map.1 hp2
      have hwm : w.heap.size ≠ m := hI.out.ne
      have hrl : w.heap.size < wr.heap.size := hI.out.lt
      have hfpl : ∀ k, FP d m Lc k → k < w.heap.size := fun k h => HD.out.lt k (hfp.out k h)
      have hk2 : Kp (One w.heap.size) wr (ChangeMaps.setBlock (wr.drewN n) w.heap.size o') := ((Kp.refl (One w.heap.size) wr).drewN n).setBlock (.inl rfl) o'
      have hD2 := hDc.out.keep hk2 fun k h e => by have := hfpl k h; rw [show k = w.heap.size from e] at this; omega
      have hkw : Kp (FP d m L) w (ChangeMaps.setBlock (wr.drewN n) w.heap.size o') := (hk.drewN n).setBlock (.inr (Nat.le_refl _)) o'
      have hnx : (Instr.next (.pointer (some ⟨w.heap.size, 0, none⟩)) false 0).run Try.prog wr = .ok (.tuple #[.bool true, .string x.1, .pointer (some ⟨x.2.blk, 0, none⟩)]) (ChangeMaps.setBlock (wr.drewN n) w.heap.size o') := hnext
      have hen : (Instr.entry (.pointer (some ⟨w.heap.size, 0, none⟩))).run Try.prog (ChangeMaps.setBlock (wr.drewN n) w.heap.size o') = .ok (.tuple #[.string x.1, .pointer (some ⟨x.2.blk, 0, none⟩)]) (ChangeMaps.setBlock (wr.drewN n) w.heap.size o') :=
        hent _ (setBlock_at (w := wr.drewN n) hrl o') (by show (wr.heap.setIfInBounds _ o')[m]? = _; rw [Array.getElem?_setIfInBounds_ne hwm])
      have hV : x.1 ∉ V := hpV
      have hgx := gget_some hD2.keys (show (x.1, x.2) ∈ Lc from hx)
      have hI2 := Lib.hid hI'
      obtain ⟨W2, hW2⟩ : ∃ W, W = ChangeMaps.setBlock (wr.drewN n) w.heap.size o' := ⟨_, rfl⟩
      rw [← hW2] at hD2 hkw hnx hen hI2
      obtain ⟨k, c⟩ := x
      simp only at hnx hen hV hgx hI2
      have hfo := hD2.files _ hx
      have hfl := get_lt hfo.1
      obtain ⟨fa, fc, hv, hnc, _⟩ := hfo.2.1.rd
      have hlast := hfo.2.2
      have hfit := hD2.fits
      have hroom := hD2.roomy
      have hmem := mem_len (l := absL Lc) (p := (k, c.abs)) (List.mem_map.2 ⟨(k, c), hx, rfl⟩)
      have hlen : c.data.length ≤ 1073741824 := by simp only [FileR.abs] at hmem; omega
      simp only at hfo hfl hv hlast hnc
      obtain ⟨st, hst⟩ : ∃ st, st = stays keep c.abs := ⟨_, rfl⟩
      have hst1 : st = c.lasts + K % (c.data.length - c.lasts + 1) := by rw [HK.out]; exact hst
      have hmod := Nat.mod_lt K (show 0 < c.data.length - c.lasts + 1 by omega)
      have hst2 : st ≤ c.data.length := by omega
      have hst3 : c.lasts ≤ st := by omega
      have hstz : (c.lasts : Int) + (K : Int) % ((c.data.length : Int) - (c.lasts : Int) + 1) = (st : Int) := by
        rw [hst1]
        have : (c.data.length : Int) - (c.lasts : Int) + 1 = ((c.data.length - c.lasts + 1 : Nat) : Int) := by omega
        rw [this, ← Int.natCast_emod]
        omega
      have cf0 : ∀ n, (W2.drewN n).cell? ⟨c.blk, 0, none⟩ = some (.slice fa c.data.length fc) := fun n => by rw [cell_at (w := W2.drewN n) hfo.1, hv]; rfl
      have cf1 : ∀ n, (W2.drewN n).cell? ⟨c.blk, 1, none⟩ = some (.int .i64 (c.lasts : Int)) := fun n => by rw [cell_at (w := W2.drewN n) hfo.1]; rfl
      have hnz : ¬ ((c.data.length : Int) - (c.lasts : Int) + 1 = 0) := by omega
      have HST := Lib.hid (And.intro hst hst1)
      have HFO := Lib.hid hfo
      have HD2 := Lib.hid hD2
      have HV := Lib.hid hv
      have HVV := Lib.hid hV
      have HG := Lib.hid hgx
      have HM := Lib.hid hx
      clear hst hst1 hmod hfo hv hV hgx hx hD2 hW2 hk2 hnext hent hI' hp hp2 hpV hmem hI hDc
      go_wp2_with fail
      refine wp_region_ord [0,0,0,1,0,1,0,0,0,1,1,0,0,0,1,0,0,0,0,0] [0,1,2,4,6,7,8,11,12,13,3,5,9,10,14,15,16,17,18,19] (by kernel_rfl) (by kernel_rfl) ?_
      repeat (first
        | (apply wpOrd_skip rfl (by decide) rfl; (focus (go_simp; rfl)))
        | (apply wpOrd_pure rfl rfl rfl; (focus (intro _ _; go_simp; (try go_ints); rfl)); (focus (go_simp; rfl)))
        | (apply wpOrd_read rfl rfl rfl; (focus (intro _; go_simp; (try go_ints); rfl)); (focus (go_simp; rfl))))
      refine wpOrd_nil (fun nq => ?_)
      have cs1 : ∀ n, ((W2.drewN nq).drewN n).frozen? ⟨c.blk, 0, none⟩ = false := fun n => free_at (w := W2.drewN n) HFO.out.1 0
      have fs0 : ((W2.drewN nq).frozen? ⟨c.blk, 0, none⟩) = false := free_at (w := W2.drewN nq) HFO.out.1 0
      obtain ⟨W3, hW3⟩ : ∃ W, W = W2.drewN nq := ⟨_, rfl⟩
      have cf0' := cf0 nq
      have cf1' := cf1 nq
      rw [← hW3] at cf0' cf1' fs0 ⊢
      have K3 : Kp No W2 W3 := by rw [hW3]; exact (Kp.refl _ _).drewN nq
      clear cf0 cf1 cs1 hW3
      obtain ⟨q, hq⟩ : ∃ q, q = st - 1 := ⟨_, rfl⟩
      obtain ⟨sec, hsec⟩ : ∃ sec, sec = q / 16 * 16 := ⟨_, rfl⟩
      obtain ⟨fr, hfr⟩ : ∃ fr, fr = max c.lasts sec := ⟨_, rfl⟩
      have hmax2 : (if 1 < (st : Int) then (st : Int) - 1 else 0) = (q : Int) := by split <;> omega
      have hsecz : (q : Int) / 16 * 16 = (sec : Int) := by omega
      have hmax3 : (if c.lasts < sec then (sec : Int) else (c.lasts : Int)) = (fr : Int) := by split <;> omega
      have hq2 : q ≤ st := by omega
      have hsec2 : sec ≤ q := by omega
      have hfr2 : fr ≤ 1073741824 := by omega
      have HFR := Lib.hid (And.intro hq (And.intro hsec hfr))
      clear hq hsec hfr
      go_wp2_with fail
      -- the world behind the cut
      clear hmax2 hmax3 hsecz hq2 hsec2 hstz hnz hmax
      have hf3 := HFO.out.keep K3 (fun x => x) (fun _ _ x => x)
      have hbk : ∀ g, fa.map (·.block) = some g → g ≠ c.blk := fun g hg e => by
        cases fa with
        | none => cases hg
        | some ad =>
          simp only [Option.map_some, Option.some.injEq] at hg
          obtain ⟨cur, hcur⟩ := hf3.2.1.type g (by rw [HV.out]; simp [Value.ownBlock, hg])
          exact ne_of_type hcur hf3.1 (by decide) e
      have hc3 := set_at hf3.1 0 (.slice fa st st)
      have hcut : Own (W3.setCell ⟨c.blk, 0, none⟩ (.slice fa st st)) 5 1 (.slice fa st st) st (u8s (c.data.take st)) := by
        have h1 := hf3.2.1
        rw [HV.out] at h1
        have h2 := own_cut h1 st hst2
        rw [u8s_take] at h2
        refine h2.keep ((Kp.refl (One c.blk) W3).setCell (p := ⟨c.blk, 0, none⟩) (.inl rfl) _) fun g hg e => ?_
        refine hbk g ?_ e
        cases fa with
        | none => simp [Value.ownBlock] at hg
        | some ad => simpa [Value.ownBlock] using hg
      have K4 : Kp (fun i => i = c.blk ∨ c.v.ownBlock = some i) W3 (W3.setCell ⟨c.blk, 0, none⟩ (.slice fa st st)) := (Kp.refl _ W3).setCell (p := ⟨c.blk, 0, none⟩) (.inl (.inl rfl)) _
      have HOW := Lib.hid hcut
      have HC3 := Lib.hid hc3
      have HF3 := Lib.hid hf3
      clear hcut hc3 hf3 cf0' cf1' fs0
      simp only [List.setIfInBounds_toArray, List.set_cons_zero] at HC3
      obtain ⟨W4, hW4⟩ : ∃ W, W = W3.setCell ⟨c.blk, 0, none⟩ (.slice fa st st) := ⟨_, rfl⟩
      rw [← hW4] at HOW HC3 K4 ⊢
      clear hW4
      have hlenT : (c.data.take st).length = st := by rw [List.length_take]; omega
      have HLT := Lib.hid hlenT
      clear hlenT
      go_loopg [10] (st - fr) (fun gk i wi => ∃ j, fr ≤ j ∧ (j ≤ st ∨ j = fr) ∧ gk = st - j ∧ i = .int .i64 (j : Int) ∧ Hid (Own wi 5 1 (.slice fa st st) st (u8s (torn (c.data.take st) fr j t))) ∧
        Hid (wi.heap[c.blk]? = some (.cells #[.slice fa st st, .int .i64 (c.lasts : Int)] 67 (0, 0))) ∧ Kp (fun i => i = c.blk ∨ c.v.ownBlock = some i) W3 wi)
      case atStart => exact ⟨fr, Nat.le_refl _, .inr rfl, rfl, rfl, by rw [torn_start]; exact HOW.out, HC3.out, K4⟩
      case round =>
        obtain ⟨j, hj1, hj2, rfl, rfl, hO, hB, hK⟩ := hrel
        by_cases hlt : j < st
        · have hjl : j < (c.data.take st).length := by rw [HLT.out]; exact hlt
          have hrd := hO.out.rd'
          obtain ⟨g, off, hfa, hg, _, hc⟩ := hrd.byte (i := j) (by rw [torn_length]; exact hjl)
          subst hfa
          have htg := torn_get (c.data.take st) fr j t hjl
          rw [htg] at hc
          obtain ⟨y, hy⟩ : ∃ y, y = (c.data.take st)[j]'hjl := ⟨_, rfl⟩
          rw [← hy] at hc
          obtain ⟨cur, hcur⟩ := hO.out.type g rfl
          have hfz := free_at hcur (off + j)
          have hne : c.blk ≠ g := ne_of_type hB.out hcur (by decide)
          have hb0 : wr.cell? ⟨c.blk, 0, none⟩ = some (.slice (some ⟨g, off, none⟩) st st) := by rw [cell_at hB.out]; rfl
          have hx := xor_u8 y t
          have HY := Lib.hid hy
          have hrow : c.v.ownBlock = some g := by rw [HV.out]; rfl
          have HR := Lib.hid hrow
          have HN := Lib.hid hne
          clear hy htg hrd hcur hrow hne
          go_wp2_with fail
          go_roundg (st - (j + 1))
          case measure => omega
          case rel =>
            refine ⟨j + 1, by omega, .inl (by omega), rfl, by go_num, ?_, set_far hB.out (p := ⟨g, off + j, none⟩) HN.out _, hK.setCell (p := ⟨g, off + j, none⟩) (.inl (.inr HR.out)) _⟩
            have h1 := own_store hO.out j hlt (Mer.u8 (y ^^^ t))
            rw [u8s_set, HY.out, ← torn_step (c.data.take st) fr j t hj1 (by rw [HLT.out]; exact hlt), ← HY.out] at h1
            exact h1
        · have hb1 : wr.cell? ⟨c.blk, 1, none⟩ = some (.int .i64 (c.lasts : Int)) := by rw [cell_at hB.out]; rfl
          have fb1 := free_at hB.out 1
          go_wp2_with fail
          go_roundg (restV (absL L) (k :: V))
          case measure =>
            have hab' := hab.out
            have hm := HM.out
            have hin : (k, c.abs) ∈ absL L := crV_old (by rw [← hab.out]; exact List.mem_map.2 ⟨(k, c), hm, rfl⟩) HVV.out
            have := (filter_step (V := V) (by rw [keys_absL]; exact HD.out.keys) hin HVV.out).2
            simp only at this
            omega
          case rel =>
            have hin : (k, c.abs) ∈ absL L := crV_old (by rw [← hab.out]; exact List.mem_map.2 ⟨(k, c), HM.out, rfl⟩) HVV.out
            have KF : Kp (fun i => i = c.blk ∨ c.v.ownBlock = some i) W2 (wr.setCell ⟨c.blk, 1, none⟩ (.int .i64 (st : Int))) :=
              ((Kp.of_no K3).trans_same hK).setCell (p := ⟨c.blk, 1, none⟩) (.inl (.inl rfl)) _
            have hbf : (wr.setCell ⟨c.blk, 1, none⟩ (.int .i64 (st : Int))).heap[c.blk]? = some (.cells #[.slice fa st st, .int .i64 (st : Int)] 67 (0, 0)) := set_at hB.out 1 _
            have htl : (torn (c.data.take st) fr st t).length = st := by rw [torn_length, HLT.out]
            have hown : Own (wr.setCell ⟨c.blk, 1, none⟩ (.int .i64 (st : Int))) 5 1 (.slice fa st st) (torn (c.data.take st) fr st t).length (u8s (torn (c.data.take st) fr st t)) := by
              rw [htl, torn_full (c.data.take st) fr st j t (by rw [HLT.out]; exact Nat.le_refl _) (by rw [HLT.out]; omega)]
              refine hO.out.keep ((Kp.refl (One c.blk) wr).setCell (p := ⟨c.blk, 1, none⟩) (.inl rfl) _) fun g hg e => ?_
              obtain ⟨cur, hcur⟩ := hO.out.type g hg
              exact ne_of_type hcur hB.out (by decide) e
            have hrow : (Value.slice fa st st).ownBlock = c.v.ownBlock := by rw [HV.out]; cases fa <;> rfl
            have habs : FileR.abs ⟨c.blk, .slice fa st st, torn (c.data.take st) fr st t, st⟩ = crF keep t c.abs := by
              obtain ⟨h1, h2⟩ := HST.out
              obtain ⟨h3, h4, h5⟩ := HFR.out
              show (⟨torn (c.data.take st) fr st t, st⟩ : FileS) = crF keep t c.abs
              unfold crF
              rw [← h1]
              show _ = (⟨torn (c.data.take st) (max c.lasts ((st - 1) / 16 * 16)) st t, st⟩ : FileS)
              rw [h5, h4, h3]
            have htot := totF_gset (l := absL Lc) (k := k) (x := c.abs) (y := ⟨torn (c.data.take st) fr st t, st⟩) (by rw [keys_absL]; exact HD2.out.keys) (by rw [gget_abs, HG.out]; rfl)
            obtain ⟨h1, _, h3⟩ := HD2.out.setFile (c' := ⟨c.blk, .slice fa st st, torn (c.data.take st) fr st t, st⟩) HG.out rfl KF ⟨hbf, hown, by show st ≤ _; rw [htl]; exact Nat.le_refl _⟩ (.inl hrow) (by
              rw [gset_abs]
              simp only [FileR.abs] at htot ⊢
              rw [htl] at htot
              omega)
            obtain ⟨g1, g2⟩ := gset_same HD2.out.keys (c' := ⟨c.blk, .slice fa st st, torn (c.data.take st) fr st t, st⟩) HG.out rfl hrow d m
            have hws : ∀ i, (i = c.blk ∨ c.v.ownBlock = some i) → i < w.heap.size := fun i hi => HD.out.lt i (hfp.out i (.inr (.inr ⟨(k, c), HM.out, hi⟩)))
            have hwm' : ¬ (m = c.blk ∨ c.v.ownBlock = some m) := fun hi => by
              obtain ⟨es, ck, hm, _⟩ := HD2.out.map
              rcases hi with hi | hi
              · have := HFO.out.1
                rw [← hi, hm] at this
                cases this
              · obtain ⟨cur, hcur⟩ := HFO.out.2.1.type m hi
                rw [hm] at hcur
                cases hcur
            refine ⟨k :: V, gset Lc k ⟨c.blk, .slice fa st st, torn (c.data.take st) fr st t, st⟩, rfl, ?_, h1, ?_, ?_, fun i hi => hfp.out i (g2 i hi), ?_⟩
            · refine hI2.out.of_heap (KF.block _ (by have := hI2.out.lt; exact this) fun hi => by have := hws _ hi; omega) (KF.block m hI2.out.map.lt hwm')
            · show absL _ = _
              rw [gset_abs, habs, hab.out, crV_step (by rw [keys_absL]; exact HD.out.keys) hin]
            · show ptrL _ = _
              rw [g1, hpt.out]
            · exact hkw.trans h3 fun i _ hi => hfp.out i hi
end Go.Proofs.Ytenidddbjobblaa
