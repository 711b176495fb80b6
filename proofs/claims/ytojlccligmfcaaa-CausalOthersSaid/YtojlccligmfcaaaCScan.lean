/-
  Whether a scan may be: causal's scanned.
-/
import Derived.Test.YtojlccligmfcaaaCFound
namespace Go.Mer
open Go Go.RowKit
/-- The set of keys, as the map holds it. -/
def thereL (ks : List ByteArray) : List (ByteArray × Value) := ks.foldl (fun l k => gset l k (.bool true)) []
theorem gset_keys (l : List (ByteArray × Value)) (k : ByteArray) (v : Value) (x : ByteArray) : x ∈ (gset l k v).map (·.1) ↔ x ∈ l.map (·.1) ∨ x = k := by
  unfold gset
  split
  · rename_i h
    have : (l.map (fun p => if p.1 = k then (k, v) else p)).map (·.1) = l.map (·.1) := by
      rw [List.map_map]
      apply List.map_congr_left
      intro p _
      simp only [Function.comp]
      split
      · rename_i e; exact e.symm
      · rfl
    rw [this]
    constructor
    · exact .inl
    · rintro (h' | rfl)
      · exact h'
      · exact h
  · simp
theorem gset_vals (l : List (ByteArray × Value)) (k : ByteArray) (h : ∀ p ∈ l, p.2 = .bool true) : ∀ p ∈ gset l k (.bool true), p.2 = .bool true := by
  intro p hp
  unfold gset at hp
  split at hp
  · obtain ⟨q, hq, rfl⟩ := List.mem_map.1 hp
    split
    · rfl
    · exact h q hq
  · rcases List.mem_append.1 hp with hp | hp
    · exact h p hp
    · rw [List.mem_singleton.1 hp]
theorem there_all (ks : List ByteArray) : ∀ (l : List (ByteArray × Value)), (∀ p ∈ l, p.2 = .bool true) → (∀ p ∈ ks.foldl (fun l k => gset l k (.bool true)) l, p.2 = .bool true) ∧ ∀ x, x ∈ (ks.foldl (fun l k => gset l k (.bool true)) l).map (·.1) ↔ x ∈ l.map (·.1) ∨ x ∈ ks := by
  induction ks with
  | nil => intro l h; exact ⟨h, fun x => by simp⟩
  | cons k ks ih =>
    intro l h
    obtain ⟨h1, h2⟩ := ih (gset l k (.bool true)) (gset_vals l k h)
    refine ⟨h1, fun x => ?_⟩
    rw [List.foldl_cons, h2, gset_keys, List.mem_cons]
    constructor
    · rintro ((h | h) | h)
      · exact .inl h
      · exact .inr (.inl h)
      · exact .inr (.inr h)
    · rintro (h | h | h)
      · exact .inl (.inl h)
      · exact .inl (.inr h)
      · exact .inr h
theorem there_get (ks : List ByteArray) (k : ByteArray) : (gget (thereL ks) k).getD (.bool false) = .bool (decide (k ∈ ks)) := by
  obtain ⟨h1, h2⟩ := there_all ks [] (by simp)
  have h3 := h2 k
  simp only [List.map_nil, List.not_mem_nil, false_or] at h3
  by_cases h : k ∈ ks
  · have hm := h3.2 h
    cases hg : gget (thereL ks) k with
    | none => exact absurd hm (gget_none_iff.1 hg)
    | some v =>
      have := h1 _ (gget_mem hg)
      simp only at this
      rw [this, decide_eq_true h]
      rfl
  · rw [show gget (thereL ks) k = none from gget_none (fun hm => h (h3.1 hm)), decide_eq_false h]
    rfl
theorem there_snoc (ks : List ByteArray) (k : ByteArray) : thereL (ks ++ [k]) = gset (thereL ks) k (.bool true) := by
  unfold thereL
  rw [List.foldl_append]
  rfl
end Go.Mer
namespace Go.Proofs.Ytojlccligmfcaaa
open Go.RowKit Go.Mer

/-! ### the plain law -/
def withinF (key tu k : ByteArray) : Bool := !(Op.bytesLess k.toList key.toList) && (tu.toList.isEmpty || Op.bytesLess k.toList tu.toList)
def leB (a b : ByteArray) : Bool := Op.bytesLess a.toList b.toList || a.toList == b.toList
abbrev PairP := ByteArray × List UInt8
def okF (R : List WrP) (key tu : ByteArray) (t1 t2 : Int) (ps : List PairP) (i : Nat) : Bool :=
  withinF key tu (ps.getD i (⟨#[]⟩, [])).1 && (i == 0 || !leB (ps.getD i (⟨#[]⟩, [])).1 (ps.getD (i - 1) (⟨#[]⟩, [])).1) && foundF (ps.getD i (⟨#[]⟩, [])).1 t1 t2 R (ps.getD i (⟨#[]⟩, [])).2
def skipF (key tu : ByteArray) (m : Int) (ps : List PairP) (k : ByteArray) : Bool :=
  !withinF key tu k || decide (k ∈ ps.map (·.1)) || (decide (m ≤ (ps.length : Int)) && (ps.length == 0 || !leB k (ps.getD (ps.length - 1) (⟨#[]⟩, [])).1))
theorem skip_gt {key tu : ByteArray} {m : Int} {ps : List PairP} {k : ByteArray} {n : Nat} {lk : ByteArray} {d : List UInt8} (hl : ps.length = n + 1) (hf : decide (m ≤ (ps.length : Int)) = true) (hg : ps.getD n (⟨#[]⟩, []) = (lk, d)) (h : leB k lk = false) : skipF key tu m ps k = true := by
  unfold skipF
  rw [hf, hl, Nat.add_sub_cancel, hg]
  simp [h]
theorem skip_le {key tu : ByteArray} {m : Int} {ps : List PairP} {k : ByteArray} {n : Nat} {lk : ByteArray} {d : List UInt8} (hz : withinF key tu k = true) (hth : decide (k ∈ ps.map (·.1)) = false) (hl : ps.length = n + 1) (hg : ps.getD n (⟨#[]⟩, []) = (lk, d)) (h : leB k lk = true) : skipF key tu m ps k = false := by
  unfold skipF
  rw [hz, hth, hl, Nat.add_sub_cancel, hg]
  simp [h]
def scannedF (R : List WrP) (key tu : ByteArray) (m t1 t2 : Int) (ps : List PairP) : Bool :=
  decide ((ps.length : Int) ≤ max 0 m) && (List.range ps.length).all (okF R key tu t1 t2 ps) && R.all fun w => skipF key tu m ps w.key || noneF w.key t1 t2 R
theorem within_any (w : World) (k key tu : ByteArray) (B : Nat) (h7 : w.cell? ⟨B, 7, none⟩ = some (.string key)) (h8 : w.cell? ⟨B, 8, none⟩ = some (.string tu)) :
    Calls Try.prog 25 #[.string k, .pointer (some ⟨B, 0, none⟩)] w fun e w' => e = .returned (.bool (withinF key tu k)) ∧ w = w' := by
  obtain ⟨z, hz⟩ : ∃ z, z = withinF key tu k := ⟨_, rfl⟩
  rw [← hz]
  unfold withinF at hz
  have HZ := Lib.hid hz
  clear hz
  cases h1 : Op.bytesLess k.toList key.toList with
  | true =>
    have H1 := Lib.hid h1
    go_enter Try.func25, Try.ntmps25
    go_wp2_with fail
    go_ret
    exact ⟨by rw [HZ.out, H1.out]; rfl, rfl⟩
  | false =>
    have H1 := Lib.hid h1
    cases h2 : tu.toList.isEmpty with
    | true =>
      have H2 := Lib.hid h2
      have h3 : tu.toList = [] := by simpa using h2
      go_enter Try.func25, Try.ntmps25
      go_wp2_with fail
      go_ret
      exact ⟨by rw [HZ.out, H1.out, H2.out]; rfl, rfl⟩
    | false =>
      have H2 := Lib.hid h2
      have h3 : tu.toList ≠ [] := by simpa using h2
      go_enter Try.func25, Try.ntmps25
      go_wp2_with fail
      go_ret
      exact ⟨by rw [HZ.out, H1.out, H2.out]; rfl, rfl⟩
theorem kindStr : Try.prog.underlying 9 = some .string := Try.underlying9
theorem strKey (k : ByteArray) : MapKept.IsKey .string (.string k) := trivial
theorem strInj (a b : ByteArray) (h : Value.string a = .string b) : a = b := by injection h
theorem zeroBool (w : World) : (zeroValue 4).run Try.prog w = .ok (.bool false) w := by kernel_rfl
def pairsP (x : EvR) : List PairP := x.r.pairs.map fun p => (p.key, p.data)
/-- The boxes of an event, of a stamp and of its step, in a world. -/
structure SBox (W : World) (b4 b7 : Nat) (x : EvR) (t1 t2 : Int) : Prop where
  s0 : W.cell? ⟨b4 + 1, 0, none⟩ = some (.int .i64 t1)
  s1 : W.cell? ⟨b4 + 1, 1, none⟩ = some (.int .i64 t2)
  m : W.cell? ⟨b7, 3, none⟩ = some (.int .i64 x.s.m)
  key : W.cell? ⟨b7, 7, none⟩ = some (.string x.s.key)
  tu : W.cell? ⟨b7, 8, none⟩ = some (.string x.s.to)
theorem pairsP_at {x : EvR} {k : Nat} (h : k < x.r.pairs.length) : (pairsP x).getD k (⟨#[]⟩, []) = (x.r.pairs[k].key, x.r.pairs[k].data) := by
  simp [pairsP, List.getD, h]
theorem all_snoc {f : Nat → Bool} {k : Nat} (h : (List.range k).all f = true) (hk : f k = true) : (List.range (k + 1)).all f = true := by
  rw [List.range_succ, List.all_append, h]
  simp [hk]
theorem all_bad {f : Nat → Bool} {k n : Nat} (hk : k < n) (h : f k = false) : (List.range n).all f = false := by
  rw [List.all_eq_false]
  exact ⟨k, List.mem_range.2 hk, by simp [h]⟩
theorem sc_bad {R : List WrP} {key tu : ByteArray} {m t1 t2 : Int} {ps : List PairP} {k : Nat} (hk : k < ps.length) (h : okF R key tu t1 t2 ps k = false) : scannedF R key tu m t1 t2 ps = false := by
  unfold scannedF
  rw [all_bad hk h]
  simp
theorem all_step {f : WrP → Bool} {R : List WrR} {k : Nat} {r : WrR} (HE : Hid (R.take (k + 1) = R.take k ++ [r])) (h : ((R.take k).map (·.p)).all f = true) (hf : f r.p = true) : ((R.take (k + 1)).map (·.p)).all f = true := by
  rw [HE.out, List.map_append, List.all_append, h]
  simp [hf]
theorem sc_bad2 {R : List WrR} {r : WrR} {key tu : ByteArray} {m t1 t2 : Int} {ps : List PairP} (hr : r ∈ R) (h : skipF key tu m ps r.p.key = false) (h2 : noneF r.p.key t1 t2 (R.map (·.p)) = false) : scannedF (R.map (·.p)) key tu m t1 t2 ps = false := by
  unfold scannedF
  have : ((R.map (·.p)).all fun w => skipF key tu m ps w.key || noneF w.key t1 t2 (R.map (·.p))) = false := by
    rw [List.all_eq_false]
    exact ⟨r.p, List.mem_map.2 ⟨r, hr, rfl⟩, by rw [h, h2]; simp⟩
  rw [this]
  simp
set_option maxRecDepth 100000 in
set_option maxHeartbeats 4000000 in
theorem scanned_any (w : World) (a : Option Addr) (cap : Nat) (R : List WrR) (x : EvR) (t1 t2 : Int) (h : WrsAt w a R) (hl : R.length ≤ 1000) (hv : ∀ r ∈ R, r.p.val.length ≤ 140737488355328) (hx : x.At w) (hs : x.Li) :
    Calls Try.prog 18 #[.slice a R.length cap, .agg x.cells.toArray, stv t1 t2] w fun e w' => e = .returned (.bool (scannedF (R.map (·.p)) x.s.key x.s.to x.s.m t1 t2 (pairsP x))) ∧ Kp No w w' := by
  obtain ⟨F, hF⟩ : ∃ F, F = scannedF (R.map (·.p)) x.s.key x.s.to x.s.m t1 t2 (pairsP x) := ⟨_, rfl⟩
  rw [← hF]
  obtain ⟨W1, hW1⟩ : ∃ W1, W1 = (w.alloc (.cells x.cells.toArray 47)).alloc (.cells #[.int .i64 t1, .int .i64 t2] 32) := ⟨_, rfl⟩
  have h1 : Kp No w W1 := by rw [hW1]; exact ((Kp.refl _ _).alloc _).alloc _
  have b4 : W1.heap[w.heap.size]? = some (.cells x.cells.toArray 47 (0, 0)) := by rw [hW1]; exact alloc_far (heap_alloc_new w _) _
  have b5 : W1.heap[w.heap.size + 1]? = some (.cells #[.int .i64 t1, .int .i64 t2] 32 (0, 0)) := by rw [hW1]; exact (congrArg (fun k => ((w.alloc _).alloc _).heap[k]?) (by simp)).trans (heap_alloc_new (w.alloc _) _)
  have R41 := Lib.hid (show ∀ W, Kp No W1 W → W.rangeAt w.heap.size 1 x.s.cells from fun W hW => rangeAt_block (hW.get b4 fun x => x) 1 10)
  obtain ⟨pa, hpa⟩ : ∃ v, v = x.r.pa := ⟨_, rfl⟩
  have c17 : ∀ W, Kp No W1 W → W.cell? ⟨w.heap.size, 17, none⟩ = some (.slice pa x.r.pairs.length x.r.pcap) := fun W hW => by rw [cell_at (hW.get b4 fun x => x), hpa]; rfl
  have HTop := Lib.hid (show Rd w w.heap.size pa (x.r.pairs.flatMap PairR.cells) by rw [hpa]; exact hx.r.top)
  have HF := Lib.hid hF
  have HA := Lib.hid h
  have HV := Lib.hid hv
  have HX := Lib.hid hx
  have HS := Lib.hid hs
  have H1 := Lib.hid h1
  have HB5 := Lib.hid b5
  have HW1 := Lib.hid hW1
  clear hF h hv hx hs h1 b4 b5 hW1 hpa
  go_enter Try.func18, Try.ntmps18
  go_wp2_with fail
  rw [← HW1.out]
  clear HW1
  refine wp_region_held' (Kp No _) [0,0,0,0,0,2,2,0] [0,1,2,3,4,5,6,7] (by kernel_rfl) (by kernel_rfl) (fun _ n h => h.drewN n) (Kp.refl _ _) ?_
  repeat (first
    | (apply wpOrd_skip rfl (by decide) rfl; (focus (go_simp; rfl)))
    | (apply wpOrd_pure rfl rfl rfl; (focus (intro _ _; go_simp; (try go_ints); rfl)); (focus (go_simp; rfl)))
    | (apply wpOrd_read rfl rfl rfl; (focus (intro _; go_simp; (try go_ints); rfl)); (focus (go_simp; rfl))))
  refine wpOrd_pure rfl rfl rfl (v := .agg x.s.cells.toArray) (fun W0 hW => exec_load_w 41 _ rfl w.heap.size 1 rfl x.s.cells _ (R41.out W0 hW) Try.underlying41 rfl (by kernel_rfl)) rfl ?_
  repeat (first
    | (apply wpOrd_skip rfl (by decide) rfl; (focus (go_simp; rfl)))
    | (apply wpOrd_pure rfl rfl rfl; (focus (intro _ _; go_simp; (try go_ints); rfl)); (focus (go_simp; rfl)))
    | (apply wpOrd_read rfl rfl rfl; (focus (intro _; go_simp; (try go_ints); rfl)); (focus (go_simp; rfl))))
  refine wpOrd_eff rfl rfl (fun n1 => ?_)
  go_wp2_with fail
  refine ⟨((Kp.refl _ _).drewN _).alloc _, ?_⟩
  obtain ⟨W2, hW2⟩ : ∃ W, W = (W1.drewN n1).alloc (.cells #[.int .i64 0, .int .i64 0, .int .i64 0, .int .i64 0, .int .u8 0, .int .i64 0, .int .i64 0, .string { data := #[] }, .string { data := #[] }, .slice none 0 0] 41) := ⟨_, rfl⟩
  have k2 : Kp No W1 W2 := by rw [hW2]; exact ((Kp.refl _ _).drewN _).alloc _
  have b7 : W2.heap[W1.heap.size]? = some (.cells #[.int .i64 0, .int .i64 0, .int .i64 0, .int .i64 0, .int .u8 0, .int .i64 0, .int .i64 0, .string { data := #[] }, .string { data := #[] }, .slice none 0 0] 41 (0, 0)) := by rw [hW2]; exact heap_alloc_new (W1.drewN n1) _
  rw [← hW2]
  have HK2 := Lib.hid k2
  clear hW2 k2
  refine wpOrd_eff rfl rfl (fun n2 => ?_)
  have HB7 := Lib.hid (show (W2.drewN n2).heap[W1.heap.size]? = _ from b7)
  clear b7
  go_wp2_with (refine wpList_store_r rfl 41 _ _ rfl W1.heap.size _ rfl rfl 41 _ HB7 (by kernel_rfl) (by rfl) (by rfl) ?_)
  have k3 : Kp No W1 ((W2.drewN n2).setRow W1.heap.size x.s.cells.toArray) := (HK2.out.drewN n2).setRow (.inr (Nat.le_refl _)) _
  refine ⟨k3, ?_⟩
  have b7 := setRow_at (cs := x.s.cells.toArray) HB7.out
  have HK3 := Lib.hid k3
  clear k3
  repeat (first
    | (apply wpOrd_skip rfl (by decide) rfl; (focus (go_simp; rfl)))
    | (apply wpOrd_pure rfl rfl rfl; (focus (intro _ _; go_simp; (try go_ints); rfl)); (focus (go_simp; rfl)))
    | (apply wpOrd_read rfl rfl rfl; (focus (intro _; go_simp; (try go_ints); rfl)); (focus (go_simp; rfl))))
  refine wpOrd_nil (fun nq => ?_)
  obtain ⟨W3, hW3⟩ : ∃ W, W = ((W2.drewN n2).setRow W1.heap.size x.s.cells.toArray).drewN nq := ⟨_, rfl⟩
  have k3 : Kp No W1 W3 := by rw [hW3]; exact HK3.out.drewN nq
  have b7' : W3.heap[W1.heap.size]? = some (.cells x.s.cells.toArray 41 (0, 0)) := by rw [hW3]; exact b7
  have hs7 : W1.heap.size < W3.heap.size := get_lt b7'
  have hs5 : w.heap.size + 1 < W1.heap.size := get_lt HB5.out
  rw [← hW3]
  have HBX := Lib.hid (show ∀ W, Kp No W3 W → SBox W w.heap.size W1.heap.size x t1 t2 from fun W hW => by
    have e7 := hW.get b7' fun x => x
    have e5 := (k3.trans_same hW).get HB5.out fun x => x
    constructor
    · rw [cell_at e5]; rfl
    · rw [cell_at e5]; rfl
    · rw [cell_at e7]; rfl
    · rw [cell_at e7]; rfl
    · rw [cell_at e7]; rfl)
  have K3 := Lib.hid (H1.out.trans_same k3)
  clear hW3 b7 b7' HB5 HB7 HK2 HK3 k3 c17 R41
  obtain ⟨d0, d1, d2, d3, d4⟩ := HBX.out W3 (Kp.refl _ _)
  obtain ⟨big, hbig⟩ : ∃ z : Bool, z = decide (max 0 x.s.m < (x.r.pairs.length : Int)) := ⟨_, rfl⟩
  have HBig := Lib.hid hbig
  clear hbig
  go_upto_region 2 with fail
  go_cut [26] from 16 (fun s wx => s = .bool big ∧ wx = W3)
  case first =>
    by_cases hm0 : 0 < x.s.m
    · have hB := HBig.out
      rw [show max 0 x.s.m = x.s.m from by omega] at hB
      have HB := Lib.hid hB
      clear hB
      go_wp2_with fail
      go_meet
      case rel => exact ⟨by rw [HB.out], rfl⟩
    · have hB := HBig.out
      rw [show max 0 x.s.m = 0 from by omega] at hB
      have HB := Lib.hid hB
      clear hB
      go_wp2_with fail
      go_meet
      case rel => exact ⟨by rw [HB.out]; congr 1; simp, rfl⟩
  case rest =>
  obtain ⟨rfl, rfl⟩ := hcut
  cases big with
  | true =>
    have hsc : F = false := by
      have hB := of_decide_eq_true HBig.out.symm
      rw [HF.out]
      unfold scannedF pairsP
      rw [List.length_map, decide_eq_false (by omega)]
      rfl
    subst hsc
    go_wp2_with fail
    go_ret
    exact ⟨rfl, K3.out⟩
  | false =>
    have hle : (x.r.pairs.length : Int) ≤ max 0 x.s.m := by
      have hB := of_decide_eq_false HBig.out.symm
      omega
    have HLe := Lib.hid hle
    have hmm := @run_makeMap Try.prog
    clear hle
    go_wp2_with fail
    rename World => W0
    have hmany : x.r.pairs.length ≤ 8000 := HS.out.many
    go_loopw [31] (fun i wr => ∃ k : Nat, k ≤ x.r.pairs.length ∧ i = .int .i64 (k : Int) ∧ Hid (GMap Value.string wr W0.heap.size (thereL ((x.r.pairs.take k).map (·.key)))) ∧ Hid (Kp No W0 wr) ∧ Hid ((List.range k).all (okF (R.map (·.p)) x.s.key x.s.to t1 t2 (pairsP x)) = true)) (fun i _ => x.r.pairs.length - (intOf i).toNat)
    case atStart => exact ⟨0, Nat.zero_le _, rfl, Lib.hid (GMap.made Value.string W0), Lib.hid ((Kp.refl _ _).alloc _), Lib.hid rfl⟩
    case round =>
      obtain ⟨k, hk, rfl, HG, HK, HO⟩ := hrel
      have HKW := Lib.hid (K3.out.trans_same HK.out)
      have hm0 := HG.out.lt
      by_cases hlt : k < x.r.pairs.length
      · obtain ⟨g, off, rfl, l0⟩ := rd_chunk (f := PairR.cells) (c := 2) (fun _ => rfl) (by decide) (HTop.out.kp HKW.out) hlt
        have HE := Lib.hid (List.take_succ_eq_append_getElem hlt)
        have hpat := HX.out.r.each _ (List.getElem_mem hlt)
        obtain ⟨hp1, hp2⟩ := HS.out.pairs _ (List.getElem_mem hlt)
        have hpp := pairsP_at hlt
        have q0 := l0 wr (Kp.refl _ _) 0 _ rfl
        have q1 := l0 wr (Kp.refl _ _) 1 _ rfl
        rw [Nat.add_zero] at q0
        obtain ⟨p, hp⟩ : ∃ p, p = x.r.pairs[k] := ⟨_, rfl⟩
        rw [← hp] at HE hpat hp1 hp2 hpp q0 q1
        have HPP := Lib.hid hpp
        have HPAT := Lib.hid hpat
        clear hp hpp hpat l0
        obtain ⟨W5, hW5⟩ : ∃ W, W = wr.alloc (.cells #[.string p.key, .slice p.a p.data.length p.cap] 53) := ⟨_, rfl⟩
        have k5 : Kp No wr W5 := by rw [hW5]; exact (Kp.refl _ _).alloc _
        have b12 : W5.heap[wr.heap.size]? = some (.cells #[.string p.key, .slice p.a p.data.length p.cap] 53 (0, 0)) := by rw [hW5]; exact heap_alloc_new wr _
        go_upto_region 9 with fail
        rw [← hW5]
        have f0 : ∀ W, Kp No W5 W → W.cell? ⟨wr.heap.size, 0, none⟩ = some (.string p.key) := fun W hW => by rw [cell_at (hW.get b12 fun x => x)]; rfl
        have f1 : ∀ W, Kp No W5 W → W.cell? ⟨wr.heap.size, 1, none⟩ = some (.slice p.a p.data.length p.cap) := fun W hW => by rw [cell_at (hW.get b12 fun x => x)]; rfl
        have e0 : ∀ W, Kp No W5 W → W.cell? ⟨w.heap.size + 1, 0, none⟩ = some (.int .i64 t1) := fun W hW => (HBX.out W (HK.out.trans_same (k5.trans_same hW))).s0
        have e1 : ∀ W, Kp No W5 W → W.cell? ⟨w.heap.size + 1, 1, none⟩ = some (.int .i64 t2) := fun W hW => (HBX.out W (HK.out.trans_same (k5.trans_same hW))).s1
        have hw := fun n => within_any (W5.drewN n) p.key x.s.key x.s.to W1.heap.size (HBX.out _ (HK.out.trans_same (k5.drewN n))).key (HBX.out _ (HK.out.trans_same (k5.drewN n))).tu
        obtain ⟨z, hz⟩ : ∃ z, z = withinF x.s.key x.s.to p.key := ⟨_, rfl⟩
        rw [← hz] at hw
        have HW := Lib.hid hw
        have HZ := Lib.hid hz
        have HK5 := Lib.hid k5
        clear hw hz hW5 b12 k5 q0 q1
        cases z with
        | false =>
          refine wp_region_held' (Kp No _) [0,0,0,2,0,0,0,0,0,0,0,0,0,0,0,0,0,0,0,0,0,0,0,0,0,0,0,2,0,0] [0,1,2,3,4,5,6,7,8,9,10,11,12,13,14,15,16,17,18,19,20,21,22,23,24,25,26,27,28,29] (by kernel_rfl) (by kernel_rfl) (fun _ n h => h.drewN n) (Kp.refl _ _) ?_
          repeat (first
            | (apply wpOrd_skip rfl (by decide) rfl; (focus (go_simp; rfl)))
            | (apply wpOrd_pure rfl rfl rfl; (focus (intro _ _; go_simp; (try go_ints); rfl)); (focus (go_simp; rfl)))
            | (apply wpOrd_read rfl rfl rfl; (focus (intro _; go_simp; (try go_ints); rfl)); (focus (go_simp; rfl))))
          refine wpOrd_eff rfl rfl (fun n1 => ?_)
          go_wp2_with fail
          refine (HW.out n1).mono ?_
          rintro e w6 ⟨rfl, rfl⟩
          go_wp2_with fail
          refine ⟨(Kp.refl _ _).drewN _, ?_⟩
          repeat (first
            | (apply wpOrd_skip rfl (by decide) rfl; (focus (go_simp; rfl)))
            | (apply wpOrd_pure rfl rfl rfl; (focus (intro _ _; go_simp; (try go_ints); rfl)); (focus (go_simp; rfl)))
            | (apply wpOrd_read rfl rfl rfl; (focus (intro _; go_simp; (try go_ints); rfl)); (focus (go_simp; rfl))))
          refine wpOrd_shutw rfl rfl rfl (by go_simp; try rfl) (fun n2 => ?_)
          refine ⟨((Kp.refl _ _).drewN _).drewN _, ?_⟩
          repeat (first
            | (apply wpOrd_skip rfl (by decide) rfl; (focus (go_simp; rfl)))
            | (apply wpOrd_pure rfl rfl rfl; (focus (intro _ _; go_simp; (try go_ints); rfl)); (focus (go_simp; rfl)))
            | (apply wpOrd_read rfl rfl rfl; (focus (intro _; go_simp; (try go_ints); rfl)); (focus (go_simp; rfl))))
          refine wpOrd_nil (fun nq => ?_)
          have HFF := Lib.hid (show F = false by rw [HF.out]; exact sc_bad (k := k) (by unfold pairsP; rw [List.length_map]; exact hlt) (by unfold okF; rw [HPP.out, ← HZ.out]; rfl))
          go_wp2_with fail
          go_ret
          exact ⟨by rw [HFF.out]; rfl, (((HKW.out.trans_same HK5.out).drewN _).drewN _).drewN _⟩
        | true =>
          have hfn := fun W (hW : Kp No W5 W) => found_any W a cap R p.key t1 t2 (HA.out.keep (HKW.out.trans_same (HK5.out.trans_same hW))) hl HV.out p.a p.cap p.data (Rd.kp HPAT.out (HKW.out.trans_same (HK5.out.trans_same hW)))
          obtain ⟨zf, hzf⟩ : ∃ z, z = foundF p.key t1 t2 (R.map (·.p)) p.data := ⟨_, rfl⟩
          rw [← hzf] at hfn
          have HFN := Lib.hid hfn
          have HZF := Lib.hid hzf
          clear hfn hzf
          rcases k with _ | j
          · have HPre := Lib.hid (show ((0 : Nat) == 0 || !leB ((pairsP x).getD 0 (⟨#[]⟩, [])).1 ((pairsP x).getD (0 - 1) (⟨#[]⟩, [])).1) = true from rfl)
            refine wp_region_held' (Kp No _) [0,0,0,2,0,0,0,0,0,0,0,0,0,0,0,0,0,0,0,0,0,0,0,0,0,0,0,2,0,0] [0,1,2,3,4,5,6,7,8,9,10,11,12,13,14,15,16,17,18,19,20,21,22,23,24,25,26,27,28,29] (by kernel_rfl) (by kernel_rfl) (fun _ n h => h.drewN n) (Kp.refl _ _) ?_
            repeat (first
              | (apply wpOrd_skip rfl (by decide) rfl; (focus (go_simp; rfl)))
              | (apply wpOrd_pure rfl rfl rfl; (focus (intro _ _; go_simp; (try go_ints); rfl)); (focus (go_simp; rfl)))
              | (apply wpOrd_read rfl rfl rfl; (focus (intro _; go_simp; (try go_ints); rfl)); (focus (go_simp; rfl))))
            refine wpOrd_eff rfl rfl (fun n1 => ?_)
            go_wp2_with fail
            refine (HW.out n1).mono ?_
            rintro e w6 ⟨rfl, rfl⟩
            go_wp2_with fail
            refine ⟨(Kp.refl _ _).drewN _, ?_⟩
            repeat (first
              | (apply wpOrd_skip rfl (by decide) rfl; (focus (go_simp; rfl)))
              | (apply wpOrd_pure rfl rfl rfl; (focus (intro _ _; go_simp; (try go_ints); rfl)); (focus (go_simp; rfl)))
              | (apply wpOrd_read rfl rfl rfl; (focus (intro _; go_simp; (try go_ints); rfl)); (focus (go_simp; rfl))))
            refine wpOrd_eff rfl rfl (fun n2 => ?_)
            go_wp2_with fail
            refine (HFN.out _ ((Kp.refl _ _).drewN _)).mono ?_
            rintro e w7 ⟨rfl, hk7⟩
            have k7 : Kp No W5 w7 := ((Kp.refl _ _).drewN (n1 + n2)).trans_same hk7
            clear hk7
            cases zf with
            | false =>
              go_wp2_with fail
              repeat (first
                | (apply wpOrd_skip rfl (by decide) rfl; (focus (go_simp; rfl)))
                | (apply wpOrd_pure rfl rfl rfl; (focus (intro _ _; go_simp; (try go_ints); rfl)); (focus (go_simp; rfl)))
                | (apply wpOrd_read rfl rfl rfl; (focus (intro _; go_simp; (try go_ints); rfl)); (focus (go_simp; rfl))))
              refine wpOrd_nil (fun nq => ?_)
              have HKE := Lib.hid ((HKW.out.trans_same (HK5.out.trans_same k7)).drewN nq)
              clear f0 f1 e0 e1 k7
              have HFF := Lib.hid (show F = false by rw [HF.out]; exact sc_bad (k := 0) (by unfold pairsP; rw [List.length_map]; exact hlt) (by unfold okF; rw [HPre.out, HPP.out, ← HZF.out]; simp))
              go_wp2_with fail
              go_ret
              exact ⟨by rw [HFF.out]; rfl, HKE.out⟩
            | true =>
              go_wp2_with fail
              repeat (first
                | (apply wpOrd_skip rfl (by decide) rfl; (focus (go_simp; rfl)))
                | (apply wpOrd_pure rfl rfl rfl; (focus (intro _ _; go_simp; (try go_ints); rfl)); (focus (go_simp; rfl)))
                | (apply wpOrd_read rfl rfl rfl; (focus (intro _; go_simp; (try go_ints); rfl)); (focus (go_simp; rfl))))
              refine wpOrd_nil (fun nq => ?_)
              obtain ⟨W7, hW7⟩ : ∃ W, W = w7.drewN nq := ⟨_, rfl⟩
              have k57 : Kp No W5 W7 := by rw [hW7]; exact k7.drewN nq
              rw [← hW7]
              have kr7 := HK5.out.trans_same k57
              obtain ⟨o, hupd, hG⟩ := run_update_g (P := Try.prog) (w := W7) Try.underlying77 kindStr strKey strInj (HG.out.of_heap (kr7.block _ hm0 (fun x => x))) p.key (.bool true)
              have f07 := f0 W7 k57
              have HRel := Lib.hid (show GMap Value.string (ChangeMaps.setBlock W7 W0.heap.size o) W0.heap.size (thereL ((x.r.pairs.take (0 + 1)).map (·.key))) by
                rw [HE.out, List.map_append]
                simp only [List.map_cons, List.map_nil]
                rw [there_snoc]
                exact hG _ (setBlock_at (Nat.lt_of_lt_of_le hm0 kr7.size) o))
              have HNext := Lib.hid (show 0 + 1 ≤ x.r.pairs.length from hlt)
              have HK8 := Lib.hid (show Kp No W0 (ChangeMaps.setBlock W7 W0.heap.size o) from (HK.out.trans_same kr7).setBlock (.inr (Nat.le_refl _)) o)
              have HO8 := Lib.hid (all_snoc HO.out (show okF (R.map (·.p)) x.s.key x.s.to t1 t2 (pairsP x) 0 = true by unfold okF; rw [HPre.out, HPP.out, ← HZ.out, ← HZF.out]; rfl))
              clear hG kr7 k57 hW7 k7 f0 f1 e0 e1
              (try clear hw1 hw2)
              go_wp2_with fail
              go_roundw
              case rel => exact ⟨0 + 1, by omega, by go_num, HRel, HK8, HO8⟩
              case measure => simp [intOf]; omega
          · have hjl : j < x.r.pairs.length := by omega
            obtain ⟨g', off', hgg, l1⟩ := rd_chunk (f := PairR.cells) (c := 2) (fun _ => rfl) (by decide) (HTop.out.kp HKW.out) hjl
            injection hgg with hgg
            injection hgg with e1 e2 _
            subst e1; subst e2
            have hpj := pairsP_at hjl
            have f3 : ∀ W, Kp No W5 W → W.cell? ⟨g, off + j * 2, none⟩ = some (.string x.r.pairs[j].key) := fun W hW => l1 W (HK5.out.trans_same hW) 0 _ rfl
            obtain ⟨pk, hpk⟩ : ∃ pk, pk = x.r.pairs[j].key := ⟨_, rfl⟩
            rw [← hpk] at hpj f3
            have HPJ := Lib.hid hpj
            have hw1 : IntKind.i64.wrap (j : Int) = (j : Int) := IntWalk.i64_in _ (by omega)
            have hw2 : IntKind.i64.wrap ((j : Int) + 1 - 1) = (j : Int) := by rw [show (j : Int) + 1 - 1 = (j : Int) from by omega]; exact IntWalk.i64_in _ (by omega)
            clear hpj hpk l1
            cases hl1 : Op.bytesLess p.key.toList pk.toList with
            | true =>
              have HPre := Lib.hid (show (j + 1 == 0 || !leB ((pairsP x).getD (j + 1) (⟨#[]⟩, [])).1 ((pairsP x).getD (j + 1 - 1) (⟨#[]⟩, [])).1) = false by rw [HPP.out, show j + 1 - 1 = j from rfl, HPJ.out]; simp [leB, hl1])
              refine wp_region_held' (Kp No _) [0,0,0,2,0,0,0,0,0,0,0,0,0,0,0,0,0,0,0,0,0,0,0,0,0,0,0,2,0,0] [0,1,2,3,4,5,6,7,8,9,10,11,12,13,14,15,16,17,18,19,20,21,22,23,24,25,26,27,28,29] (by kernel_rfl) (by kernel_rfl) (fun _ n h => h.drewN n) (Kp.refl _ _) ?_
              repeat (first
                | (apply wpOrd_skip rfl (by decide) rfl; (focus (go_simp; rfl)))
                | (apply wpOrd_pure rfl rfl rfl; (focus (intro _ _; go_simp; (try go_ints); rfl)); (focus (go_simp; rfl)))
                | (apply wpOrd_read rfl rfl rfl; (focus (intro _; go_simp; (try go_ints); rfl)); (focus (go_simp; rfl))))
              refine wpOrd_eff rfl rfl (fun n1 => ?_)
              go_wp2_with fail
              refine (HW.out n1).mono ?_
              rintro e w6 ⟨rfl, rfl⟩
              go_wp2_with fail
              refine ⟨(Kp.refl _ _).drewN _, ?_⟩
              repeat (first
                | (apply wpOrd_skip rfl (by decide) rfl; (focus (go_simp; rfl)))
                | (apply wpOrd_pure rfl rfl rfl; (focus (intro _ _; go_simp; (try go_ints); rfl)); (focus (go_simp; rfl)))
                | (apply wpOrd_read rfl rfl rfl; (focus (intro _; go_simp; (try go_ints); rfl)); (focus (go_simp; rfl))))
              refine wpOrd_shutw rfl rfl rfl (by go_simp; try rfl) (fun n2 => ?_)
              refine ⟨((Kp.refl _ _).drewN _).drewN _, ?_⟩
              repeat (first
                | (apply wpOrd_skip rfl (by decide) rfl; (focus (go_simp; rfl)))
                | (apply wpOrd_pure rfl rfl rfl; (focus (intro _ _; go_simp; (try go_ints); rfl)); (focus (go_simp; rfl)))
                | (apply wpOrd_read rfl rfl rfl; (focus (intro _; go_simp; (try go_ints); rfl)); (focus (go_simp; rfl))))
              refine wpOrd_nil (fun nq => ?_)
              have HFF := Lib.hid (show F = false by rw [HF.out]; exact sc_bad (k := j + 1) (by unfold pairsP; rw [List.length_map]; exact hlt) (by unfold okF; rw [HPre.out]; simp))
              go_wp2_with fail
              go_ret
              exact ⟨by rw [HFF.out]; rfl, (((HKW.out.trans_same HK5.out).drewN _).drewN _).drewN _⟩
            | false =>
              cases hl2 : (p.key.toList == pk.toList) with
              | true =>
                have HPre := Lib.hid (show (j + 1 == 0 || !leB ((pairsP x).getD (j + 1) (⟨#[]⟩, [])).1 ((pairsP x).getD (j + 1 - 1) (⟨#[]⟩, [])).1) = false by rw [HPP.out, show j + 1 - 1 = j from rfl, HPJ.out]; simp [leB, hl1, hl2])
                refine wp_region_held' (Kp No _) [0,0,0,2,0,0,0,0,0,0,0,0,0,0,0,0,0,0,0,0,0,0,0,0,0,0,0,2,0,0] [0,1,2,3,4,5,6,7,8,9,10,11,12,13,14,15,16,17,18,19,20,21,22,23,24,25,26,27,28,29] (by kernel_rfl) (by kernel_rfl) (fun _ n h => h.drewN n) (Kp.refl _ _) ?_
                repeat (first
                  | (apply wpOrd_skip rfl (by decide) rfl; (focus (go_simp; rfl)))
                  | (apply wpOrd_pure rfl rfl rfl; (focus (intro _ _; go_simp; (try go_ints); rfl)); (focus (go_simp; rfl)))
                  | (apply wpOrd_read rfl rfl rfl; (focus (intro _; go_simp; (try go_ints); rfl)); (focus (go_simp; rfl))))
                refine wpOrd_eff rfl rfl (fun n1 => ?_)
                go_wp2_with fail
                refine (HW.out n1).mono ?_
                rintro e w6 ⟨rfl, rfl⟩
                go_wp2_with fail
                refine ⟨(Kp.refl _ _).drewN _, ?_⟩
                repeat (first
                  | (apply wpOrd_skip rfl (by decide) rfl; (focus (go_simp; rfl)))
                  | (apply wpOrd_pure rfl rfl rfl; (focus (intro _ _; go_simp; (try go_ints); rfl)); (focus (go_simp; rfl)))
                  | (apply wpOrd_read rfl rfl rfl; (focus (intro _; go_simp; (try go_ints); rfl)); (focus (go_simp; rfl))))
                refine wpOrd_shutw rfl rfl rfl (by go_simp; try rfl) (fun n2 => ?_)
                refine ⟨((Kp.refl _ _).drewN _).drewN _, ?_⟩
                repeat (first
                  | (apply wpOrd_skip rfl (by decide) rfl; (focus (go_simp; rfl)))
                  | (apply wpOrd_pure rfl rfl rfl; (focus (intro _ _; go_simp; (try go_ints); rfl)); (focus (go_simp; rfl)))
                  | (apply wpOrd_read rfl rfl rfl; (focus (intro _; go_simp; (try go_ints); rfl)); (focus (go_simp; rfl))))
                refine wpOrd_nil (fun nq => ?_)
                have HFF := Lib.hid (show F = false by rw [HF.out]; exact sc_bad (k := j + 1) (by unfold pairsP; rw [List.length_map]; exact hlt) (by unfold okF; rw [HPre.out]; simp))
                go_wp2_with fail
                go_ret
                exact ⟨by rw [HFF.out]; rfl, (((HKW.out.trans_same HK5.out).drewN _).drewN _).drewN _⟩
              | false =>
                have HPre := Lib.hid (show (j + 1 == 0 || !leB ((pairsP x).getD (j + 1) (⟨#[]⟩, [])).1 ((pairsP x).getD (j + 1 - 1) (⟨#[]⟩, [])).1) = true by rw [HPP.out, show j + 1 - 1 = j from rfl, HPJ.out]; simp [leB, hl1, hl2])
                refine wp_region_held' (Kp No _) [0,0,0,2,0,0,0,0,0,0,0,0,0,0,0,0,0,0,0,0,0,0,0,0,0,0,0,2,0,0] [0,1,2,3,4,5,6,7,8,9,10,11,12,13,14,15,16,17,18,19,20,21,22,23,24,25,26,27,28,29] (by kernel_rfl) (by kernel_rfl) (fun _ n h => h.drewN n) (Kp.refl _ _) ?_
                repeat (first
                  | (apply wpOrd_skip rfl (by decide) rfl; (focus (go_simp; rfl)))
                  | (apply wpOrd_pure rfl rfl rfl; (focus (intro _ _; go_simp; (try go_ints); rfl)); (focus (go_simp; rfl)))
                  | (apply wpOrd_read rfl rfl rfl; (focus (intro _; go_simp; (try go_ints); rfl)); (focus (go_simp; rfl))))
                refine wpOrd_eff rfl rfl (fun n1 => ?_)
                go_wp2_with fail
                refine (HW.out n1).mono ?_
                rintro e w6 ⟨rfl, rfl⟩
                go_wp2_with fail
                refine ⟨(Kp.refl _ _).drewN _, ?_⟩
                repeat (first
                  | (apply wpOrd_skip rfl (by decide) rfl; (focus (go_simp; rfl)))
                  | (apply wpOrd_pure rfl rfl rfl; (focus (intro _ _; go_simp; (try go_ints); rfl)); (focus (go_simp; rfl)))
                  | (apply wpOrd_read rfl rfl rfl; (focus (intro _; go_simp; (try go_ints); rfl)); (focus (go_simp; rfl))))
                refine wpOrd_eff rfl rfl (fun n2 => ?_)
                go_wp2_with fail
                refine (HFN.out _ ((Kp.refl _ _).drewN _)).mono ?_
                rintro e w7 ⟨rfl, hk7⟩
                have k7 : Kp No W5 w7 := ((Kp.refl _ _).drewN (n1 + n2)).trans_same hk7
                clear hk7
                cases zf with
                | false =>
                  go_wp2_with fail
                  repeat (first
                    | (apply wpOrd_skip rfl (by decide) rfl; (focus (go_simp; rfl)))
                    | (apply wpOrd_pure rfl rfl rfl; (focus (intro _ _; go_simp; (try go_ints); rfl)); (focus (go_simp; rfl)))
                    | (apply wpOrd_read rfl rfl rfl; (focus (intro _; go_simp; (try go_ints); rfl)); (focus (go_simp; rfl))))
                  refine wpOrd_nil (fun nq => ?_)
                  have HKE := Lib.hid ((HKW.out.trans_same (HK5.out.trans_same k7)).drewN nq)
                  clear f0 f1 e0 e1 k7
                  have HFF := Lib.hid (show F = false by rw [HF.out]; exact sc_bad (k := (j + 1)) (by unfold pairsP; rw [List.length_map]; exact hlt) (by unfold okF; rw [HPre.out, HPP.out, ← HZF.out]; simp))
                  go_wp2_with fail
                  go_ret
                  exact ⟨by rw [HFF.out]; rfl, HKE.out⟩
                | true =>
                  go_wp2_with fail
                  repeat (first
                    | (apply wpOrd_skip rfl (by decide) rfl; (focus (go_simp; rfl)))
                    | (apply wpOrd_pure rfl rfl rfl; (focus (intro _ _; go_simp; (try go_ints); rfl)); (focus (go_simp; rfl)))
                    | (apply wpOrd_read rfl rfl rfl; (focus (intro _; go_simp; (try go_ints); rfl)); (focus (go_simp; rfl))))
                  refine wpOrd_nil (fun nq => ?_)
                  obtain ⟨W7, hW7⟩ : ∃ W, W = w7.drewN nq := ⟨_, rfl⟩
                  have k57 : Kp No W5 W7 := by rw [hW7]; exact k7.drewN nq
                  rw [← hW7]
                  have kr7 := HK5.out.trans_same k57
                  obtain ⟨o, hupd, hG⟩ := run_update_g (P := Try.prog) (w := W7) Try.underlying77 kindStr strKey strInj (HG.out.of_heap (kr7.block _ hm0 (fun x => x))) p.key (.bool true)
                  have f07 := f0 W7 k57
                  have HRel := Lib.hid (show GMap Value.string (ChangeMaps.setBlock W7 W0.heap.size o) W0.heap.size (thereL ((x.r.pairs.take ((j + 1) + 1)).map (·.key))) by
                    rw [HE.out, List.map_append]
                    simp only [List.map_cons, List.map_nil]
                    rw [there_snoc]
                    exact hG _ (setBlock_at (Nat.lt_of_lt_of_le hm0 kr7.size) o))
                  have HNext := Lib.hid (show (j + 1) + 1 ≤ x.r.pairs.length from hlt)
                  have HK8 := Lib.hid (show Kp No W0 (ChangeMaps.setBlock W7 W0.heap.size o) from (HK.out.trans_same kr7).setBlock (.inr (Nat.le_refl _)) o)
                  have HO8 := Lib.hid (all_snoc HO.out (show okF (R.map (·.p)) x.s.key x.s.to t1 t2 (pairsP x) (j + 1) = true by unfold okF; rw [HPre.out, HPP.out, ← HZ.out, ← HZF.out]; rfl))
                  clear hG kr7 k57 hW7 k7 f0 f1 e0 e1
                  (try clear hw1 hw2)
                  go_wp2_with fail
                  go_roundw
                  case rel => exact ⟨(j + 1) + 1, by omega, by go_num, HRel, HK8, HO8⟩
                  case measure => simp [intOf]; omega
      · obtain rfl : k = x.r.pairs.length := by omega
        rw [List.take_length] at HG
        clear hlt d0 d1 d2 d3 d4
        obtain ⟨d0, d1, d2, d3, d4⟩ := HBX.out wr HK.out
        have HPK : ∀ k', decide (k' ∈ (pairsP x).map (·.1)) = decide (k' ∈ x.r.pairs.map (·.key)) := fun k' => by simp [pairsP]
        have HPKL := Lib.hid HPK
        have hpl : (pairsP x).length = x.r.pairs.length := by simp [pairsP]
        have HPL := Lib.hid hpl
        clear HPK hpl
        cases hful : decide (x.s.m ≤ (x.r.pairs.length : Int)) with
        | false =>
          have HFul := Lib.hid hful
          have hwm := hm0
          have HK3V := Lib.hid (K3.out.trans_same HK.out)
          go_wp2_with fail
          clear hful d0 d1 d2 d3 d4
          rename World => V0
          go_loopw [77] (fun i wr => ∃ k : Nat, k ≤ R.length ∧ i = .int .i64 (k : Int) ∧ Hid (Kp No V0 wr) ∧ Hid (((R.take k).map (·.p)).all (fun w => skipF x.s.key x.s.to x.s.m (pairsP x) w.key || noneF w.key t1 t2 (R.map (·.p))) = true)) (fun i _ => R.length - (intOf i).toNat)
          case atStart => exact ⟨0, Nat.zero_le _, rfl, Lib.hid (Kp.refl _ _), Lib.hid rfl⟩
          case round =>
            obtain ⟨k, hk, rfl, HKV, HOK⟩ := hrel
            have HKW0 := Lib.hid (HK.out.trans_same HKV.out)
            have HKww := Lib.hid (K3.out.trans_same HKW0.out)
            by_cases hlt : k < R.length
            · obtain ⟨g, off, rfl, l0⟩ := rd_chunk (f := WrR.cells) (c := 9) WrR.cells_len (by decide) (HA.out.top.kp HKww.out) hlt
              have HE := Lib.hid (List.take_succ_eq_append_getElem hlt)
              have HMem := Lib.hid (List.getElem_mem hlt)
              obtain ⟨r, hr⟩ : ∃ r, r = R[k] := ⟨_, rfl⟩
              rw [← hr] at l0 HE HMem
              have R1 : Hid (wr.rangeAt g (off + k * 9) r.cells) := Lib.hid fun j v hv => l0 wr (Kp.refl _ _) j v hv
              obtain ⟨W5, hW5⟩ : ∃ W, W = wr.alloc (.cells r.cells.toArray 37) := ⟨_, rfl⟩
              have k5 : Kp No wr W5 := by rw [hW5]; exact (Kp.refl _ _).alloc _
              have b15 : W5.heap[wr.heap.size]? = some (.cells r.cells.toArray 37 (0, 0)) := by rw [hW5]; exact heap_alloc_new wr _
              have HW5 := Lib.hid hW5
              clear l0 hr hW5
              go_upto_region 17 with (first
                | (refine wpList_load_w rfl 37 _ rfl g (off + k * 9) rfl _ _ R1 Try.underlying37 rfl (by kernel_rfl) ?_)
                | (refine wpList_store_w rfl 37 _ _ rfl wr.heap.size (by rfl) _ _ _ rfl rfl (by kernel_rfl) (by rfl) (by rfl) ?_))
              rw [← HW5.out]
              clear HW5 R1
              have f1 : ∀ W, Kp No W5 W → W.cell? ⟨wr.heap.size, 1, none⟩ = some (.string r.p.key) := fun W hW => by rw [cell_at (hW.get b15 fun x => x)]; rfl
              have hw := fun n => within_any (W5.drewN n) r.p.key x.s.key x.s.to W1.heap.size (HBX.out _ (HKW0.out.trans_same (k5.drewN n))).key (HBX.out _ (HKW0.out.trans_same (k5.drewN n))).tu
              have hlk : ∀ W, Kp No W5 W → (Instr.lookup 77 (.map (some W0.heap.size)) (.string r.p.key) false).run Try.prog W = .ok (.bool (decide (r.p.key ∈ x.r.pairs.map (·.key)))) W := fun W hW => by
                have h1 := (run_lookup_g (P := Try.prog) Try.underlying77 kindStr strKey strInj zeroBool (HG.out.of_heap ((HKV.out.trans_same (k5.trans_same hW)).block _ hwm (fun x => x))) r.p.key).1
                rw [there_get] at h1
                exact h1
              obtain ⟨z, hz⟩ : ∃ z, z = withinF x.s.key x.s.to r.p.key := ⟨_, rfl⟩
              obtain ⟨th, hth⟩ : ∃ z, z = decide (r.p.key ∈ x.r.pairs.map (·.key)) := ⟨_, rfl⟩
              rw [← hz] at hw
              rw [← hth] at hlk
              have HW := Lib.hid hw
              have HZ := Lib.hid hz
              have HTH := Lib.hid hth
              have HK5 := Lib.hid k5
              have hno := fun W (hW : Kp No W5 W) => none_any W (some ⟨g, off, none⟩) cap R r.p.key t1 t2 (HA.out.keep (HKww.out.trans_same (HK5.out.trans_same hW))) hl HV.out
              clear b15 hth hz k5 hw
              cases z with
              | false =>
                refine wp_region_held' (Kp No _) [0,0,0,2,0,0,0,0,0,0,0,0,0,0,0,1,0,0,0,0,0,0,1,0,0,0,0,0,0,0,0] [0,1,2,3,4,5,6,7,8,9,10,11,12,13,14,15,16,17,18,19,20,21,22,23,24,25,26,27,28,29,30] (by kernel_rfl) (by kernel_rfl) (fun _ n h => h.drewN n) (Kp.refl _ _) ?_
                repeat (first
                  | (apply wpOrd_skip rfl (by decide) rfl; (focus (go_simp; rfl)))
                  | (apply wpOrd_pure rfl rfl rfl; (focus (intro _ _; go_simp; (try go_ints); rfl)); (focus (go_simp; rfl)))
                  | (apply wpOrd_read rfl rfl rfl; (focus (intro _; go_simp; (try go_ints); rfl)); (focus (go_simp; rfl))))
                refine wpOrd_eff rfl rfl (fun n1 => ?_)
                go_wp2_with fail
                refine (HW.out n1).mono ?_
                rintro e w6 ⟨rfl, rfl⟩
                go_wp2_with fail
                refine ⟨(Kp.refl _ _).drewN _, ?_⟩
                repeat (first
                  | (apply wpOrd_skip rfl (by decide) rfl; (focus (go_simp; rfl)))
                  | (apply wpOrd_pure rfl rfl rfl; (focus (intro _ _; go_simp; (try go_ints); rfl)); (focus (go_simp; rfl)))
                  | (apply wpOrd_read rfl rfl rfl; (focus (intro _; go_simp; (try go_ints); rfl)); (focus (go_simp; rfl))))
                refine wpOrd_nil (fun nq => ?_)
                have HK8 := Lib.hid ((HKV.out.trans_same HK5.out).drewN (n1 + nq))
                have HO8 := Lib.hid (all_step HE HOK.out (by simp [skipF, ← HZ.out]))
                clear f1 hlk
                (try clear f2)
                go_wp2_with fail
                go_roundw
                case rel => exact ⟨k + 1, by omega, by go_num, HK8, HO8⟩
                case measure => simp [intOf]; omega
              | true =>
                cases th with
                | true =>
                  refine wp_region_held' (Kp No _) [0,0,0,2,0,0,0,0,0,0,0,0,0,0,0,1,0,0,0,0,0,0,1,0,0,0,0,0,0,0,0] [0,1,2,3,4,5,6,7,8,9,10,11,12,13,14,15,16,17,18,19,20,21,22,23,24,25,26,27,28,29,30] (by kernel_rfl) (by kernel_rfl) (fun _ n h => h.drewN n) (Kp.refl _ _) ?_
                  repeat (first
                    | (apply wpOrd_skip rfl (by decide) rfl; (focus (go_simp; rfl)))
                    | (apply wpOrd_pure rfl rfl rfl; (focus (intro _ _; go_simp; (try go_ints); rfl)); (focus (go_simp; rfl)))
                    | (apply wpOrd_read rfl rfl rfl; (focus (intro _; go_simp; (try go_ints); rfl)); (focus (go_simp; rfl))))
                  refine wpOrd_eff rfl rfl (fun n1 => ?_)
                  go_wp2_with fail
                  refine (HW.out n1).mono ?_
                  rintro e w6 ⟨rfl, rfl⟩
                  go_wp2_with fail
                  refine ⟨(Kp.refl _ _).drewN _, ?_⟩
                  repeat (first
                    | (apply wpOrd_skip rfl (by decide) rfl; (focus (go_simp; rfl)))
                    | (apply wpOrd_pure rfl rfl rfl; (focus (intro _ _; go_simp; (try go_ints); rfl)); (focus (go_simp; rfl)))
                    | (apply wpOrd_read rfl rfl rfl; (focus (intro _; go_simp; (try go_ints); rfl)); (focus (go_simp; rfl))))
                  refine wpOrd_nil (fun nq => ?_)
                  have HK8 := Lib.hid ((HKV.out.trans_same HK5.out).drewN (n1 + nq))
                  have HO8 := Lib.hid (all_step HE HOK.out (by rw [show skipF x.s.key x.s.to x.s.m (pairsP x) r.p.key = true by unfold skipF; rw [HPKL.out, ← HTH.out]; simp]; simp))
                  clear f1 hlk
                  (try clear f2)
                  go_wp2_with fail
                  go_roundw
                  case rel => exact ⟨k + 1, by omega, by go_num, HK8, HO8⟩
                  case measure => simp [intOf]; omega
                | false =>
                  refine wp_region_held' (Kp No _) [0,0,0,2,0,0,0,0,0,0,0,0,0,0,0,1,0,0,0,0,0,0,1,0,0,0,0,0,0,0,0] [0,1,2,3,4,5,6,7,8,9,10,11,12,13,14,15,16,17,18,19,20,21,22,23,24,25,26,27,28,29,30] (by kernel_rfl) (by kernel_rfl) (fun _ n h => h.drewN n) (Kp.refl _ _) ?_
                  repeat (first
                    | (apply wpOrd_skip rfl (by decide) rfl; (focus (go_simp; rfl)))
                    | (apply wpOrd_pure rfl rfl rfl; (focus (intro _ _; go_simp; (try go_ints); rfl)); (focus (go_simp; rfl)))
                    | (apply wpOrd_read rfl rfl rfl; (focus (intro _; go_simp; (try go_ints); rfl)); (focus (go_simp; rfl))))
                  refine wpOrd_eff rfl rfl (fun n1 => ?_)
                  go_wp2_with fail
                  refine (HW.out n1).mono ?_
                  rintro e w6 ⟨rfl, rfl⟩
                  go_wp2_with fail
                  refine ⟨(Kp.refl _ _).drewN _, ?_⟩
                  repeat (first
                    | (apply wpOrd_skip rfl (by decide) rfl; (focus (go_simp; rfl)))
                    | (apply wpOrd_pure rfl rfl rfl; (focus (intro _ _; go_simp; (try go_ints); rfl)); (focus (go_simp; rfl)))
                    | (apply wpOrd_read rfl rfl rfl; (focus (intro _; go_simp; (try go_ints); rfl)); (focus (go_simp; rfl))))
                  refine wpOrd_nil (fun nq => ?_)
                  have HNO := Lib.hid (hno _ ((Kp.refl _ _).drewN (n1 + nq)))
                  have f17 := f1 _ ((Kp.refl _ _).drewN (n1 + nq))
                  have e17 := (HBX.out _ (HKW0.out.trans_same (HK5.out.drewN (n1 + nq)))).s0
                  have e18 := (HBX.out _ (HKW0.out.trans_same (HK5.out.drewN (n1 + nq)))).s1
                  obtain ⟨zn, hzn⟩ : ∃ z, z = noneF r.p.key t1 t2 (R.map (·.p)) := ⟨_, rfl⟩
                  rw [← hzn] at HNO
                  have HZN := Lib.hid hzn
                  have HSkip := Lib.hid (show skipF x.s.key x.s.to x.s.m (pairsP x) r.p.key = false by unfold skipF; rw [← HZ.out, HPKL.out, ← HTH.out, HPL.out, HFul.out]; rfl)
                  clear hno hzn f1 hlk
                  (try clear f2)
                  go_wp2_with fail
                  refine HNO.out.mono ?_
                  rintro e w7 ⟨rfl, hk7⟩
                  have HK8 := Lib.hid ((HKV.out.trans_same HK5.out).trans_same hk7.of_drewN)
                  clear hk7 f17 e17 e18
                  cases zn with
                  | false =>
                    have HFF := Lib.hid (show F = false by rw [HF.out]; exact sc_bad2 HMem.out HSkip.out HZN.out.symm)
                    go_wp2_with fail
                    go_ret
                    exact ⟨by rw [HFF.out]; rfl, HK3V.out.trans_same HK8.out⟩
                  | true =>
                    have HO8 := Lib.hid (all_step HE HOK.out (by rw [← HZN.out]; simp))
                    go_wp2_with fail
                    go_roundw
                    case rel => exact ⟨k + 1, by omega, by go_num, HK8, HO8⟩
                    case measure => simp [intOf]; omega
            · obtain rfl : k = R.length := by omega
              have HEnd := Lib.hid (show F = true by
                have h1 := HOK.out
                rw [List.take_length] at h1
                rw [HF.out]
                unfold scannedF
                rw [h1, show (pairsP x).length = x.r.pairs.length from by simp [pairsP], HO.out, decide_eq_true HLe.out]
                rfl)
              clear hlt
              go_wp2_with fail
              go_ret
              exact ⟨by rw [HEnd.out]; rfl, HKww.out⟩
        | true =>
          rcases Nat.eq_zero_or_pos x.r.pairs.length with hlen | hlen
          · have hl0 : ((x.r.pairs.length : Int) == 0) = true := by rw [hlen]; rfl
            have HL0 := Lib.hid hlen
            clear hlen
            have HFul := Lib.hid hful
            have hwm := hm0
            have HK3V := Lib.hid (K3.out.trans_same HK.out)
            go_wp2_with fail
            clear hful d0 d1 d2 d3 d4
            rename World => V0
            go_loopw [77] (fun i wr => ∃ k : Nat, k ≤ R.length ∧ i = .int .i64 (k : Int) ∧ Hid (Kp No V0 wr) ∧ Hid (((R.take k).map (·.p)).all (fun w => skipF x.s.key x.s.to x.s.m (pairsP x) w.key || noneF w.key t1 t2 (R.map (·.p))) = true)) (fun i _ => R.length - (intOf i).toNat)
            case atStart => exact ⟨0, Nat.zero_le _, rfl, Lib.hid (Kp.refl _ _), Lib.hid rfl⟩
            case round =>
              obtain ⟨k, hk, rfl, HKV, HOK⟩ := hrel
              have HKW0 := Lib.hid (HK.out.trans_same HKV.out)
              have HKww := Lib.hid (K3.out.trans_same HKW0.out)
              by_cases hlt : k < R.length
              · obtain ⟨g, off, rfl, l0⟩ := rd_chunk (f := WrR.cells) (c := 9) WrR.cells_len (by decide) (HA.out.top.kp HKww.out) hlt
                have HE := Lib.hid (List.take_succ_eq_append_getElem hlt)
                have HMem := Lib.hid (List.getElem_mem hlt)
                obtain ⟨r, hr⟩ : ∃ r, r = R[k] := ⟨_, rfl⟩
                rw [← hr] at l0 HE HMem
                have R1 : Hid (wr.rangeAt g (off + k * 9) r.cells) := Lib.hid fun j v hv => l0 wr (Kp.refl _ _) j v hv
                obtain ⟨W5, hW5⟩ : ∃ W, W = wr.alloc (.cells r.cells.toArray 37) := ⟨_, rfl⟩
                have k5 : Kp No wr W5 := by rw [hW5]; exact (Kp.refl _ _).alloc _
                have b15 : W5.heap[wr.heap.size]? = some (.cells r.cells.toArray 37 (0, 0)) := by rw [hW5]; exact heap_alloc_new wr _
                have HW5 := Lib.hid hW5
                clear l0 hr hW5
                go_upto_region 17 with (first
                  | (refine wpList_load_w rfl 37 _ rfl g (off + k * 9) rfl _ _ R1 Try.underlying37 rfl (by kernel_rfl) ?_)
                  | (refine wpList_store_w rfl 37 _ _ rfl wr.heap.size (by rfl) _ _ _ rfl rfl (by kernel_rfl) (by rfl) (by rfl) ?_))
                rw [← HW5.out]
                clear HW5 R1
                have f1 : ∀ W, Kp No W5 W → W.cell? ⟨wr.heap.size, 1, none⟩ = some (.string r.p.key) := fun W hW => by rw [cell_at (hW.get b15 fun x => x)]; rfl
                have hw := fun n => within_any (W5.drewN n) r.p.key x.s.key x.s.to W1.heap.size (HBX.out _ (HKW0.out.trans_same (k5.drewN n))).key (HBX.out _ (HKW0.out.trans_same (k5.drewN n))).tu
                have hlk : ∀ W, Kp No W5 W → (Instr.lookup 77 (.map (some W0.heap.size)) (.string r.p.key) false).run Try.prog W = .ok (.bool (decide (r.p.key ∈ x.r.pairs.map (·.key)))) W := fun W hW => by
                  have h1 := (run_lookup_g (P := Try.prog) Try.underlying77 kindStr strKey strInj zeroBool (HG.out.of_heap ((HKV.out.trans_same (k5.trans_same hW)).block _ hwm (fun x => x))) r.p.key).1
                  rw [there_get] at h1
                  exact h1
                obtain ⟨z, hz⟩ : ∃ z, z = withinF x.s.key x.s.to r.p.key := ⟨_, rfl⟩
                obtain ⟨th, hth⟩ : ∃ z, z = decide (r.p.key ∈ x.r.pairs.map (·.key)) := ⟨_, rfl⟩
                rw [← hz] at hw
                rw [← hth] at hlk
                have HW := Lib.hid hw
                have HZ := Lib.hid hz
                have HTH := Lib.hid hth
                have HK5 := Lib.hid k5
                have hno := fun W (hW : Kp No W5 W) => none_any W (some ⟨g, off, none⟩) cap R r.p.key t1 t2 (HA.out.keep (HKww.out.trans_same (HK5.out.trans_same hW))) hl HV.out
                clear b15 hth hz k5 hw
                cases z with
                | false =>
                  refine wp_region_held' (Kp No _) [0,0,0,2,0,0,0,0,0,0,0,0,0,0,0,1,0,0,0,0,0,0,1,0,0,0,0,0,0,0,0] [0,1,2,3,4,5,6,7,8,9,10,11,12,13,14,15,16,17,18,19,20,21,22,23,24,25,26,27,28,29,30] (by kernel_rfl) (by kernel_rfl) (fun _ n h => h.drewN n) (Kp.refl _ _) ?_
                  repeat (first
                    | (apply wpOrd_skip rfl (by decide) rfl; (focus (go_simp; rfl)))
                    | (apply wpOrd_pure rfl rfl rfl; (focus (intro _ _; go_simp; (try go_ints); rfl)); (focus (go_simp; rfl)))
                    | (apply wpOrd_read rfl rfl rfl; (focus (intro _; go_simp; (try go_ints); rfl)); (focus (go_simp; rfl))))
                  refine wpOrd_eff rfl rfl (fun n1 => ?_)
                  go_wp2_with fail
                  refine (HW.out n1).mono ?_
                  rintro e w6 ⟨rfl, rfl⟩
                  go_wp2_with fail
                  refine ⟨(Kp.refl _ _).drewN _, ?_⟩
                  repeat (first
                    | (apply wpOrd_skip rfl (by decide) rfl; (focus (go_simp; rfl)))
                    | (apply wpOrd_pure rfl rfl rfl; (focus (intro _ _; go_simp; (try go_ints); rfl)); (focus (go_simp; rfl)))
                    | (apply wpOrd_read rfl rfl rfl; (focus (intro _; go_simp; (try go_ints); rfl)); (focus (go_simp; rfl))))
                  refine wpOrd_nil (fun nq => ?_)
                  have HK8 := Lib.hid ((HKV.out.trans_same HK5.out).drewN (n1 + nq))
                  have HO8 := Lib.hid (all_step HE HOK.out (by simp [skipF, ← HZ.out]))
                  clear f1 hlk
                  (try clear f2)
                  go_wp2_with fail
                  go_roundw
                  case rel => exact ⟨k + 1, by omega, by go_num, HK8, HO8⟩
                  case measure => simp [intOf]; omega
                | true =>
                  cases th with
                  | true =>
                    refine wp_region_held' (Kp No _) [0,0,0,2,0,0,0,0,0,0,0,0,0,0,0,1,0,0,0,0,0,0,1,0,0,0,0,0,0,0,0] [0,1,2,3,4,5,6,7,8,9,10,11,12,13,14,15,16,17,18,19,20,21,22,23,24,25,26,27,28,29,30] (by kernel_rfl) (by kernel_rfl) (fun _ n h => h.drewN n) (Kp.refl _ _) ?_
                    repeat (first
                      | (apply wpOrd_skip rfl (by decide) rfl; (focus (go_simp; rfl)))
                      | (apply wpOrd_pure rfl rfl rfl; (focus (intro _ _; go_simp; (try go_ints); rfl)); (focus (go_simp; rfl)))
                      | (apply wpOrd_read rfl rfl rfl; (focus (intro _; go_simp; (try go_ints); rfl)); (focus (go_simp; rfl))))
                    refine wpOrd_eff rfl rfl (fun n1 => ?_)
                    go_wp2_with fail
                    refine (HW.out n1).mono ?_
                    rintro e w6 ⟨rfl, rfl⟩
                    go_wp2_with fail
                    refine ⟨(Kp.refl _ _).drewN _, ?_⟩
                    repeat (first
                      | (apply wpOrd_skip rfl (by decide) rfl; (focus (go_simp; rfl)))
                      | (apply wpOrd_pure rfl rfl rfl; (focus (intro _ _; go_simp; (try go_ints); rfl)); (focus (go_simp; rfl)))
                      | (apply wpOrd_read rfl rfl rfl; (focus (intro _; go_simp; (try go_ints); rfl)); (focus (go_simp; rfl))))
                    refine wpOrd_nil (fun nq => ?_)
                    have HK8 := Lib.hid ((HKV.out.trans_same HK5.out).drewN (n1 + nq))
                    have HO8 := Lib.hid (all_step HE HOK.out (by rw [show skipF x.s.key x.s.to x.s.m (pairsP x) r.p.key = true by unfold skipF; rw [HPKL.out, ← HTH.out]; simp]; simp))
                    clear f1 hlk
                    (try clear f2)
                    go_wp2_with fail
                    go_roundw
                    case rel => exact ⟨k + 1, by omega, by go_num, HK8, HO8⟩
                    case measure => simp [intOf]; omega
                  | false =>
                    refine wp_region_held' (Kp No _) [0,0,0,2,0,0,0,0,0,0,0,0,0,0,0,1,0,0,0,0,0,0,1,0,0,0,0,0,0,0,0] [0,1,2,3,4,5,6,7,8,9,10,11,12,13,14,15,16,17,18,19,20,21,22,23,24,25,26,27,28,29,30] (by kernel_rfl) (by kernel_rfl) (fun _ n h => h.drewN n) (Kp.refl _ _) ?_
                    repeat (first
                      | (apply wpOrd_skip rfl (by decide) rfl; (focus (go_simp; rfl)))
                      | (apply wpOrd_pure rfl rfl rfl; (focus (intro _ _; go_simp; (try go_ints); rfl)); (focus (go_simp; rfl)))
                      | (apply wpOrd_read rfl rfl rfl; (focus (intro _; go_simp; (try go_ints); rfl)); (focus (go_simp; rfl))))
                    refine wpOrd_eff rfl rfl (fun n1 => ?_)
                    go_wp2_with fail
                    refine (HW.out n1).mono ?_
                    rintro e w6 ⟨rfl, rfl⟩
                    go_wp2_with fail
                    refine ⟨(Kp.refl _ _).drewN _, ?_⟩
                    repeat (first
                      | (apply wpOrd_skip rfl (by decide) rfl; (focus (go_simp; rfl)))
                      | (apply wpOrd_pure rfl rfl rfl; (focus (intro _ _; go_simp; (try go_ints); rfl)); (focus (go_simp; rfl)))
                      | (apply wpOrd_read rfl rfl rfl; (focus (intro _; go_simp; (try go_ints); rfl)); (focus (go_simp; rfl))))
                    refine wpOrd_nil (fun nq => ?_)
                    have HK8 := Lib.hid ((HKV.out.trans_same HK5.out).drewN (n1 + nq))
                    have HO8 := Lib.hid (all_step HE HOK.out (by rw [show skipF x.s.key x.s.to x.s.m (pairsP x) r.p.key = true by unfold skipF; rw [HPL.out, HFul.out, HL0.out]; simp]; simp))
                    clear f1 hlk
                    (try clear f2)
                    go_wp2_with fail
                    go_roundw
                    case rel => exact ⟨k + 1, by omega, by go_num, HK8, HO8⟩
                    case measure => simp [intOf]; omega
              · obtain rfl : k = R.length := by omega
                have HEnd := Lib.hid (show F = true by
                  have h1 := HOK.out
                  rw [List.take_length] at h1
                  rw [HF.out]
                  unfold scannedF
                  rw [h1, show (pairsP x).length = x.r.pairs.length from by simp [pairsP], HO.out, decide_eq_true HLe.out]
                  rfl)
                clear hlt
                go_wp2_with fail
                go_ret
                exact ⟨by rw [HEnd.out]; rfl, HKww.out⟩
          · obtain ⟨n', hn'⟩ : ∃ n', x.r.pairs.length = n' + 1 := ⟨x.r.pairs.length - 1, by omega⟩
            have hnl : n' < x.r.pairs.length := by omega
            obtain ⟨pg, poff, rfl, l1⟩ := rd_chunk (f := PairR.cells) (c := 2) (fun _ => rfl) (by decide) (HTop.out.kp (K3.out.trans_same HK.out)) hnl
            have hpn := pairsP_at hnl
            obtain ⟨lk, hlk⟩ : ∃ v, v = x.r.pairs[n'].key := ⟨_, rfl⟩
            have L1 := Lib.hid (show ∀ W, Kp No wr W → W.cell? ⟨pg, poff + n' * 2, none⟩ = some (.string lk) from fun W hW => by rw [hlk]; exact l1 W hW 0 _ rfl)
            have hl0 : ((x.r.pairs.length : Int) == 0) = false := by rw [beq_eq_false_iff_ne]; omega
            have hw1 : IntKind.i64.wrap ((x.r.pairs.length : Int) - 1) = (n' : Int) := by rw [show (x.r.pairs.length : Int) - 1 = (n' : Int) from by omega]; exact IntWalk.i64_in _ (by omega)
            have HN' := Lib.hid hn'
            rw [← hlk] at hpn
            have HPN := Lib.hid hpn
            clear hlen hn' hpn hlk l1
            have HFul := Lib.hid hful
            have hwm := hm0
            have HK3V := Lib.hid (K3.out.trans_same HK.out)
            go_wp2_with fail
            clear hful d0 d1 d2 d3 d4
            rename World => V0
            go_loopw [77] (fun i wr => ∃ k : Nat, k ≤ R.length ∧ i = .int .i64 (k : Int) ∧ Hid (Kp No V0 wr) ∧ Hid (((R.take k).map (·.p)).all (fun w => skipF x.s.key x.s.to x.s.m (pairsP x) w.key || noneF w.key t1 t2 (R.map (·.p))) = true)) (fun i _ => R.length - (intOf i).toNat)
            case atStart => exact ⟨0, Nat.zero_le _, rfl, Lib.hid (Kp.refl _ _), Lib.hid rfl⟩
            case round =>
              obtain ⟨k, hk, rfl, HKV, HOK⟩ := hrel
              have HKW0 := Lib.hid (HK.out.trans_same HKV.out)
              have HKww := Lib.hid (K3.out.trans_same HKW0.out)
              by_cases hlt : k < R.length
              · obtain ⟨g, off, rfl, l0⟩ := rd_chunk (f := WrR.cells) (c := 9) WrR.cells_len (by decide) (HA.out.top.kp HKww.out) hlt
                have HE := Lib.hid (List.take_succ_eq_append_getElem hlt)
                have HMem := Lib.hid (List.getElem_mem hlt)
                obtain ⟨r, hr⟩ : ∃ r, r = R[k] := ⟨_, rfl⟩
                rw [← hr] at l0 HE HMem
                have R1 : Hid (wr.rangeAt g (off + k * 9) r.cells) := Lib.hid fun j v hv => l0 wr (Kp.refl _ _) j v hv
                obtain ⟨W5, hW5⟩ : ∃ W, W = wr.alloc (.cells r.cells.toArray 37) := ⟨_, rfl⟩
                have k5 : Kp No wr W5 := by rw [hW5]; exact (Kp.refl _ _).alloc _
                have b15 : W5.heap[wr.heap.size]? = some (.cells r.cells.toArray 37 (0, 0)) := by rw [hW5]; exact heap_alloc_new wr _
                have HW5 := Lib.hid hW5
                clear l0 hr hW5
                go_upto_region 17 with (first
                  | (refine wpList_load_w rfl 37 _ rfl g (off + k * 9) rfl _ _ R1 Try.underlying37 rfl (by kernel_rfl) ?_)
                  | (refine wpList_store_w rfl 37 _ _ rfl wr.heap.size (by rfl) _ _ _ rfl rfl (by kernel_rfl) (by rfl) (by rfl) ?_))
                rw [← HW5.out]
                clear HW5 R1
                have f1 : ∀ W, Kp No W5 W → W.cell? ⟨wr.heap.size, 1, none⟩ = some (.string r.p.key) := fun W hW => by rw [cell_at (hW.get b15 fun x => x)]; rfl
                have hw := fun n => within_any (W5.drewN n) r.p.key x.s.key x.s.to W1.heap.size (HBX.out _ (HKW0.out.trans_same (k5.drewN n))).key (HBX.out _ (HKW0.out.trans_same (k5.drewN n))).tu
                have hlk : ∀ W, Kp No W5 W → (Instr.lookup 77 (.map (some W0.heap.size)) (.string r.p.key) false).run Try.prog W = .ok (.bool (decide (r.p.key ∈ x.r.pairs.map (·.key)))) W := fun W hW => by
                  have h1 := (run_lookup_g (P := Try.prog) Try.underlying77 kindStr strKey strInj zeroBool (HG.out.of_heap ((HKV.out.trans_same (k5.trans_same hW)).block _ hwm (fun x => x))) r.p.key).1
                  rw [there_get] at h1
                  exact h1
                obtain ⟨z, hz⟩ : ∃ z, z = withinF x.s.key x.s.to r.p.key := ⟨_, rfl⟩
                obtain ⟨th, hth⟩ : ∃ z, z = decide (r.p.key ∈ x.r.pairs.map (·.key)) := ⟨_, rfl⟩
                rw [← hz] at hw
                rw [← hth] at hlk
                have HW := Lib.hid hw
                have HZ := Lib.hid hz
                have HTH := Lib.hid hth
                have HK5 := Lib.hid k5
                have hno := fun W (hW : Kp No W5 W) => none_any W (some ⟨g, off, none⟩) cap R r.p.key t1 t2 (HA.out.keep (HKww.out.trans_same (HK5.out.trans_same hW))) hl HV.out
                clear b15 hth hz k5 hw
                have f2 : ∀ W, Kp No W5 W → W.cell? ⟨pg, poff + n' * 2, none⟩ = some (.string lk) := fun W hW => L1.out W (HKV.out.trans_same (HK5.out.trans_same hW))
                cases z with
                | false =>
                  refine wp_region_held' (Kp No _) [0,0,0,2,0,0,0,0,0,0,0,0,0,0,0,1,0,0,0,0,0,0,1,0,0,0,0,0,0,0,0] [0,1,2,3,4,5,6,7,8,9,10,11,12,13,14,15,16,17,18,19,20,21,22,23,24,25,26,27,28,29,30] (by kernel_rfl) (by kernel_rfl) (fun _ n h => h.drewN n) (Kp.refl _ _) ?_
                  repeat (first
                    | (apply wpOrd_skip rfl (by decide) rfl; (focus (go_simp; rfl)))
                    | (apply wpOrd_pure rfl rfl rfl; (focus (intro _ _; go_simp; (try go_ints); rfl)); (focus (go_simp; rfl)))
                    | (apply wpOrd_read rfl rfl rfl; (focus (intro _; go_simp; (try go_ints); rfl)); (focus (go_simp; rfl))))
                  refine wpOrd_eff rfl rfl (fun n1 => ?_)
                  go_wp2_with fail
                  refine (HW.out n1).mono ?_
                  rintro e w6 ⟨rfl, rfl⟩
                  go_wp2_with fail
                  refine ⟨(Kp.refl _ _).drewN _, ?_⟩
                  repeat (first
                    | (apply wpOrd_skip rfl (by decide) rfl; (focus (go_simp; rfl)))
                    | (apply wpOrd_pure rfl rfl rfl; (focus (intro _ _; go_simp; (try go_ints); rfl)); (focus (go_simp; rfl)))
                    | (apply wpOrd_read rfl rfl rfl; (focus (intro _; go_simp; (try go_ints); rfl)); (focus (go_simp; rfl))))
                  refine wpOrd_nil (fun nq => ?_)
                  have HK8 := Lib.hid ((HKV.out.trans_same HK5.out).drewN (n1 + nq))
                  have HO8 := Lib.hid (all_step HE HOK.out (by simp [skipF, ← HZ.out]))
                  clear f1 hlk
                  (try clear f2)
                  go_wp2_with fail
                  go_roundw
                  case rel => exact ⟨k + 1, by omega, by go_num, HK8, HO8⟩
                  case measure => simp [intOf]; omega
                | true =>
                  cases th with
                  | true =>
                    refine wp_region_held' (Kp No _) [0,0,0,2,0,0,0,0,0,0,0,0,0,0,0,1,0,0,0,0,0,0,1,0,0,0,0,0,0,0,0] [0,1,2,3,4,5,6,7,8,9,10,11,12,13,14,15,16,17,18,19,20,21,22,23,24,25,26,27,28,29,30] (by kernel_rfl) (by kernel_rfl) (fun _ n h => h.drewN n) (Kp.refl _ _) ?_
                    repeat (first
                      | (apply wpOrd_skip rfl (by decide) rfl; (focus (go_simp; rfl)))
                      | (apply wpOrd_pure rfl rfl rfl; (focus (intro _ _; go_simp; (try go_ints); rfl)); (focus (go_simp; rfl)))
                      | (apply wpOrd_read rfl rfl rfl; (focus (intro _; go_simp; (try go_ints); rfl)); (focus (go_simp; rfl))))
                    refine wpOrd_eff rfl rfl (fun n1 => ?_)
                    go_wp2_with fail
                    refine (HW.out n1).mono ?_
                    rintro e w6 ⟨rfl, rfl⟩
                    go_wp2_with fail
                    refine ⟨(Kp.refl _ _).drewN _, ?_⟩
                    repeat (first
                      | (apply wpOrd_skip rfl (by decide) rfl; (focus (go_simp; rfl)))
                      | (apply wpOrd_pure rfl rfl rfl; (focus (intro _ _; go_simp; (try go_ints); rfl)); (focus (go_simp; rfl)))
                      | (apply wpOrd_read rfl rfl rfl; (focus (intro _; go_simp; (try go_ints); rfl)); (focus (go_simp; rfl))))
                    refine wpOrd_nil (fun nq => ?_)
                    have HK8 := Lib.hid ((HKV.out.trans_same HK5.out).drewN (n1 + nq))
                    have HO8 := Lib.hid (all_step HE HOK.out (by rw [show skipF x.s.key x.s.to x.s.m (pairsP x) r.p.key = true by unfold skipF; rw [HPKL.out, ← HTH.out]; simp]; simp))
                    clear f1 hlk
                    (try clear f2)
                    go_wp2_with fail
                    go_roundw
                    case rel => exact ⟨k + 1, by omega, by go_num, HK8, HO8⟩
                    case measure => simp [intOf]; omega
                  | false =>
                    cases hl1 : Op.bytesLess r.p.key.toList lk.toList with
                    | true =>
                      have HGT := Lib.hid (show leB r.p.key lk = true by unfold leB; rw [hl1]; rfl)
                      refine wp_region_held' (Kp No _) [0,0,0,2,0,0,0,0,0,0,0,0,0,0,0,1,0,0,0,0,0,0,1,0,0,0,0,0,0,0,0] [0,1,2,3,4,5,6,7,8,9,10,11,12,13,14,15,16,17,18,19,20,21,22,23,24,25,26,27,28,29,30] (by kernel_rfl) (by kernel_rfl) (fun _ n h => h.drewN n) (Kp.refl _ _) ?_
                      repeat (first
                        | (apply wpOrd_skip rfl (by decide) rfl; (focus (go_simp; rfl)))
                        | (apply wpOrd_pure rfl rfl rfl; (focus (intro _ _; go_simp; (try go_ints); rfl)); (focus (go_simp; rfl)))
                        | (apply wpOrd_read rfl rfl rfl; (focus (intro _; go_simp; (try go_ints); rfl)); (focus (go_simp; rfl))))
                      refine wpOrd_eff rfl rfl (fun n1 => ?_)
                      go_wp2_with fail
                      refine (HW.out n1).mono ?_
                      rintro e w6 ⟨rfl, rfl⟩
                      go_wp2_with fail
                      refine ⟨(Kp.refl _ _).drewN _, ?_⟩
                      repeat (first
                        | (apply wpOrd_skip rfl (by decide) rfl; (focus (go_simp; rfl)))
                        | (apply wpOrd_pure rfl rfl rfl; (focus (intro _ _; go_simp; (try go_ints); rfl)); (focus (go_simp; rfl)))
                        | (apply wpOrd_read rfl rfl rfl; (focus (intro _; go_simp; (try go_ints); rfl)); (focus (go_simp; rfl))))
                      refine wpOrd_nil (fun nq => ?_)
                      clear hl1
                      have HNO := Lib.hid (hno _ ((Kp.refl _ _).drewN (n1 + nq)))
                      have f17 := f1 _ ((Kp.refl _ _).drewN (n1 + nq))
                      have e17 := (HBX.out _ (HKW0.out.trans_same (HK5.out.drewN (n1 + nq)))).s0
                      have e18 := (HBX.out _ (HKW0.out.trans_same (HK5.out.drewN (n1 + nq)))).s1
                      obtain ⟨zn, hzn⟩ : ∃ z, z = noneF r.p.key t1 t2 (R.map (·.p)) := ⟨_, rfl⟩
                      rw [← hzn] at HNO
                      have HZN := Lib.hid hzn
                      have HSkip := Lib.hid (show skipF x.s.key x.s.to x.s.m (pairsP x) r.p.key = false by exact skip_le HZ.out.symm (by rw [HPKL.out, ← HTH.out]) (by rw [HPL.out]; exact HN'.out) HPN.out HGT.out)
                      clear hno hzn f1 hlk
                      (try clear f2)
                      go_wp2_with fail
                      refine HNO.out.mono ?_
                      rintro e w7 ⟨rfl, hk7⟩
                      have HK8 := Lib.hid ((HKV.out.trans_same HK5.out).trans_same hk7.of_drewN)
                      clear hk7 f17 e17 e18
                      cases zn with
                      | false =>
                        have HFF := Lib.hid (show F = false by rw [HF.out]; exact sc_bad2 HMem.out HSkip.out HZN.out.symm)
                        go_wp2_with fail
                        go_ret
                        exact ⟨by rw [HFF.out]; rfl, HK3V.out.trans_same HK8.out⟩
                      | true =>
                        have HO8 := Lib.hid (all_step HE HOK.out (by rw [← HZN.out]; simp))
                        go_wp2_with fail
                        go_roundw
                        case rel => exact ⟨k + 1, by omega, by go_num, HK8, HO8⟩
                        case measure => simp [intOf]; omega
                    | false =>
                      cases hl2 : (r.p.key.toList == lk.toList) with
                      | true =>
                        have HGT := Lib.hid (show leB r.p.key lk = true by unfold leB; rw [hl1, hl2]; rfl)
                        refine wp_region_held' (Kp No _) [0,0,0,2,0,0,0,0,0,0,0,0,0,0,0,1,0,0,0,0,0,0,1,0,0,0,0,0,0,0,0] [0,1,2,3,4,5,6,7,8,9,10,11,12,13,14,15,16,17,18,19,20,21,22,23,24,25,26,27,28,29,30] (by kernel_rfl) (by kernel_rfl) (fun _ n h => h.drewN n) (Kp.refl _ _) ?_
                        repeat (first
                          | (apply wpOrd_skip rfl (by decide) rfl; (focus (go_simp; rfl)))
                          | (apply wpOrd_pure rfl rfl rfl; (focus (intro _ _; go_simp; (try go_ints); rfl)); (focus (go_simp; rfl)))
                          | (apply wpOrd_read rfl rfl rfl; (focus (intro _; go_simp; (try go_ints); rfl)); (focus (go_simp; rfl))))
                        refine wpOrd_eff rfl rfl (fun n1 => ?_)
                        go_wp2_with fail
                        refine (HW.out n1).mono ?_
                        rintro e w6 ⟨rfl, rfl⟩
                        go_wp2_with fail
                        refine ⟨(Kp.refl _ _).drewN _, ?_⟩
                        repeat (first
                          | (apply wpOrd_skip rfl (by decide) rfl; (focus (go_simp; rfl)))
                          | (apply wpOrd_pure rfl rfl rfl; (focus (intro _ _; go_simp; (try go_ints); rfl)); (focus (go_simp; rfl)))
                          | (apply wpOrd_read rfl rfl rfl; (focus (intro _; go_simp; (try go_ints); rfl)); (focus (go_simp; rfl))))
                        refine wpOrd_nil (fun nq => ?_)
                        clear hl1 hl2
                        have HNO := Lib.hid (hno _ ((Kp.refl _ _).drewN (n1 + nq)))
                        have f17 := f1 _ ((Kp.refl _ _).drewN (n1 + nq))
                        have e17 := (HBX.out _ (HKW0.out.trans_same (HK5.out.drewN (n1 + nq)))).s0
                        have e18 := (HBX.out _ (HKW0.out.trans_same (HK5.out.drewN (n1 + nq)))).s1
                        obtain ⟨zn, hzn⟩ : ∃ z, z = noneF r.p.key t1 t2 (R.map (·.p)) := ⟨_, rfl⟩
                        rw [← hzn] at HNO
                        have HZN := Lib.hid hzn
                        have HSkip := Lib.hid (show skipF x.s.key x.s.to x.s.m (pairsP x) r.p.key = false by exact skip_le HZ.out.symm (by rw [HPKL.out, ← HTH.out]) (by rw [HPL.out]; exact HN'.out) HPN.out HGT.out)
                        clear hno hzn f1 hlk
                        (try clear f2)
                        go_wp2_with fail
                        refine HNO.out.mono ?_
                        rintro e w7 ⟨rfl, hk7⟩
                        have HK8 := Lib.hid ((HKV.out.trans_same HK5.out).trans_same hk7.of_drewN)
                        clear hk7 f17 e17 e18
                        cases zn with
                        | false =>
                          have HFF := Lib.hid (show F = false by rw [HF.out]; exact sc_bad2 HMem.out HSkip.out HZN.out.symm)
                          go_wp2_with fail
                          go_ret
                          exact ⟨by rw [HFF.out]; rfl, HK3V.out.trans_same HK8.out⟩
                        | true =>
                          have HO8 := Lib.hid (all_step HE HOK.out (by rw [← HZN.out]; simp))
                          go_wp2_with fail
                          go_roundw
                          case rel => exact ⟨k + 1, by omega, by go_num, HK8, HO8⟩
                          case measure => simp [intOf]; omega
                      | false =>
                        have HGT := Lib.hid (show leB r.p.key lk = false by unfold leB; rw [hl1, hl2]; rfl)
                        refine wp_region_held' (Kp No _) [0,0,0,2,0,0,0,0,0,0,0,0,0,0,0,1,0,0,0,0,0,0,1,0,0,0,0,0,0,0,0] [0,1,2,3,4,5,6,7,8,9,10,11,12,13,14,15,16,17,18,19,20,21,22,23,24,25,26,27,28,29,30] (by kernel_rfl) (by kernel_rfl) (fun _ n h => h.drewN n) (Kp.refl _ _) ?_
                        repeat (first
                          | (apply wpOrd_skip rfl (by decide) rfl; (focus (go_simp; rfl)))
                          | (apply wpOrd_pure rfl rfl rfl; (focus (intro _ _; go_simp; (try go_ints); rfl)); (focus (go_simp; rfl)))
                          | (apply wpOrd_read rfl rfl rfl; (focus (intro _; go_simp; (try go_ints); rfl)); (focus (go_simp; rfl))))
                        refine wpOrd_eff rfl rfl (fun n1 => ?_)
                        go_wp2_with fail
                        refine (HW.out n1).mono ?_
                        rintro e w6 ⟨rfl, rfl⟩
                        go_wp2_with fail
                        refine ⟨(Kp.refl _ _).drewN _, ?_⟩
                        repeat (first
                          | (apply wpOrd_skip rfl (by decide) rfl; (focus (go_simp; rfl)))
                          | (apply wpOrd_pure rfl rfl rfl; (focus (intro _ _; go_simp; (try go_ints); rfl)); (focus (go_simp; rfl)))
                          | (apply wpOrd_read rfl rfl rfl; (focus (intro _; go_simp; (try go_ints); rfl)); (focus (go_simp; rfl))))
                        refine wpOrd_nil (fun nq => ?_)
                        clear hl1 hl2
                        have HK8 := Lib.hid ((HKV.out.trans_same HK5.out).drewN (n1 + nq))
                        have HO8 := Lib.hid (all_step HE HOK.out (by rw [skip_gt (by rw [HPL.out]; exact HN'.out) (by rw [HPL.out]; exact HFul.out) HPN.out HGT.out]; rfl))
                        clear f1 hlk
                        (try clear f2)
                        go_wp2_with fail
                        go_roundw
                        case rel => exact ⟨k + 1, by omega, by go_num, HK8, HO8⟩
                        case measure => simp [intOf]; omega
              · obtain rfl : k = R.length := by omega
                have HEnd := Lib.hid (show F = true by
                  have h1 := HOK.out
                  rw [List.take_length] at h1
                  rw [HF.out]
                  unfold scannedF
                  rw [h1, show (pairsP x).length = x.r.pairs.length from by simp [pairsP], HO.out, decide_eq_true HLe.out]
                  rfl)
                clear hlt
                go_wp2_with fail
                go_ret
                exact ⟨by rw [HEnd.out]; rfl, HKww.out⟩
end Go.Proofs.Ytojlccligmfcaaa
