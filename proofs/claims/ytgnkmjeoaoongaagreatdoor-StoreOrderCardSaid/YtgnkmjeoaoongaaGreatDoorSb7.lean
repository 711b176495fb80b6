/-
  Texts laid together: WLogPl, WNms, SOpen, SRead.
-/
import Derived.Test.YtgnkmjeoaoongaaGreatDoorSa9
import Derived.Test.YtgnkmjeoaoongaaGreatDoorSb6
import Derived.Test.YtgnkmjeoaoongaaGreatDoorSb5
import Derived.Test.YtgnkmjeoaoongaaGreatDoorSb3
namespace Go.Proofs.YtgnkmjeoaoongaaGreatDoor
open Go.RowKit Go.Mer
theorem entsG_few (f : Nat) : ∀ (k : Nat) (b : List UInt8), 12 * (entsG f k b).1.length ≤ (entsG f k b).2 := by
 induction f with
 | zero => intro k b; simp [entsG]
 | succ f ih =>
  intro k b
  rw [entsG]
  cases hd : deF b with
  | none => simp
  | some x =>
   obtain ⟨p, n⟩ := x
   obtain ⟨hn, _⟩ := deF_some hd
   cases hq : numD 0 0 p with
   | none => simp only [hq]; simp
   | some y =>
    obtain ⟨m, q⟩ := y
    simp only [hq]
    split
    ·have := ih (k + 1) (b.drop n)
     simp only [List.length_cons]
     omega
    ·simp
theorem entsF_few (k : Nat) (b : List UInt8) : 12 * (entsF k b).1.length ≤ (entsF k b).2 := entsG_few _ _ _
theorem entsF_zero {k : Nat} {b : List UInt8} (h : (entsF k b).2 = 0) : (entsF k b).1 = [] := by
 have := entsF_few k b
 exact List.eq_nil_of_length_eq_zero (by omega)
end Go.Proofs.YtgnkmjeoaoongaaGreatDoor
namespace Go.Proofs.YtgnkmjeoaoongaaGreatDoor
open Go.RowKit Go.Mer
def nmS (l : Files) : List ByteArray := namesOf (l.map (·.1.data.toList))
theorem nm_perm (l : Files) : (nmS l).Perm (l.map (·.1)) := by
 unfold nmS namesOf
 have h1 := (List.mergeSort_perm (l.map (·.1.data.toList)) fun x y => decide (x ≤ y)).map fun b : List UInt8 => (⟨b.toArray⟩ : ByteArray)
 rw [List.map_map] at h1
 exact h1
theorem nm_mem {l : Files} {x : ByteArray} : x ∈ nmS l ↔ x ∈ l.map (·.1) := (nm_perm l).mem_iff
def FilesOk (l : Files) : Prop := ∀ p ∈ l, nameOk p.1 = true
theorem FilesOk.size {l : Files} (h : FilesOk l) {x : ByteArray} (hx : x ∈ nmS l) : 1 ≤ x.size ∧ x.size ≤ 64 := by
 obtain ⟨p, hp, rfl⟩ := List.mem_map.1 (nm_mem.1 hx)
 have := h p hp
 unfold nameOk at this
 rw [Bool.and_eq_true, decide_eq_true_iff, decide_eq_true_iff] at this
 exact this
theorem DiskAt.few {w : World} {d : Nat} {s : DSt} {F : Nat → Prop} (h : DiskAt w d s F) : s.files.length ≤ 4096 ∧ (s.files.map (·.1)).Nodup ∧ totF s.files ≤ s.room := by
 obtain ⟨m, fused, left, L, hC, hf, hs, hF, hFs⟩ := h
 refine ⟨by rw [hs]; simpa [absL] using hC.few, ?_, by rw [hs]; exact hC.fits⟩
 rw [hs, keys_absL]
 exact hC.keys
end Go.Proofs.YtgnkmjeoaoongaaGreatDoor
namespace Go.Proofs.YtgnkmjeoaoongaaGreatDoor
open Go.RowKit Go.Mer
def logN (P : ByteArray) (a : Nat) : ByteArray := ⟨(P.data.toList ++ (Lib.decDigits a ++ [46])).toArray⟩
def writesS (P : ByteArray) (s : DSt) (lg : LSt) (p : List UInt8) : Int × DSt × LSt :=
 if (appS P s lg p).1.2 = 0 then sncS P (appS P s lg p).2.1 (appS P s lg p).2.2 else ((appS P s lg p).1.2, (appS P s lg p).2.1, (appS P s lg p).2.2)
def putSt (P : ByteArray) (o : Nat) (s : DSt) (st : SSt) (lg : LSt) (l : List RecS) : Int × DSt × SSt × LSt :=
 if st.dead = true then (9, s, st, lg)
 else if l.length = 0 then (0, s, st, lg)
 else if mayS st l = 0 then
  let w := writesS (logN P st.age) s lg (putL l)
  if w.1 = 0 then (0, w.2.1, { laysS o st l with n := st.n + 1 }, w.2.2) else (w.1, w.2.1, { st with dead := true }, w.2.2)
 else ((mayS st l : Int), s, st, lg)
def getSt (st : SSt) (k : ByteArray) (m c : Int) : Option (List UInt8) × Int :=
 if stLt m c st.mm st.mc = true then (none, 19) else (getC (chainOf st.keys k) m c, 0)
end Go.Proofs.YtgnkmjeoaoongaaGreatDoor
namespace Go.Proofs.YtgnkmjeoaoongaaGreatDoor
open Go.RowKit Go.Mer
theorem right_ok (k : Int) (w : World) : Calls Tryz.prog 93 #[.bool true, .int .i64 k] w fun e w' => e = .returned (.tuple #[]) ∧ w = w' := by
 go_enter Tryz.func93, Tryz.ntmps93
 go_wp2_with fail
 refine bodyPost_end (results_none rfl _ _ _) rfl ⟨rfl, rfl⟩
section
variable {w : World} {s d l o m : Nat} {P : ByteArray} {st : SSt} {cs : ChL} {ka : Option Addr} {kc : Nat} {K : List RecR}
theorem alive_any (h : StC w s d l P o st m cs ka kc K) : Calls Tryz.prog 55 #[.pointer (some ⟨s, 0, none⟩)] w fun e w' => e = .returned (.int .i64 (if st.dead = true then 9 else 0)) ∧ w = w' := by
 have c6 : w.cell? ⟨s, 6, none⟩ = some (.bool st.dead) := h.at_ (Kp.refl _ _) 6
 have hl := get_lt h.cell
 clear h
 cases hd : st.dead with
 | true =>
  rw [hd] at c6
  clear hd
  go_enter Tryz.func55, Tryz.ntmps55
  go_wp2_with fail
  go_ret
  exact ⟨rfl, rfl⟩
 | false =>
  rw [hd] at c6
  clear hd
  go_enter Tryz.func55, Tryz.ntmps55
  go_wp2_with fail
  go_ret
  exact ⟨rfl, rfl⟩
theorem alive_nil (w : World) : Calls Tryz.prog 55 #[.pointer none] w fun e w' => e = .returned (.int .i64 1) ∧ w = w' := by
 go_enter Tryz.func55, Tryz.ntmps55
 go_wp2_with fail
 go_ret
 exact ⟨rfl, rfl⟩
theorem old_nil (t1 t2 : Int) (w : World) : Calls Tryz.prog 78 #[.pointer none, stv t1 t2] w fun e w' => e = .returned (.int .i64 1) ∧ Kp No w w' := by
 go_enter Tryz.func78, Tryz.ntmps78
 go_wp2_with fail
 go_ret
 exact ⟨rfl, (Kp.refl _ _).alloc _⟩
end
set_option maxHeartbeats 1000000 in
theorem old_any {w : World} {s d l o m : Nat} {P : ByteArray} {st : SSt} {cs : ChL} {ka : Option Addr} {kc : Nat} {K : List RecR} (h : StC w s d l P o st m cs ka kc K) (t1 t2 : Int) :
  Calls Tryz.prog 78 #[.pointer (some ⟨s, 0, none⟩), stv t1 t2] w fun e w' => e = .returned (.int .i64 (if stLt t1 t2 st.mm st.mc = true then 19 else 0)) ∧ Kp No w w' := by
 obtain ⟨w1, hw1⟩ : ∃ W, W = w.alloc (.cells #[.int .i64 t1, .int .i64 t2] 25) := ⟨_, rfl⟩
 have k1 : Kp No w w1 := by rw [hw1]; exact (Kp.refl _ _).alloc _
 have b1 : w1.heap[w.heap.size]? = some (.cells #[.int .i64 t1, .int .i64 t2] 25 (0, 0)) := by rw [hw1]; exact heap_alloc_new w _
 have c0 : ∀ W, Kp No w1 W → W.cell? ⟨w.heap.size, 0, none⟩ = some (.int .i64 t1) := fun W hW => cell_at (hW.get b1 fun x => x) 0
 have c1 : ∀ W, Kp No w1 W → W.cell? ⟨w.heap.size, 1, none⟩ = some (.int .i64 t2) := fun W hW => cell_at (hW.get b1 fun x => x) 1
 have c8 : ∀ W, Kp No w1 W → W.cell? ⟨s, 8, none⟩ = some (.int .i64 st.mm) := fun W hW => h.at_ (k1.trans_same hW) 8
 have c9 : ∀ W, Kp No w1 W → W.cell? ⟨s, 9, none⟩ = some (.int .i64 st.mc) := fun W hW => h.at_ (k1.trans_same hW) 9
 have hl := k1.lt (get_lt h.cell)
 have hl1 := get_lt b1
 have hz := (cmpH_st t1 t2 st.mm st.mc).2.1
 have hcm := fun W => Compare_any t1 t2 st.mm st.mc W
 obtain ⟨z, hzz⟩ : ∃ z, z = cmpH t1 t2 st.mm st.mc := ⟨_, rfl⟩
 rw [← hzz] at hz hcm
 have HCM := Lib.hid hcm
 have HZ := Lib.hid hz
 have HK1 := Lib.hid k1
 have HW1 := Lib.hid hw1
 clear h k1 b1 hw1 hz hcm hzz
 rcases Int.lt_or_le z 0 with hd | hd
 ·have e1 : decide (z < 0) = true := decide_eq_true hd
  have HR := Lib.hid (show stLt t1 t2 st.mm st.mc = true from HZ.out.1 hd)
  clear hd
  go_enter Tryz.func78, Tryz.ntmps78
  go_upto_region 3 with fail
  rw [← HW1.out]
  refine wp_region_held' (Kp No _) [0,0,0,0,0,2,0,0] [0,1,2,3,4,5,6,7] (by kernel_rfl) (by kernel_rfl) (fun _ n h => h.drewN n) (Kp.refl _ _) ?_
  repeat (first
   | (apply wpOrd_skip rfl (by decide) rfl; (focus (go_simp; rfl)))
   | (apply wpOrd_pure rfl rfl rfl; (focus (intro _ _; go_simp; (try go_ints); rfl)); (focus (go_simp; rfl)))
   | (apply wpOrd_read rfl rfl rfl; (focus (intro _; go_simp; (try go_ints); rfl)); (focus (go_simp; rfl))))
  refine wpOrd_eff rfl rfl (fun q => ?_)
  go_wp2_with fail
  refine (HCM.out _).mono ?_
  rintro e w2 ⟨rfl, k2⟩
  go_wp2_with fail
  (try refine ⟨k2.of_drewN, ?_⟩)
  repeat (first
   | (apply wpOrd_skip rfl (by decide) rfl; (focus (go_simp; rfl)))
   | (apply wpOrd_pure rfl rfl rfl; (focus (intro _ _; go_simp; (try go_ints); rfl)); (focus (go_simp; rfl)))
   | (apply wpOrd_read rfl rfl rfl; (focus (intro _; go_simp; (try go_ints); rfl)); (focus (go_simp; rfl))))
  refine wpOrd_nil (fun nq => ?_)
  have HK2 := Lib.hid (HK1.out.trans_same (k2.of_drewN.drewN nq))
  clear k2
  go_wp2_with fail
  go_ret
  exact ⟨rfl, HK2.out⟩
 ·have e1 : decide (z < 0) = false := decide_eq_false (by omega)
  have HR := Lib.hid (show ¬ stLt t1 t2 st.mm st.mc = true from fun hh => by have := HZ.out.2 hh; omega)
  clear hd
  go_enter Tryz.func78, Tryz.ntmps78
  go_upto_region 3 with fail
  rw [← HW1.out]
  refine wp_region_held' (Kp No _) [0,0,0,0,0,2,0,0] [0,1,2,3,4,5,6,7] (by kernel_rfl) (by kernel_rfl) (fun _ n h => h.drewN n) (Kp.refl _ _) ?_
  repeat (first
   | (apply wpOrd_skip rfl (by decide) rfl; (focus (go_simp; rfl)))
   | (apply wpOrd_pure rfl rfl rfl; (focus (intro _ _; go_simp; (try go_ints); rfl)); (focus (go_simp; rfl)))
   | (apply wpOrd_read rfl rfl rfl; (focus (intro _; go_simp; (try go_ints); rfl)); (focus (go_simp; rfl))))
  refine wpOrd_eff rfl rfl (fun q => ?_)
  go_wp2_with fail
  refine (HCM.out _).mono ?_
  rintro e w2 ⟨rfl, k2⟩
  go_wp2_with fail
  (try refine ⟨k2.of_drewN, ?_⟩)
  repeat (first
   | (apply wpOrd_skip rfl (by decide) rfl; (focus (go_simp; rfl)))
   | (apply wpOrd_pure rfl rfl rfl; (focus (intro _ _; go_simp; (try go_ints); rfl)); (focus (go_simp; rfl)))
   | (apply wpOrd_read rfl rfl rfl; (focus (intro _; go_simp; (try go_ints); rfl)); (focus (go_simp; rfl))))
  refine wpOrd_nil (fun nq => ?_)
  have HK2 := Lib.hid (HK1.out.trans_same (k2.of_drewN.drewN nq))
  clear k2
  go_wp2_with fail
  go_ret
  exact ⟨rfl, HK2.out⟩
def GetSP (w : World) (q : Option (List UInt8) × Int) (e : Ending) (w' : World) : Prop :=
 match q.1 with
 | none => e = .returned (.tuple #[.slice none 0 0, .bool false, .int .i64 q.2]) ∧ Kp No w w'
 | some l => ∃ a cap, e = .returned (.tuple #[.slice a l.length cap, .bool true, .int .i64 q.2]) ∧ Own w' 5 1 (.slice a l.length cap) l.length (u8s l) ∧ (∀ g, (Value.slice a l.length cap).ownBlock = some g → w.heap.size ≤ g) ∧ Kp No w w'
theorem get_old {st : SSt} {k : ByteArray} {m c : Int} (h : stLt m c st.mm st.mc = true) : getSt st k m c = (none, 19) := if_pos h
theorem get_new {st : SSt} {k : ByteArray} {m c : Int} (h : ¬ stLt m c st.mm st.mc = true) : getSt st k m c = (getC (chainOf st.keys k) m c, 0) := if_neg h
def FewV (cs : ChL) : Prop := ∀ p ∈ cs, p.2.R.length ≤ 1000000 ∧ ∀ v ∈ p.2.vs, isV v = true
theorem cGetAny (w : World) (k0 : ChR) (m c : Int) (hm : m ≤ 9223372036854775807) (hc : ChOk 203 w k0) (hn : k0.R.length ≤ 1000000) (hv : ∀ v ∈ k0.vs, isV v = true) :
  Calls Tryz.prog 79 #[.pointer (some ⟨k0.b, 0, none⟩), stv m c] w (GetP w (getC k0.vs m c)) := by
 rw [getC_vis]
 have hin : ∀ v, atC k0.vs m c = some v → isV v = true := fun v h => by
  obtain ⟨u, _, hu⟩ := atC_some h
  exact hv v (List.mem_of_getElem? hu)
 refine cGet_any w (some ⟨k0.b, 0, none⟩) m c (atC k0.vs m c) hm (fun W hW => ?_) hin
 cases ho : atC k0.vs m c with
 | none =>
  have hu := fun W' (hW' : Kp No W W') => cUpto_any W' k0 m c (hc.keep_no (hW.trans_same hW')) hn
  rw [atC_none.1 ho] at hu
  exact cAt_none W _ m c hu
 | some v => exact cAt_some W k0 m c (hc.keep_no hW) hn v ho (by have := (isV_iff.1 (hin v ho)).2.2.2.1; omega)
theorem cGetNil (w : World) (m c : Int) (hm : m ≤ 9223372036854775807) : Calls Tryz.prog 79 #[.pointer none, stv m c] w (GetP w none) :=
 cGet_any w none m c none hm (fun W _ => cAt_none W none m c fun W' _ => cUpto_nil W' m c) fun v h => by cases h
set_option maxRecDepth 100000 in
set_option maxHeartbeats 1000000 in
theorem sGet_any {w : World} {s d l o m : Nat} {P : ByteArray} {st : SSt} {cs : ChL} {ka : Option Addr} {kc : Nat} {K : List RecR} (h : StC w s d l P o st m cs ka kc K) (hf : FewV cs) (k : ByteArray) (t1 t2 : Int) (ht : t1 ≤ 9223372036854775807) :
  Calls Tryz.prog 26 #[.pointer (some ⟨s, 0, none⟩), .string k, stv t1 t2] w (GetSP w (getSt st k t1 t2)) := by
 obtain ⟨w1, hw1⟩ : ∃ W, W = w.alloc (.cells #[.int .i64 t1, .int .i64 t2] 25) := ⟨_, rfl⟩
 have k1 : Kp No w w1 := by rw [hw1]; exact (Kp.refl _ _).alloc _
 have b1 : w1.heap[w.heap.size]? = some (.cells #[.int .i64 t1, .int .i64 t2] 25 (0, 0)) := by rw [hw1]; exact heap_alloc_new w _
 have c0 : w1.cell? ⟨w.heap.size, 0, none⟩ = some (.int .i64 t1) := cell_at b1 0
 have c1 : w1.cell? ⟨w.heap.size, 1, none⟩ = some (.int .i64 t2) := cell_at b1 1
 have hl1 := get_lt b1
 have hsl := get_lt h.cell
 have hold := old_any (h.keep_no k1) t1 t2
 have HK1 := Lib.hid k1
 have HB1 := Lib.hid b1
 have HW1 := Lib.hid hw1
 have H := Lib.hid h
 have HF := Lib.hid hf
 by_cases hlt : stLt t1 t2 st.mm st.mc = true
 ·rw [if_pos hlt] at hold
  have HOLD := Lib.hid hold
  rw [get_old hlt]
  clear h hf k1 b1 hw1 hold hlt
  go_enter Tryz.func26, Tryz.ntmps26
  go_upto_region 1 with fail
  rw [← HW1.out]
  go_wp2_with fail
  refine HOLD.out.mono ?_
  rintro e w2 ⟨rfl, k2⟩
  have HK2 := Lib.hid (HK1.out.trans_same k2)
  clear k2 c0 c1 hl1
  go_wp2_with fail
  exact bodyPost_ret (v := .tuple #[.slice none 0 0, .bool false, .int .i64 19]) (by simp [results, Tryz.results26, go_sem]) rfl ⟨rfl, HK2.out⟩
 ·rw [if_neg hlt] at hold
  have HOLD := Lib.hid hold
  rw [get_new hlt]
  clear h hf k1 b1 hw1 hold hlt
  go_enter Tryz.func26, Tryz.ntmps26
  go_upto_region 1 with fail
  rw [← HW1.out]
  go_wp2_with fail
  refine HOLD.out.mono ?_
  rintro e w2 ⟨rfl, k2⟩
  have HK2 := Lib.hid (HK1.out.trans_same k2)
  have HB2 := Lib.hid (k2.get HB1.out fun x => x)
  have hl2 := get_lt HB2.out
  have hs2 := HK2.out.lt hsl
  have f7 : ∀ W, Kp No w2 W → W.cell? ⟨s, 7, none⟩ = some (.map (some m)) := fun W hW => H.out.at_ (HK2.out.trans_same hW) 7
  have lk : ∀ W, Kp No w2 W → (Instr.lookup 128 (.map (some m)) (.string k) false).run Tryz.prog W = .ok ((gget (cptrL cs) k).getD (.pointer none)) W := fun W hW => look_chain (H.out.map.of_heap ((HK2.out.trans_same hW).block m H.out.map.lt fun x => x)) k
  have HX := Lib.hid (show ∀ W, Kp No w2 W → W.rangeAt w.heap.size 0 [.int .i64 t1, .int .i64 t2] from fun W hW => by have := rangeAt_block (hW.get HB2.out fun x => x) 0 2; exact this)
  have hch := H.out.chain k
  clear k2 c0 c1 hl1
  go_upto_region 4 with fail
  cases hg : gget cs k with
  | none =>
   rw [gget_cptr, hg] at lk
   rw [hg] at hch
   have HC := Lib.hid (show getC (chainOf st.keys k) t1 t2 = none from by unfold chainOf; rw [hch]; rfl)
   simp only [Option.map_none, Option.getD_none] at lk
   have hcg := fun W => cGetNil W t1 t2 ht
   have HCG := Lib.hid hcg
   clear hg hch hcg
   refine wp_region_held' (Kp No _) [0,0,0,0,0,0,0,2,0,0,0,0,0] [0,1,2,3,4,5,6,7,8,9,10,11,12] (by kernel_rfl) (by kernel_rfl) (fun _ n h => h.drewN n) (Kp.refl _ _) ?_
   repeat (first
    | (apply wpOrd_skip rfl (by decide) rfl; (focus (go_simp; rfl)))
    | (apply wpOrd_pure rfl rfl rfl; (focus (intro _ _; go_simp; (try go_ints); rfl)); (focus (go_simp; rfl)))
    | (apply wpOrd_read rfl rfl rfl; (focus (intro _; go_simp; (try go_ints); rfl)); (focus (go_simp; rfl))))
   (try (apply wpOrd_pure rfl rfl rfl; (focus (intro W hW; go_simp; rw [lk W hW]; rfl)); (focus (go_simp; rfl))))
   repeat (first
    | (apply wpOrd_skip rfl (by decide) rfl; (focus (go_simp; rfl)))
    | (apply wpOrd_pure rfl rfl rfl; (focus (intro _ _; go_simp; (try go_ints); rfl)); (focus (go_simp; rfl)))
    | (apply wpOrd_read rfl rfl rfl; (focus (intro _; go_simp; (try go_ints); rfl)); (focus (go_simp; rfl))))
   apply wpOrd_pure rfl rfl rfl
   ·intro W hW
    exact exec_load_w 25 _ rfl w.heap.size 0 rfl [.int .i64 t1, .int .i64 t2] _ (HX.out W hW) Tryz.underlying25 rfl (by kernel_rfl)
   ·(focus (go_simp; rfl))
   refine wpOrd_eff rfl rfl (fun q => ?_)
   go_wp2_with fail
   refine (HCG.out _).mono ?_
   rintro e w3 ⟨rfl, k3⟩
   have k3' : Kp No w2 w3 := k3.of_drewN
   go_wp2_with fail
   (try refine ⟨k3', ?_⟩)
   repeat (first
    | (apply wpOrd_skip rfl (by decide) rfl; (focus (go_simp; rfl)))
    | (apply wpOrd_pure rfl rfl rfl; (focus (intro _ _; go_simp; (try go_ints); rfl)); (focus (go_simp; rfl)))
    | (apply wpOrd_read rfl rfl rfl; (focus (intro _; go_simp; (try go_ints); rfl)); (focus (go_simp; rfl))))
   refine wpOrd_nil (fun nq => ?_)
   have HK3 := Lib.hid ((HK2.out.trans_same k3').drewN nq)
   clear k3 k3' f7 lk
   go_wp2_with fail
   rw [HC.out]
   exact bodyPost_ret (v := .tuple #[.slice none 0 0, .bool false, .int .i64 0]) (by simp [results, Tryz.results26, go_sem]) rfl ⟨rfl, HK3.out⟩
  | some c =>
   rw [gget_cptr, hg] at lk
   rw [hg] at hch
   have hmem := gget_mem hg
   have hcv : chainOf st.keys k = c.vs := by unfold chainOf; rw [hch]; rfl
   simp only [Option.map_some, Option.getD_some, ptrN] at lk
   have HCG := Lib.hid (fun W (hW : Kp No w2 W) => cGetAny W c t1 t2 ht ((H.out.chs.each _ hmem).keep_no (HK2.out.trans_same hW)) (HF.out _ hmem).1 (HF.out _ hmem).2)
   obtain ⟨cb, hcb⟩ : ∃ cb, cb = c.b := ⟨_, rfl⟩
   rw [← hcb] at lk HCG
   obtain ⟨og, hog⟩ : ∃ og, og = getC c.vs t1 t2 := ⟨_, rfl⟩
   rw [← hog] at HCG
   have HCV := Lib.hid (show getC (chainOf st.keys k) t1 t2 = og from by rw [hcv, hog])
   clear hg hch hmem hcv hcb hog
   refine wp_region_held' (Kp No _) [0,0,0,0,0,0,0,2,0,0,0,0,0] [0,1,2,3,4,5,6,7,8,9,10,11,12] (by kernel_rfl) (by kernel_rfl) (fun _ n h => h.drewN n) (Kp.refl _ _) ?_
   repeat (first
    | (apply wpOrd_skip rfl (by decide) rfl; (focus (go_simp; rfl)))
    | (apply wpOrd_pure rfl rfl rfl; (focus (intro _ _; go_simp; (try go_ints); rfl)); (focus (go_simp; rfl)))
    | (apply wpOrd_read rfl rfl rfl; (focus (intro _; go_simp; (try go_ints); rfl)); (focus (go_simp; rfl))))
   (try (apply wpOrd_pure rfl rfl rfl; (focus (intro W hW; go_simp; rw [lk W hW]; rfl)); (focus (go_simp; rfl))))
   repeat (first
    | (apply wpOrd_skip rfl (by decide) rfl; (focus (go_simp; rfl)))
    | (apply wpOrd_pure rfl rfl rfl; (focus (intro _ _; go_simp; (try go_ints); rfl)); (focus (go_simp; rfl)))
    | (apply wpOrd_read rfl rfl rfl; (focus (intro _; go_simp; (try go_ints); rfl)); (focus (go_simp; rfl))))
   apply wpOrd_pure rfl rfl rfl
   ·intro W hW
    exact exec_load_w 25 _ rfl w.heap.size 0 rfl [.int .i64 t1, .int .i64 t2] _ (HX.out W hW) Tryz.underlying25 rfl (by kernel_rfl)
   ·(focus (go_simp; rfl))
   refine wpOrd_eff rfl rfl (fun q => ?_)
   go_wp2_with fail
   refine (HCG.out _ ((Kp.refl No w2).drewN _)).mono ?_
   cases og with
   | none =>
    rintro e w3 ⟨rfl, k3⟩
    have k3' : Kp No w2 w3 := k3.of_drewN
    go_wp2_with fail
    (try refine ⟨k3', ?_⟩)
    repeat (first
     | (apply wpOrd_skip rfl (by decide) rfl; (focus (go_simp; rfl)))
     | (apply wpOrd_pure rfl rfl rfl; (focus (intro _ _; go_simp; (try go_ints); rfl)); (focus (go_simp; rfl)))
     | (apply wpOrd_read rfl rfl rfl; (focus (intro _; go_simp; (try go_ints); rfl)); (focus (go_simp; rfl))))
    refine wpOrd_nil (fun nq => ?_)
    have HK3 := Lib.hid ((HK2.out.trans_same k3').drewN nq)
    clear k3 k3' f7 lk
    go_wp2_with fail
    rw [HCV.out]
    exact bodyPost_ret (v := .tuple #[.slice none 0 0, .bool false, .int .i64 0]) (by simp [results, Tryz.results26, go_sem]) rfl ⟨rfl, HK3.out⟩
   | some l0 =>
    rintro e w3 ⟨a3, c3, rfl, ho3, hf3, k3⟩
    have k3' : Kp No w2 w3 := k3.of_drewN
    obtain ⟨n3, hn3⟩ : ∃ n3, n3 = l0.length := ⟨_, rfl⟩
    rw [← hn3] at ho3 hf3 ⊢
    have HO := Lib.hid (And.intro ho3 (And.intro (fun g hg => Nat.le_trans HK2.out.size (hf3 g hg)) hn3))
    clear ho3 hf3 hn3
    go_wp2_with fail
    (try refine ⟨k3', ?_⟩)
    repeat (first
     | (apply wpOrd_skip rfl (by decide) rfl; (focus (go_simp; rfl)))
     | (apply wpOrd_pure rfl rfl rfl; (focus (intro _ _; go_simp; (try go_ints); rfl)); (focus (go_simp; rfl)))
     | (apply wpOrd_read rfl rfl rfl; (focus (intro _; go_simp; (try go_ints); rfl)); (focus (go_simp; rfl))))
    refine wpOrd_nil (fun nq => ?_)
    have HK3 := Lib.hid ((HK2.out.trans_same k3').drewN nq)
    clear k3 k3' f7 lk
    go_wp2_with fail
    rw [HCV.out]
    exact bodyPost_ret (v := .tuple #[.slice a3 n3 c3, .bool true, .int .i64 0]) (by simp [results, Tryz.results26, go_sem]) rfl ⟨a3, c3, by rw [HO.out.2.2], by rw [← HO.out.2.2]; exact HO.out.1.drewN nq, by rw [← HO.out.2.2]; exact HO.out.2.1, HK3.out⟩
end Go.Proofs.YtgnkmjeoaoongaaGreatDoor

