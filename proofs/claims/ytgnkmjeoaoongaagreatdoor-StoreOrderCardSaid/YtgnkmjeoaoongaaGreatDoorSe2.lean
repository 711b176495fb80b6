/-
  Texts laid together: STrim, SAllC, SKeys.
-/
import Derived.Lib.SliceRun
import Derived.Test.YtgnkmjeoaoongaaGreatDoorSb6
import Derived.Test.YtgnkmjeoaoongaaGreatDoorSb7
import Derived.Test.YtgnkmjeoaoongaaGreatDoorSe0
namespace Go.Proofs.YtgnkmjeoaoongaaGreatDoor
open Go.RowKit Go.Mer
end Go.Proofs.YtgnkmjeoaoongaaGreatDoor
namespace Go.Proofs.YtgnkmjeoaoongaaGreatDoor
open Go.RowKit Go.Mer
def AllRel (w0 : World) (R : List VerR) (wr : World) (v : Value) (k : Nat) : Prop :=
 ∃ Q : List VerR, Q.map VerR.v = (R.take k).map VerR.v ∧ RowRel 44 6 verC w0 wr v k Q ∧ ∀ y ∈ Q, y.ok wr ∧ ∀ g, y.sl.ownBlock = some g → w0.heap.size ≤ g
theorem AllRel.nil (w : World) (R : List VerR) : AllRel w R w (.slice none 0 0) 0 := ⟨[], rfl, RowRel.nil _ _ _ _, fun y hy => absurd hy List.not_mem_nil⟩
theorem AllRel.kp {w0 wr : World} {R : List VerR} {v : Value} {k : Nat} (h : AllRel w0 R wr v k) : Kp No w0 wr := by
 obtain ⟨Q, _, h, _⟩ := h
 exact h.2.2.2
theorem AllRel.keep {w0 wr W : World} {R : List VerR} {v : Value} {k : Nat} (h : AllRel w0 R wr v k) (hk : Kp No wr W) : AllRel w0 R W v k := by
 obtain ⟨Q, h1, h2, h3⟩ := h
 exact ⟨Q, h1, h2.keep hk, fun y hy => ⟨(h3 y hy).1.keep hk fun _ _ x => x, (h3 y hy).2⟩⟩
theorem AllRel.step {w0 W : World} {R : List VerR} {v : Value} {k : Nat} (h : AllRel w0 R W v k) (hk : k < R.length) (hn : R.length ≤ 1000000) {y : VerR} (hy : y.v = R[k].v) (ho : y.ok W) (hf : ∀ g, y.sl.ownBlock = some g → w0.heap.size ≤ g)
  {g : Nat} {t : TypeId} (hg : W.heap[g]? = some (.cells (verC y).toArray t (0, 0))) :
  ∃ a' c' W', (Builtin.append_ #[68, 68] 68 #[v, .slice (some ⟨g, 0, none⟩) 1 1]).run Tryz.prog W = .ok (.slice a' (k + 1) c') W' ∧ AllRel w0 R W' (.slice a' (k + 1) c') (k + 1) := by
 obtain ⟨Q, h1, h2, h3⟩ := h
 obtain ⟨a', c', W', hrun, hrel, hkp⟩ := RowRel.app (P := Tryz.prog) (T := 68) Tryz.underlying68 infoVer verC_one h2 [y] (one_src (f := verC) verC_len (x := y) hg rfl) rfl (by unfold maxLen; omega) (by omega)
 have hS : ∀ gg, v.ownBlock = some gg → ∀ cur, W.heap[gg]? ≠ some (.cells cur 5 (0, 0)) := fun gg hgg cur hcur => by
  obtain ⟨cur', hc'⟩ := h2.2.1.type gg hgg
  exact ne_of_type hcur hc' (by decide) rfl
 refine ⟨a', c', W', hrun, Q ++ [y], ?_, hrel, fun z hz => ?_⟩
 ·rw [List.map_append, h1, List.take_succ_eq_append_getElem hk, List.map_append]
  simp [hy]
 ·rcases List.mem_append.1 hz with hz | hz
  ·exact ⟨(h3 z hz).1.apart hkp hS, (h3 z hz).2⟩
  ·rw [List.mem_singleton] at hz
   subst hz
   exact ⟨ho.apart hkp hS, hf⟩
set_option maxRecDepth 100000 in
set_option maxHeartbeats 1000000 in
theorem cAll_any (w : World) (k0 : ChR) (hc : ChOk 203 w k0) (hn : k0.R.length ≤ 1000000) (hl : ∀ x ∈ k0.R, x.v.val.length ≤ 140737488355328) :
  Calls Tryz.prog 63 #[.pointer (some ⟨k0.b, 0, none⟩)] w fun e w' => ∃ a c, e = .returned (.slice a k0.R.length c) ∧ AllRel w k0.R w' (.slice a k0.R.length c) k0.R.length := by
 obtain ⟨cb, ra, rc, R⟩ := k0
 simp only at hn hl ⊢
 obtain ⟨n, hnR⟩ : ∃ n, n = R.length := ⟨_, rfl⟩
 have hrow : (⟨cb, ra, rc, R⟩ : ChR).row = .slice ra n rc := by unfold ChR.row; rw [hnR]
 have hR : Rd w w.heap.size ra (R.flatMap verC) := by have := Own.rd' (a := ra) (cap := rc) (m := R.length) hc.own; exact this
 have f0 : w.cell? ⟨cb, 0, none⟩ = some (.slice ra n rc) := by
  have := hc.cells.1 w (Kp.refl _ _)
  rw [hrow] at this
  exact this
 have hcb := get_lt hc.cell
 simp only at hcb
 rw [← hnR]
 have hnn : n ≤ 1000000 := by omega
 have HC := Lib.hid hc
 have HN := Lib.hid hnR
 have HR := Lib.hid hR
 have HNB := Lib.hid hn
 have HL := Lib.hid hl
 clear hc hnR hR hrow hn hl
 go_enter Tryz.func63, Tryz.ntmps63
 go_wp2_with fail
 go_loopw [3, 13] (fun s3 s13 wr => ∃ (k : Nat) (a : Option Addr) (cp : Nat), k ≤ n ∧ s13 = .int .i64 k ∧ s3 = .slice a k cp ∧ Hid (AllRel w R wr (.slice a k cp) k)) (fun _ s13 _ => n - (intOf s13).toNat)
 case atStart => exact ⟨0, none, 0, Nat.zero_le _, rfl, rfl, Lib.hid (AllRel.nil w R)⟩
 case round =>
  obtain ⟨k, a, cp, hk, rfl, rfl, HA⟩ := hrel
  have hkw := HA.out.kp
  rcases Nat.lt_or_ge k n with hlt | hge
  ·have hkR : k < R.length := by have := HN.out; omega
   obtain ⟨g, off, rfl, hgl, hgr⟩ := ver_range HR.out hkR
   have hxo : R[k].ok wr := (HC.out.vals R[k] (List.getElem_mem hkR)).keep hkw fun _ _ x => x
   have hxl := HL.out R[k] (List.getElem_mem hkR)
   obtain ⟨x, hx⟩ : ∃ x, x = R[k] := ⟨_, rfl⟩
   rw [← hx] at hgr hxo hxl
   have R1 := Lib.hid (hgr wr hkw)
   have hg3 := hkw.lt hgl
   obtain ⟨w5, hw5⟩ : ∃ W, W = wr.alloc (.cells (verC x).toArray 44) := ⟨_, rfl⟩
   have k5 : Kp No wr w5 := by rw [hw5]; exact (Kp.refl _ _).alloc _
   have b5 : w5.heap[wr.heap.size]? = some (.cells (verC x).toArray 44 (0, 0)) := by rw [hw5]; exact heap_alloc_new wr _
   have R5 := Lib.hid (show w5.rangeAt wr.heap.size 0 (verC x) from by have := rangeAt_block b5 0 6; exact this)
   have hl5 := get_lt b5
   have how := cOwn_any x w5 (VerR.rd_kp hxo.rd k5) hxl
   have HOW := Lib.hid how
   have HK5 := Lib.hid k5
   have HW5 := Lib.hid hw5
   have HX := Lib.hid hx
   have HKR := Lib.hid hkR
   clear hgr hxo hxl k5 b5 how hw5 hx hkw hgl
   go_upto_region 7 with (first
    | (refine wpList_load_w rfl 44 _ rfl g (off + k * 6) rfl _ _ R1 Tryz.underlying44 rfl (by kernel_rfl) ?_)
    | (refine wpList_store_w rfl 44 _ _ rfl wr.heap.size (by rfl) _ _ _ rfl rfl (by kernel_rfl) (by rfl) (by rfl) ?_))
   rw [← HW5.out]
   go_wp2_with (refine wpList_load_w rfl 44 _ rfl wr.heap.size 0 rfl _ _ R5 Tryz.underlying44 rfl (by kernel_rfl) ?_)
   refine HOW.out.mono ?_
   rintro e w6 ⟨y, hyv, rfl, hyo, hyf, k6⟩
   have h6 : Kp No wr w6 := HK5.out.trans_same k6
   have h7 : Kp No w6 (w6.alloc (.cells (verC y).toArray 44)) := (Kp.refl _ _).alloc _
   obtain ⟨a', c', w8, hrun, hnew⟩ := (HA.out.keep (h6.trans_same h7)).step HKR.out HNB.out (y := y) (by rw [hyv, HX.out]) (hyo.keep h7 fun _ _ x => x) (fun gg hgg => by
    have h1 := hyf gg hgg
    have h2 := HK5.out.size
    have h3 := HA.out.kp.size
    omega) (heap_alloc_new w6 _)
   have HX8 := Lib.hid hrun
   have HNEW := Lib.hid hnew
   simp only [verV, verC]
   clear hyv hyo hyf k6 h6 h7 hrun hnew HOW
   go_wp2_with (at_builtin; refine wpList_append_run rfl rfl rfl rfl HX8.out ?_)
   go_roundw
   case rel => exact ⟨k + 1, a', c', hlt, by push_cast; rfl, rfl, HNEW⟩
   case measure => simp [intOf]; omega
  ·obtain rfl : k = n := by omega
   clear hge hkw
   go_wp2_with fail
   go_ret
   exact ⟨a, cp, rfl, HA.out⟩
end Go.Proofs.YtgnkmjeoaoongaaGreatDoor
namespace Go.Proofs.YtgnkmjeoaoongaaGreatDoor
open Go.RowKit Go.Mer Go.Maps Go.Sort Go.Shelf
theorem skeys_wide (mb : Option Nat) (W : World) : Calls Tryz.prog 65 #[.map mb] W fun e w' => e = .returned (.func (.func 119) #[] #[.pointer (some ⟨W.heap.size, 0, none⟩)]) ∧ w' = W.alloc (.cells #[.map mb] 128) :=
 (callsIn_wide (n := 5)).1 (AnyZ.keys_in Tryz.keys65 Fence.wide 5 trivial rfl mb W)
set_option maxHeartbeats 1000000 in
theorem ssorted_wide {H : Type} (b nn : Nat) (D0 : DataW H) (R : Value → Option (DataW H × List MemPlace)) (w : World) (hown : w.ownsMap Tryz.prog 9 R b nn D0) (hmax : Maps.size D0 ≤ maxLen) (hbytes : Maps.size D0 * 16 ≤ 140737488355328) :
  Calls Tryz.prog 64 #[.func (.func 119) #[] #[.pointer (some ⟨w.heap.size, 0, none⟩)]] (w.alloc (.cells #[.map (some b)] 128)) fun e w' => ∃ (v : Value) (ss : List (List UInt8)), e = .returned v ∧ ss.Perm (strKeys D0) ∧
   w'.ownsRow (w.alloc (.cells #[.map (some b)] 128)).heap.size 9 1 v ss.length ((ss.mergeSort (fun x y => decide (x ≤ y))).map encStr) ∧ (v = .slice none 0 0 ↔ ss = []) ∧ Below (w.alloc (.cells #[.map (some b)] 128)).heap.size (w.alloc (.cells #[.map (some b)] 128)) w' := by
 have hbl := hown.lt
 have hseq : SeqGives Fence.wide 2 Tryz.prog 119 #[.pointer (some ⟨w.heap.size, 0, none⟩)] encStr (fun ss => ss.Perm (strKeys D0)) (Maps.size D0) (w.alloc (.cells #[.map (some b)] 128)) :=
  AnyZ.keys_gives (ρ := Tryz.keys65_ren) { Tryz.keys65 with } Fence.wide _ trivial rfl (by omega) w.heap.size b nn D0 _ (by simp) (by simp) (by
   obtain ⟨es, clock, hb, Ft, hs, hD⟩ := hown
   exact ⟨es, clock, (Below.heap_alloc _ _ b hbl).trans hb, Ft, hs, hD⟩)
 exact (callsIn_wide (n := 5)).1 (AnyZ.sorted_in Tryz.sorted64 Fence.wide 5 trivial trivial trivial trivial rfl (by omega) (sorts_wide _) (enters_of Tryz.func118 (by kernel_rfl) rfl) 119 #[.pointer (some ⟨w.heap.size, 0, none⟩)] trivial (enters_of Tryz.func119 (by kernel_rfl) rfl) _ _ hmax hbytes _ hseq)
set_option maxHeartbeats 1000000 in
theorem ssorted_any {w : World} {m : Nat} {l : List (ByteArray × Value)} (h : GMap Value.string w m l) (hl : ∀ p ∈ l, p.1.size ≤ maxLen) (hn : l.length ≤ 1000000) (N : List ByteArray) (hN : N.Pairwise NLt) (hp : N.Perm (l.map (·.1))) :
  Calls Tryz.prog 64 #[.func (.func 119) #[] #[.pointer (some ⟨w.heap.size, 0, none⟩)]] (w.alloc (.cells #[.map (some m)] 128)) fun e w' => ∃ a c, e = .returned (.slice a N.length c) ∧ Rd w' w'.heap.size a (N.map Value.string) ∧ Kp No w w' := by
 obtain ⟨D0, nn, hown, hperm, hsize⟩ := GMap.owns h hl (by simp only [maxLen]; omega)
 refine (ssorted_wide m nn D0 _ w hown (by rw [hsize]; simp only [maxLen]; omega) (by rw [hsize]; omega)).mono ?_
 rintro e w2 ⟨v, ss, rfl, hs, hrow, _, hb⟩
 have hk : Kp No w w2 := ((Kp.refl No w).alloc _).trans_same (Kp.of_below hb fun k hk hs => by simp at hk hs; omega)
 have hNs : namesOf ss = N := nm_sorted (fs := N.map fun k => (k, ⟨[], 0⟩)) hN (by rw [List.map_map]; exact List.Perm.of_eq (List.map_id N).symm) (by
  rw [List.map_map]
  refine (hs.trans hperm).trans ?_
  have h2 := hp.symm.map (·.data.toList)
  rw [List.map_map] at h2
  exact h2)
 have hxs : (ss.mergeSort fun x y => decide (x ≤ y)).map encStr = N.map Value.string := by rw [← hNs]; simp [namesOf, encStr]
 have hlen : N.length = ss.length := by rw [← hNs]; simp [namesOf]
 obtain ⟨_, ⟨rfl, h0⟩ | ⟨g, cap, cur, rfl, _, hg, _, _, _, hx⟩⟩ := hrow
 ·have hN0 : N = [] := List.eq_nil_of_length_eq_zero (by omega)
  subst hN0
  exact ⟨none, 0, rfl, Rd.nil _ _ _, hk⟩
 ·refine ⟨some ⟨g, 0, none⟩, cap, by rw [hlen], ?_, hk⟩
  refine Rd.row hg ?_ (get_lt hg) (Nat.le_refl _) (n := ss.length)
  rw [← hxs, ← hx]
  simp
def lenV (cs : ChL) (V : List ByteArray) : Nat := ((cs.filter fun p => decide (p.1 ∈ V)).map fun p => p.2.R.length).sum
def lenA (cs : ChL) : Nat := (cs.map fun p => p.2.R.length).sum
theorem lenV_nil (cs : ChL) : lenV cs [] = 0 := by
 unfold lenV
 rw [List.filter_eq_nil_iff.2 (by simp)]
 rfl
theorem lenV_step {cs : ChL} (hn : (cs.map (·.1)).Nodup) {p : ByteArray × ChR} (hp : p ∈ cs) {V : List ByteArray} (hV : p.1 ∉ V) : lenV cs (p.1 :: V) = lenV cs V + p.2.R.length := by
 unfold lenV
 rw [((filter_step hn hp hV).1.map _).sum_nat, List.map_cons, List.sum_cons]
 omega
theorem lenV_le (cs : ChL) (V : List ByteArray) : lenV cs V ≤ lenA cs := by
 unfold lenV lenA
 induction cs with
 | nil => simp
 | cons p l ih =>
  rw [List.filter_cons]
  split <;> simp only [List.map_cons, List.sum_cons] <;> omega
theorem lenV_all {cs : ChL} {V : List ByteArray} (h : ∀ p ∈ cs, p.1 ∈ V) : lenV cs V = lenA cs := by
 unfold lenV lenA
 rw [List.filter_eq_self.2 (by simpa using h)]
theorem lenA_many {w : World} {s d l o m : Nat} {P : ByteArray} {st : SSt} {cs : ChL} {ka : Option Addr} {kc : Nat} {K : List RecR} (h : StC w s d l P o st m cs ka kc K) : lenA cs = manySt st := by
 have := (h.perm.map fun p => p.2.length).sum_nat
 unfold manySt
 rw [← this]
 unfold lenA keysL2
 rw [List.map_map]
 congr 1
 refine List.map_congr_left fun p _ => ?_
 simp [ChR.vs]
set_option maxRecDepth 100000 in
set_option maxHeartbeats 2000000 in
theorem keys_any {w : World} {s d l o m : Nat} {P : ByteArray} {st : SSt} {cs : ChL} {ka : Option Addr} {kc : Nat} {K : List RecR} (h : StC w s d l P o st m cs ka kc K) (hinv : Inv o st) (hc : ∀ p ∈ cs, p.2.R.length ≤ 1000000) (hcn : cs.length ≤ 1000000) (hm : manySt st ≤ 1000000000) :
  Calls Tryz.prog 19 #[.pointer (some ⟨s, 0, none⟩)] w fun e w' => ∃ a c, e = .returned (.tuple #[.slice a (st.keys.map (·.1)).length c, .int .i64 (manySt st : Int)]) ∧ Rd w' w'.heap.size a ((st.keys.map (·.1)).map Value.string) ∧ Kp No w w' := by
 have c7 : w.cell? ⟨s, 7, none⟩ = some (.map (some m)) := h.at_ (Kp.refl _ _) 7
 have hsl := get_lt h.cell
 obtain ⟨N, hN⟩ : ∃ N, N = st.keys.map (·.1) := ⟨_, rfl⟩
 have hNs : N.Pairwise NLt := by rw [hN]; exact List.pairwise_map.2 hinv.sorted
 have hNp : N.Perm ((cptrL cs).map (·.1)) := by
  rw [hN, keys_cptr, ← keys_keysL2]
  exact (h.perm.map (·.1)).symm
 have hsz : ∀ p ∈ cptrL cs, p.1.size ≤ maxLen := fun p hp => by
  obtain ⟨q, hq, rfl⟩ := List.mem_map.1 hp
  have := (hinv.keys (q.1, q.2.vs) (h.perm.mem_iff.1 (List.mem_map.2 ⟨q, hq, rfl⟩))).2.1
  simp only [maxLen]
  simp only at this
  omega
 have hvals : ∀ p ∈ cs, ∀ x ∈ p.2.R, x.v.val.length ≤ 140737488355328 := fun p hp x hx => by
  have := (hinv.keys (p.1, p.2.vs) (h.perm.mem_iff.1 (List.mem_map.2 ⟨p, hp, rfl⟩))).2.2.2.2 x.v (List.mem_map.2 ⟨x, hx, rfl⟩)
  have := (isV_iff.1 this.1).2.2.2.1
  omega
 rw [← hN]
 have hlm := lenA_many h
 rw [← hlm] at hm ⊢
 obtain ⟨ob, hrun, hit⟩ := run_range_g (P := Tryz.prog) Tryz.underlying128 h.map
 have HC := Lib.hid h
 have HN := Lib.hid (And.intro hNs (And.intro hNp (And.intro hsz (And.intro hvals (And.intro hc hcn)))))
 have HI := Lib.hid hit
 clear h hNs hNp hsz hvals hlm hinv hN hc hcn hit
 go_enter Tryz.func19, Tryz.ntmps19
 go_wp2_with fail
 rename World => w0
 go_loopg [4] (restV cs []) (fun g n wr => ∃ V, g = restV cs V ∧ Hid (GIter Value.string wr w0.heap.size m (cptrL cs) V) ∧ Hid (Kp No w0 wr) ∧ n = .int .i64 (lenV cs V : Int))
 case atStart => exact ⟨[], rfl, HI, Lib.hid ((Kp.refl _ _).alloc _), by rw [lenV_nil]; rfl⟩
 case round =>
  obtain ⟨V, rfl, hI, HK, rfl⟩ := hrel
  have hle := lenV_le cs V
  rcases run_next_g (P := Tryz.prog) 0 hI.out with ⟨hall, hnext⟩ | ⟨p, hp, hpV, n, o', hnext, hI', hent⟩
  ·have ht := lenV_all (cs := cs) (V := V) (fun q hq => hall (q.1, ptrN q.2.b) (List.mem_map.2 ⟨q, hq, rfl⟩))
   have HT := Lib.hid ht
   have hC := HC.out.keep_no HK.out
   have c7r : wr.cell? ⟨s, 7, none⟩ = some (.map (some m)) := hC.at_ (Kp.refl _ _) 7
   have hslr := get_lt hC.cell
   have HSO := Lib.hid (ssorted_any hC.map HN.out.2.2.1 (by simp only [cptrL, List.length_map]; exact HN.out.2.2.2.2.2) N HN.out.1 HN.out.2.1)
   clear ht hall hC hI c7 hsl
   go_wp2_with fail
   refine (skeys_wide _ _).mono ?_
   rintro e w1 ⟨rfl, rfl⟩
   go_wp2_with fail
   refine HSO.out.mono ?_
   rintro e w2 ⟨a, c, rfl, hr2, k2⟩
   have HR := Lib.hid (And.intro hr2 (HK.out.trans_same k2))
   clear hr2 k2 HSO
   go_wp2_with fail
   go_ret2
   rw [HT.out]
   exact ⟨a, c, rfl, HR.out⟩
  ·obtain ⟨q, hq, rfl⟩ := List.mem_map.1 hp
   have hkn := HC.out.chs.keys
   have hst := lenV_step hkn hq (V := V) hpV
   have hre := (filter_step (V := V) hkn hq hpV).2
   have hle' := lenV_le cs (q.1 :: V)
   have hrm : w0.heap.size ≠ m := hI.out.ne
   have hrl : w0.heap.size < wr.heap.size := hI.out.lt
   have hnx : (Instr.next (.pointer (some ⟨w0.heap.size, 0, none⟩)) false 0).run Tryz.prog wr = .ok (.tuple #[.bool true, .string q.1, .pointer (some ⟨q.2.b, 0, none⟩)]) (ChangeMaps.setBlock (wr.drewN n) w0.heap.size o') := hnext
   have hen : (Instr.entry (.pointer (some ⟨w0.heap.size, 0, none⟩))).run Tryz.prog (ChangeMaps.setBlock (wr.drewN n) w0.heap.size o') = .ok (.tuple #[.string q.1, .pointer (some ⟨q.2.b, 0, none⟩)]) (ChangeMaps.setBlock (wr.drewN n) w0.heap.size o') :=
    hent _ (setBlock_at (w := wr.drewN n) hrl o') (by show (wr.heap.setIfInBounds _ o')[m]? = _; rw [Array.getElem?_setIfInBounds_ne hrm])
   obtain ⟨W2, hW2⟩ : ∃ W, W = ChangeMaps.setBlock (wr.drewN n) w0.heap.size o' := ⟨_, rfl⟩
   rw [← hW2] at hnx hen hI'
   have hk2 : Kp No w0 W2 := by rw [hW2]; exact (HK.out.drewN n).setBlock (.inr (Nat.le_refl _)) o'
   have hall := cAll_any W2 q.2 ((HC.out.keep_no hk2).chs.each q hq) (HN.out.2.2.2.2.1 q hq) (HN.out.2.2.2.1 q hq)
   have HAL := Lib.hid hall
   have HI2 := Lib.hid hI'
   have HK2 := Lib.hid hk2
   have HST := Lib.hid hst
   have HRE := Lib.hid hre
   have hadd : lenV cs V + q.2.R.length ≤ lenA cs := by rw [← hst]; exact hle'
   obtain ⟨qn, hqn⟩ : ∃ k, k = q.2.R.length := ⟨_, rfl⟩
   rw [← hqn] at HAL HST hadd
   clear hW2 hnext hent hI' hst hre hle' hp hpV hI hk2 hall hkn hqn c7 hsl
   go_wp2_with fail
   refine HAL.out.mono ?_
   rintro e W3 ⟨a3, c3, rfl, hA3⟩
   have hk3 := hA3.kp
   have HI3 := Lib.hid (show GIter Value.string W3 w0.heap.size m (cptrL cs) (q.1 :: V) from HI2.out.of_heap (hk3.block _ HI2.out.lt fun x => x) (hk3.block _ HI2.out.map.lt fun x => x))
   have HK3 := Lib.hid (HK2.out.trans_same hk3)
   clear hA3 hk3 HAL
   go_wp2_with fail
   go_roundg (restV cs (q.1 :: V))
   case measure => have := HRE.out; omega
   case rel => exact ⟨q.1 :: V, rfl, HI3, HK3, by rw [HST.out]; go_num⟩
end Go.Proofs.YtgnkmjeoaoongaaGreatDoor
