/-
  Texts laid together: DiskList, WNms.
-/
import Derived.Test.YtdibkdgafidjgaaGreatDoorWa4
import Derived.Test.YtdibkdgafidjgaaGreatDoorIter
import Derived.Test.YtdibkdgafidjgaaGreatDoorWb1
import Derived.Test.YtdibkdgafidjgaaGreatDoorWb6
namespace Go.Proofs.YtdibkdgafidjgaaGreatDoor
open Go.RowKit Go.Mer Go.Maps Go.Sort Go.Shelf
theorem sorts_wide (m : Nat) : AnyZ.SortsIn Tryz.prog Tryz.sorted86_ren Fence.wide m :=
 ⟨fun blk off cap ss W hH hblk hsz => callsIn_wide.2 (AnyM.slices_Sort_string Tryz.sort112 blk off cap ss W hH hblk hsz),
  fun p cap W => callsIn_wide.2 (AnyM.slices_Sort_string_none Tryz.sort112 p cap W)⟩
theorem keys_wide (mb : Option Nat) (W : World) : Calls Tryz.prog 87 #[.map mb] W fun e w' => e = .returned (.func (.func 113) #[] #[.pointer (some ⟨W.heap.size, 0, none⟩)]) ∧ w' = W.alloc (.cells #[.map mb] 78) :=
 (callsIn_wide (n := 5)).1 (AnyZ.keys_in Tryz.keys87 Fence.wide 5 trivial rfl mb W)
set_option maxHeartbeats 1000000 in
theorem sorted_wide {H : Type} (b nn : Nat) (D0 : DataW H) (R : Value → Option (DataW H × List MemPlace)) (w : World) (hown : w.ownsMap Tryz.prog 9 R b nn D0) (hmax : Maps.size D0 ≤ maxLen) (hbytes : Maps.size D0 * 16 ≤ 140737488355328) :
  Calls Tryz.prog 86 #[.func (.func 113) #[] #[.pointer (some ⟨w.heap.size, 0, none⟩)]] (w.alloc (.cells #[.map (some b)] 78)) fun e w' => ∃ (v : Value) (ss : List (List UInt8)), e = .returned v ∧ ss.Perm (strKeys D0) ∧
   w'.ownsRow (w.alloc (.cells #[.map (some b)] 78)).heap.size 9 1 v ss.length ((ss.mergeSort (fun x y => decide (x ≤ y))).map encStr) ∧ (v = .slice none 0 0 ↔ ss = []) ∧ Below (w.alloc (.cells #[.map (some b)] 78)).heap.size (w.alloc (.cells #[.map (some b)] 78)) w' := by
 have hbl := hown.lt
 have hseq : SeqGives Fence.wide 2 Tryz.prog 113 #[.pointer (some ⟨w.heap.size, 0, none⟩)] encStr (fun ss => ss.Perm (strKeys D0)) (Maps.size D0) (w.alloc (.cells #[.map (some b)] 78)) :=
  AnyZ.keys_gives (ρ := Tryz.keys87_ren) { Tryz.keys87 with } Fence.wide _ trivial rfl (by omega) w.heap.size b nn D0 _ (by simp) (by simp) (by
   obtain ⟨es, clock, hb, Ft, hs, hD⟩ := hown
   exact ⟨es, clock, (Below.heap_alloc _ _ b hbl).trans hb, Ft, hs, hD⟩)
 exact (callsIn_wide (n := 5)).1 (AnyZ.sorted_in Tryz.sorted86 Fence.wide 5 trivial trivial trivial trivial rfl (by omega) (sorts_wide _) (enters_of Tryz.func112 (by kernel_rfl) rfl) 113 #[.pointer (some ⟨w.heap.size, 0, none⟩)] trivial (enters_of Tryz.func113 (by kernel_rfl) rfl) _ _ hmax hbytes _ hseq)
def readKV (kv : Value × Value) : Lit × DataW Unit := match kv.1 with | .string s => (Lit.string s.data.toList, DataW.nil) | _ => (Lit.bool false, DataW.nil)
theorem GMap.owns {w : World} {m : Nat} {l : List (ByteArray × Value)} (h : GMap Value.string w m l) (hl : ∀ p ∈ l, p.1.size ≤ maxLen) (hn : l.length ≤ maxLen) :
  ∃ (D0 : DataW Unit) (nn : Nat), w.ownsMap Tryz.prog 9 (fun _ => some (.nil, [])) m nn D0 ∧ (strKeys D0).Perm (l.map (·.1.data.toList)) ∧ Maps.size D0 = l.length := by
 obtain ⟨es, clock, hm, hs, hp⟩ := h
 have hsz : es.size = l.length := by have := congrArg List.length hp; simpa using this
 have hkey : ∀ x ∈ es.toList, ∃ p ∈ l, x.key = .string p.1 := fun x hx => by
  have : (x.key, x.val) ∈ es.toList.map fun e => (e.key, e.val) := List.mem_map.2 ⟨x, hx, rfl⟩
  rw [hp] at this
  obtain ⟨p, hp', he⟩ := List.mem_map.1 this
  exact ⟨p, hp', (Prod.mk.inj he).1.symm⟩
 have hrd : ∀ x ∈ es.toList, ∀ s : ByteArray, x.key = .string s → s.size ≤ maxLen → WideElems.rd (H := Unit) Tryz.prog 9 (fun _ => some (.nil, [])) x = some (.string s.data.toList, .nil) := fun x _ s hk hs => by
  unfold WideElems.rd
  rw [hk, WideMaps.keyOf_string_mk kindStr hs]
  rfl
 have hrg : es.toList.map (WideElems.rg (H := Unit) Tryz.prog 9 (fun _ => some (.nil, []))) = l.map fun p => (Lit.string p.1.data.toList, DataW.nil) := by
  have h1 : ∀ x ∈ es.toList, WideElems.rg (H := Unit) Tryz.prog 9 (fun _ => some (.nil, [])) x = readKV (x.key, x.val) := fun x hx => by
   obtain ⟨p, hp', hk⟩ := hkey x hx
   unfold WideElems.rg
   rw [hrd x hx p.1 hk (hl p hp'), hk]
   rfl
  rw [List.map_congr_left h1, show (es.toList.map fun x => readKV (x.key, x.val)) = (es.toList.map fun x => (x.key, x.val)).map readKV from by rw [List.map_map]; rfl, hp, List.map_map]
  rfl
 refine ⟨.map ((es.toList.map (WideElems.rg (H := Unit) Tryz.prog 9 (fun _ => some (.nil, [])))).foldr DataW.insert []), es.size, ⟨es, clock, hm, ⟨by omega, hs, fun x hx => ?_⟩, Nat.le_refl _, rfl⟩, ?_, ?_⟩
 ·obtain ⟨p, hp', hk⟩ := hkey x hx
  exact ⟨_, hrd x hx p.1 hk (hl p hp')⟩
 ·have h1 := (WideShapes.sorted_perm (l.map fun p => (Lit.string p.1.data.toList, (DataW.nil : DataW Unit)))).map fun p => strOf p.1
  rw [hrg]
  refine h1.trans ?_
  rw [List.map_map]
  exact List.Perm.refl _
 ·rw [hrg, Maps.size_eq, (WideShapes.sorted_perm _).length_eq, List.length_map]
def namesOf (ss : List (List UInt8)) : List ByteArray := (ss.mergeSort fun x y => decide (x ≤ y)).map fun b => ⟨b.toArray⟩
set_option maxHeartbeats 1000000 in
theorem Names_any (w : World) (d : Nat) (s : DSt) (F : Nat → Prop) (hD : DiskAt w d s F) (hl : ∀ p ∈ s.files, p.1.size ≤ maxLen) :
  Calls Tryz.prog 54 #[.pointer (some ⟨d, 0, none⟩)] w fun e w' => ∃ (ss : List (List UInt8)) (a : Option Addr) (c : Nat), e = .returned (.slice a (namesOf ss).length c) ∧ ss.Perm (s.files.map (·.1.data.toList)) ∧
   Rd w' w'.heap.size a ((namesOf ss).map Value.string) ∧ Kp No w w' := by
 obtain ⟨m, fused, left, L, hC, hf, hs, hF, hFs⟩ := hD
 have hfew := hC.few
 obtain ⟨D0, nn, hown, hperm, hsize⟩ := GMap.owns hC.map (fun p hp => by
  obtain ⟨q, hq, rfl⟩ := List.mem_map.1 hp
  exact hl (q.1, q.2.abs) (by rw [hs]; exact List.mem_map.2 ⟨q, hq, rfl⟩)) (by simp only [ptrL, List.length_map, maxLen]; omega)
 have hsz : Maps.size D0 ≤ 4096 := by rw [hsize]; simpa [ptrL] using hfew
 have c1 := cell_at hC.cell 1
 have hdl := get_lt hC.cell
 simp at c1
 have hsorted := sorted_wide m nn D0 _ w hown (by simp only [maxLen]; omega) (by omega)
 have HS := Lib.hid hsorted
 have HP := Lib.hid hperm
 have HF := Lib.hid hs
 clear hsorted hperm hown hs hC hf hF hFs hl hsize hsz
 go_enter Tryz.func54, Tryz.ntmps54
 go_wp2_with fail
 refine (keys_wide _ _).mono ?_
 rintro e w1 ⟨rfl, rfl⟩
 go_wp2_with fail
 refine (HS.out).mono ?_
 rintro e w2 ⟨v, ss, rfl, hp, hrow, _, hb⟩
 have HP2 := Lib.hid hp
 have HR := Lib.hid hrow
 have HB := Lib.hid hb
 clear hp hrow hb
 go_wp2_with fail
 go_ret
 have hlen : (namesOf ss).length = ss.length := by simp [namesOf]
 have hk : Kp No w w2 := ((Kp.refl No w).alloc _).trans_same (Kp.of_below HB.out fun k hk hs => by simp at hk hs; omega)
 have hxs : (ss.mergeSort fun x y => decide (x ≤ y)).map encStr = (namesOf ss).map Value.string := by simp [namesOf, encStr]
 have hpp : ss.Perm (s.files.map (·.1.data.toList)) := by
  have := HP2.out.trans HP.out
  rw [show ptrL L = L.map fun p => (p.1, p.2.ptr) from rfl, List.map_map] at this
  rw [HF.out, show absL L = L.map fun p => (p.1, p.2.abs) from rfl, List.map_map]
  exact this
 obtain ⟨_, ⟨rfl, h0⟩ | ⟨g, cap, cur, rfl, _, hg, _, _, _, hx⟩⟩ := HR.out
 ·have hss : ss = [] := List.eq_nil_of_length_eq_zero h0
  subst hss
  exact ⟨[], none, 0, by rw [hlen]; rfl, hpp, by simp [namesOf]; exact Rd.nil _ _ _, hk⟩
 ·refine ⟨ss, some ⟨g, 0, none⟩, cap, by rw [hlen]; rfl, hpp, ?_, hk⟩
  refine Rd.row hg ?_ (get_lt hg) (Nat.le_refl _) (n := ss.length)
  rw [← hxs, ← hx]
  simp
end Go.Proofs.YtdibkdgafidjgaaGreatDoor
namespace Go.Proofs.YtdibkdgafidjgaaGreatDoor
open Go.RowKit Go.Mer
def nmS (l : Files) : List ByteArray := namesOf (l.map (·.1.data.toList))
theorem nm_sorted {N : List ByteArray} {ss : List (List UInt8)} {fs : Files} (hN : N.Pairwise NLt) (hp : N.Perm (fs.map (·.1))) (hs : ss.Perm (fs.map (·.1.data.toList))) : namesOf ss = N := by
 have h1 : (ss.mergeSort fun x y => decide (x ≤ y)) = N.map (·.data.toList) := by
  refine List.Perm.eq_of_pairwise (le := fun a b : List UInt8 => a ≤ b) (fun a b _ _ h1 h2 => List.le_antisymm h1 h2) ?_ ?_ ?_
  ·have := List.pairwise_mergeSort (le := fun x y : List UInt8 => decide (x ≤ y)) (fun a b c h1 h2 => decide_eq_true (List.le_trans (of_decide_eq_true h1) (of_decide_eq_true h2))) (fun a b => by
    rcases List.le_total a b with h | h <;> simp [h]) ss
   exact this.imp fun h => of_decide_eq_true h
  ·exact List.pairwise_map.2 (hN.imp fun h => List.le_of_lt h)
  ·refine (List.mergeSort_perm _ _).trans (hs.trans ?_)
   have h2 := hp.symm.map (·.data.toList)
   rwa [List.map_map] at h2
 unfold namesOf
 rw [h1, List.map_map]
 have h3 : ((fun b : List UInt8 => (⟨b.toArray⟩ : ByteArray)) ∘ fun x : ByteArray => x.data.toList) = id := by
  funext x
  rfl
 rw [h3, List.map_id]
theorem nm_eq {ss : List (List UInt8)} {l : Files} (h : ss.Perm (l.map (·.1.data.toList))) : namesOf ss = nmS l := by
 have key : ∀ a b : List (List UInt8), a.Perm b → (a.mergeSort fun x y => decide (x ≤ y)) = b.mergeSort fun x y => decide (x ≤ y) := fun a b hab => by
  have hs : ∀ c : List (List UInt8), (c.mergeSort fun x y => decide (x ≤ y)).Pairwise fun a b => a ≤ b := fun c => by
   have := List.pairwise_mergeSort (le := fun x y : List UInt8 => decide (x ≤ y)) (fun a b c h1 h2 => decide_eq_true (List.le_trans (of_decide_eq_true h1) (of_decide_eq_true h2))) (fun a b => by
    rcases List.le_total a b with h | h <;> simp [h]) c
   exact this.imp fun h => of_decide_eq_true h
  refine List.Perm.eq_of_pairwise (le := fun a b : List UInt8 => a ≤ b) (fun a b _ _ h1 h2 => List.le_antisymm h1 h2) (hs a) (hs b) ?_
  exact (List.mergeSort_perm _ _).trans (hab.trans (List.mergeSort_perm _ _).symm)
 unfold nmS namesOf
 rw [key _ _ h]
theorem nm_perm (l : Files) : (nmS l).Perm (l.map (·.1)) := by
 unfold nmS namesOf
 have h1 := (List.mergeSort_perm (l.map (·.1.data.toList)) fun x y => decide (x ≤ y)).map fun b : List UInt8 => (⟨b.toArray⟩ : ByteArray)
 rw [List.map_map] at h1
 exact h1
theorem nm_nodup {l : Files} (h : (l.map (·.1)).Nodup) : (nmS l).Nodup := (nm_perm l).nodup_iff.2 h
theorem nm_mem {l : Files} {x : ByteArray} : x ∈ nmS l ↔ x ∈ l.map (·.1) := (nm_perm l).mem_iff
theorem nm_len (l : Files) : (nmS l).length = l.length := by rw [(nm_perm l).length_eq, List.length_map]
def FilesOk (l : Files) : Prop := ∀ p ∈ l, nameOk p.1 = true
theorem FilesOk.size {l : Files} (h : FilesOk l) {x : ByteArray} (hx : x ∈ nmS l) : 1 ≤ x.size ∧ x.size ≤ 64 := by
 obtain ⟨p, hp, rfl⟩ := List.mem_map.1 (nm_mem.1 hx)
 have := h p hp
 unfold nameOk at this
 rw [Bool.and_eq_true, decide_eq_true_iff, decide_eq_true_iff] at this
 exact this
theorem DiskAt.few {w : World} {d : Nat} {s : DSt} {F : Nat → Prop} (h : DiskAt w d s F) : s.files.length ≤ 4096 ∧ (s.files.map (·.1)).Nodup ∧ totF s.files ≤ s.room := by
 obtain ⟨m, fused, left, L, hC, hf, hs, hF, hFs⟩ := h
 refine ⟨by rw [hs]; simpa [absL] using hC.few, ?_, by rw [hs]; exact hC.fits⟩
 rw [hs, keys_absL]
 exact hC.keys
theorem names_wal (w : World) (d : Nat) (s : DSt) (F : Nat → Prop) (hD : DiskAt w d s F) (hl : FilesOk s.files) :
  Calls Tryz.prog 54 #[.pointer (some ⟨d, 0, none⟩)] w fun e w' => ∃ a c, e = .returned (.slice a (nmS s.files).length c) ∧ Rd w' w'.heap.size a ((nmS s.files).map Value.string) ∧ Kp No w w' := by
 refine (Names_any w d s F hD (fun p hp => ?_)).mono ?_
 ·have := hl p hp
  unfold nameOk at this
  rw [Bool.and_eq_true, decide_eq_true_iff, decide_eq_true_iff] at this
  simp only [maxLen]
  omega
 ·rintro e w' ⟨ss, a, c, rfl, hp, hr, hk⟩
  rw [nm_eq hp] at hr
  exact ⟨a, c, by rw [nm_eq hp], hr, hk⟩
theorem names_ref (w : World) (r : Nat) (s : DSt) (G : Nat → Prop) (h : RAt w r s G) :
  Calls Tryz.prog 59 #[.pointer (some ⟨r, 0, none⟩)] w fun e w' => ∃ a c, e = .returned (.slice a (nmS s.files).length c) ∧ Rd w' w'.heap.size a ((nmS s.files).map Value.string) ∧ Kp No w w' := by
 refine (rNames_any w r s G h).mono ?_
 rintro e w' ⟨N, a, c, rfl, hN, hp, hr, hk⟩
 have e1 : nmS s.files = N := nm_sorted hN hp (List.Perm.refl _)
 rw [e1]
 exact ⟨a, c, rfl, hr, hk⟩
end Go.Proofs.YtdibkdgafidjgaaGreatDoor

