/-
  disk: Names: the names, sorted.
-/
import Derived.Test.YtenidddbjobblaaDiskMove
import Derived.Test.YtenidddbjobblaaIter
namespace Go.Proofs.Ytenidddbjobblaa
open Go.RowKit Go.Mer Go.Maps Go.Sort Go.Shelf

/-- slices.Sort's two contracts at this program. -/
theorem sorts_wide (m : Nat) : AnyZ.SortsIn Try.prog Try.sorted35_ren Fence.wide m :=
  ⟨fun blk off cap ss W hH hblk hsz => callsIn_wide.2 (AnyM.slices_Sort_string Try.sort52 blk off cap ss W hH hblk hsz),
   fun p cap W => callsIn_wide.2 (AnyM.slices_Sort_string_none Try.sort52 p cap W)⟩
/-- maps.Keys at whatever map: a function value over one new block. -/
theorem keys_wide (mb : Option Nat) (W : World) : Calls Try.prog 36 #[.map mb] W fun e w' => e = .returned (.func (.func 53) #[] #[.pointer (some ⟨W.heap.size, 0, none⟩)]) ∧ w' = W.alloc (.cells #[.map mb] 58) :=
  (callsIn_wide (n := 5)).1 (AnyZ.keys_in Try.keys36 Fence.wide 5 trivial rfl mb W)
set_option maxHeartbeats 1000000 in
/-- slices.Sorted at what maps.Keys handed back for a map that is not nil: its keys, sorted, in a new slice. -/
theorem sorted_wide {H : Type} (b nn : Nat) (D0 : DataW H) (R : Value → Option (DataW H × List MemPlace)) (w : World) (hown : w.ownsMap Try.prog 9 R b nn D0) (hmax : Maps.size D0 ≤ maxLen) (hbytes : Maps.size D0 * 16 ≤ 140737488355328) :
    Calls Try.prog 35 #[.func (.func 53) #[] #[.pointer (some ⟨w.heap.size, 0, none⟩)]] (w.alloc (.cells #[.map (some b)] 58)) fun e w' => ∃ (v : Value) (ss : List (List UInt8)), e = .returned v ∧ ss.Perm (strKeys D0) ∧
      w'.ownsRow (w.alloc (.cells #[.map (some b)] 58)).heap.size 9 1 v ss.length ((ss.mergeSort (fun x y => decide (x ≤ y))).map encStr) ∧ (v = .slice none 0 0 ↔ ss = []) ∧ Below (w.alloc (.cells #[.map (some b)] 58)).heap.size (w.alloc (.cells #[.map (some b)] 58)) w' := by
  have hbl := hown.lt
  have hseq : SeqGives Fence.wide 2 Try.prog 53 #[.pointer (some ⟨w.heap.size, 0, none⟩)] encStr (fun ss => ss.Perm (strKeys D0)) (Maps.size D0) (w.alloc (.cells #[.map (some b)] 58)) :=
    AnyZ.keys_gives (ρ := Try.keys36_ren) { Try.keys36 with } Fence.wide _ trivial rfl (by omega) w.heap.size b nn D0 _ (by simp) (by simp) (by
      obtain ⟨es, clock, hb, Ft, hs, hD⟩ := hown
      exact ⟨es, clock, (Below.heap_alloc _ _ b hbl).trans hb, Ft, hs, hD⟩)
  exact (callsIn_wide (n := 5)).1 (AnyZ.sorted_in Try.sorted35 Fence.wide 5 trivial trivial trivial trivial rfl (by omega) (sorts_wide _) (enters_of Try.func52 (by kernel_rfl) rfl) 53 #[.pointer (some ⟨w.heap.size, 0, none⟩)] trivial (enters_of Try.func53 (by kernel_rfl) rfl) _ _ hmax hbytes _ hseq)

def readKV (kv : Value × Value) : Lit × DataW Unit := match kv.1 with | .string s => (Lit.string s.data.toList, DataW.nil) | _ => (Lit.bool false, DataW.nil)
/-- A map of strings, as the kit's laws have it. -/
theorem GMap.owns {w : World} {m : Nat} {l : List (ByteArray × Value)} (h : GMap Value.string w m l) (hl : ∀ p ∈ l, p.1.size ≤ maxLen) (hn : l.length ≤ maxLen) :
    ∃ (D0 : DataW Unit) (nn : Nat), w.ownsMap Try.prog 9 (fun _ => some (.nil, [])) m nn D0 ∧ (strKeys D0).Perm (l.map (·.1.data.toList)) ∧ Maps.size D0 = l.length := by
  obtain ⟨es, clock, hm, hs, hp⟩ := h
  have hsz : es.size = l.length := by have := congrArg List.length hp; simpa using this
  have hkey : ∀ x ∈ es.toList, ∃ p ∈ l, x.key = .string p.1 := fun x hx => by
    have : (x.key, x.val) ∈ es.toList.map fun e => (e.key, e.val) := List.mem_map.2 ⟨x, hx, rfl⟩
    rw [hp] at this
    obtain ⟨p, hp', he⟩ := List.mem_map.1 this
    exact ⟨p, hp', (Prod.mk.inj he).1.symm⟩
  have hrd : ∀ x ∈ es.toList, ∀ s : ByteArray, x.key = .string s → s.size ≤ maxLen → WideElems.rd (H := Unit) Try.prog 9 (fun _ => some (.nil, [])) x = some (.string s.data.toList, .nil) := fun x _ s hk hs => by
    unfold WideElems.rd
    rw [hk, WideMaps.keyOf_string_mk kindStr hs]
    rfl
  have hrg : es.toList.map (WideElems.rg (H := Unit) Try.prog 9 (fun _ => some (.nil, []))) = l.map fun p => (Lit.string p.1.data.toList, DataW.nil) := by
    have h1 : ∀ x ∈ es.toList, WideElems.rg (H := Unit) Try.prog 9 (fun _ => some (.nil, [])) x = readKV (x.key, x.val) := fun x hx => by
      obtain ⟨p, hp', hk⟩ := hkey x hx
      unfold WideElems.rg
      rw [hrd x hx p.1 hk (hl p hp'), hk]
      rfl
    rw [List.map_congr_left h1, show (es.toList.map fun x => readKV (x.key, x.val)) = (es.toList.map fun x => (x.key, x.val)).map readKV from by rw [List.map_map]; rfl, hp, List.map_map]
    rfl
  refine ⟨.map ((es.toList.map (WideElems.rg (H := Unit) Try.prog 9 (fun _ => some (.nil, [])))).foldr DataW.insert []), es.size, ⟨es, clock, hm, ⟨by omega, hs, fun x hx => ?_⟩, Nat.le_refl _, rfl⟩, ?_, ?_⟩
  · obtain ⟨p, hp', hk⟩ := hkey x hx
    exact ⟨_, hrd x hx p.1 hk (hl p hp')⟩
  · have h1 := (WideShapes.sorted_perm (l.map fun p => (Lit.string p.1.data.toList, (DataW.nil : DataW Unit)))).map fun p => strOf p.1
    rw [hrg]
    refine h1.trans ?_
    rw [List.map_map]
    exact List.Perm.refl _
  · rw [hrg, Maps.size_eq, (WideShapes.sorted_perm _).length_eq, List.length_map]

/-- Names. -/
def namesOf (ss : List (List UInt8)) : List ByteArray := (ss.mergeSort fun x y => decide (x ≤ y)).map fun b => ⟨b.toArray⟩
set_option maxHeartbeats 1000000 in
theorem Names_any (w : World) (d : Nat) (s : DSt) (F : Nat → Prop) (hD : DiskAt w d s F) (hl : ∀ p ∈ s.files, p.1.size ≤ maxLen) :
    Calls Try.prog 21 #[.pointer (some ⟨d, 0, none⟩)] w fun e w' => ∃ (ss : List (List UInt8)) (a : Option Addr) (c : Nat), e = .returned (.slice a (namesOf ss).length c) ∧ ss.Perm (s.files.map (·.1.data.toList)) ∧
      Rd w' w'.heap.size a ((namesOf ss).map Value.string) ∧ Kp No w w' := by
  obtain ⟨m, fused, left, L, hC, hf, hs, hF, hFs⟩ := hD
  have hfew := hC.few
  obtain ⟨D0, nn, hown, hperm, hsize⟩ := GMap.owns hC.map (fun p hp => by
    obtain ⟨q, hq, rfl⟩ := List.mem_map.1 hp
    exact hl (q.1, q.2.abs) (by rw [hs]; exact List.mem_map.2 ⟨q, hq, rfl⟩)) (by simp only [ptrL, List.length_map, maxLen]; omega)
  have hsz : Maps.size D0 ≤ 4096 := by rw [hsize]; simpa [ptrL] using hfew
  have c1 := cell_at hC.cell 1
  have hdl := get_lt hC.cell
  simp at c1
  have hsorted := sorted_wide m nn D0 _ w hown (by simp only [maxLen]; omega) (by omega)
  have HS := Lib.hid hsorted
  have HP := Lib.hid hperm
  have HF := Lib.hid hs
  clear hsorted hperm hown hs hC hf hF hFs hl hsize hsz
  go_enter Try.func21, Try.ntmps21
  go_wp2_with fail
  refine (keys_wide _ _).mono ?_
  rintro e w1 ⟨rfl, rfl⟩
  go_wp2_with fail
  refine (HS.out).mono ?_
  rintro e w2 ⟨v, ss, rfl, hp, hrow, _, hb⟩
  have HP2 := Lib.hid hp
  have HR := Lib.hid hrow
  have HB := Lib.hid hb
  clear hp hrow hb
  go_wp2_with fail
  go_ret
  have hlen : (namesOf ss).length = ss.length := by simp [namesOf]
  have hk : Kp No w w2 := ((Kp.refl No w).alloc _).trans_same (Kp.of_below HB.out fun k hk hs => by simp at hk hs; omega)
  have hxs : (ss.mergeSort fun x y => decide (x ≤ y)).map encStr = (namesOf ss).map Value.string := by simp [namesOf, encStr]
  have hpp : ss.Perm (s.files.map (·.1.data.toList)) := by
    have := HP2.out.trans HP.out
    rw [show ptrL L = L.map fun p => (p.1, p.2.ptr) from rfl, List.map_map] at this
    rw [HF.out, show absL L = L.map fun p => (p.1, p.2.abs) from rfl, List.map_map]
    exact this
  obtain ⟨_, ⟨rfl, h0⟩ | ⟨g, cap, cur, rfl, _, hg, _, _, _, hx⟩⟩ := HR.out
  · have hss : ss = [] := List.eq_nil_of_length_eq_zero h0
    subst hss
    exact ⟨[], none, 0, by rw [hlen]; rfl, hpp, by simp [namesOf]; exact Rd.nil _ _ _, hk⟩
  · refine ⟨ss, some ⟨g, 0, none⟩, cap, by rw [hlen]; rfl, hpp, ?_, hk⟩
    refine Rd.row hg ?_ (get_lt hg) (Nat.le_refl _) (n := ss.length)
    rw [← hxs, ← hx]
    simp
end Go.Proofs.Ytenidddbjobblaa
