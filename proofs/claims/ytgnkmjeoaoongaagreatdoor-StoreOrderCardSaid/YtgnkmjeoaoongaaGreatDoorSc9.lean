/-
  Texts laid together: SOpn0, SWOpn, WNext, SOpn.
-/
import Derived.Test.YtgnkmjeoaoongaaGreatDoorSc8
import Derived.Test.YtgnkmjeoaoongaaGreatDoorSa9
import Derived.Test.YtgnkmjeoaoongaaGreatDoorSb0
import Derived.Test.YtgnkmjeoaoongaaGreatDoorSb7
import Derived.Test.YtgnkmjeoaoongaaGreatDoorSa5
import Derived.Test.YtgnkmjeoaoongaaGreatDoorSc5
import Derived.Test.YtgnkmjeoaoongaaGreatDoorSa3
import Derived.Test.YtgnkmjeoaoongaaGreatDoorSb2
namespace Go.Proofs.YtgnkmjeoaoongaaGreatDoor
open Go.RowKit Go.Mer
theorem dec_len (a : Nat) (h : a ≤ 1000000) : (Lib.decDigits a).length ≤ 7 := by
 have := decDm_len 6 a (by omega)
 omega
set_option maxRecDepth 100000 in
theorem logName_any (P : ByteArray) (hP : P.size ≤ 1000) (n : Nat) (hn : n ≤ 1000000) (w : World) (ht : Pow w) :
  Calls Tryz.prog 97 #[.string P, .int .i64 (n : Int)] w fun e w' => e = .returned (.string (logN P n)) ∧ Kp No w w' := by
 have hd := ItoaW_any n hn w ht
 obtain ⟨D, hD⟩ : ∃ D : ByteArray, D = ⟨(Lib.decDigits n).toArray⟩ := ⟨_, rfl⟩
 rw [← hD] at hd
 have hDs : D.size ≤ 7 := by
  have := dec_len n hn
  rw [hD]
  show (Lib.decDigits n).toArray.size ≤ 7
  simpa using this
 have HL := Lib.hid (show (P ++ D) ++ (⟨#[46]⟩ : ByteArray) = logN P n from by
  rw [hD]
  apply ByteArray.ext
  unfold logN
  simp [ByteArray.data_append])
 have HC := Lib.hid hd
 clear hd hD
 go_enter Tryz.func97, Tryz.ntmps97
 go_wp2_with fail
 refine HC.out.mono ?_
 rintro e w1 ⟨rfl, k1⟩
 have HK := Lib.hid k1
 clear k1
 go_wp2_with fail
 go_ret
 exact ⟨congrArg (fun s => Ending.returned (.string s)) HL.out, HK.out⟩
theorem readAge_none {w : World} {d : Nat} {s : DSt} {F : Nat → Prop} (hD : DiskAt w d s F) (name : ByteArray) (hn : gget s.files name = none) :
  Calls Tryz.prog 94 #[.pointer (some ⟨d, 0, none⟩), .string name] w fun e w' => e = .returned (.int .i64 0) ∧ Kp No w w' := by
 have hr := Read_any w d s F hD name
 have h2 : rdS s.files name = ([], 7) := by unfold rdS; rw [hn]
 unfold ReadPost at hr
 rw [h2] at hr
 have HR := Lib.hid hr
 clear hr h2 hD hn
 go_enter Tryz.func94, Tryz.ntmps94
 go_wp2_with fail
 refine HR.out.mono ?_
 rintro e w1 ⟨v, rfl, hown, k1, hf, hd⟩
 have HK := Lib.hid k1
 clear k1 hown hf hd
 go_wp2_with fail
 go_ret
 exact ⟨rfl, HK.out⟩
theorem sclose_idle (p q : Addr) (w : World) : CallsD Tryz.prog 92 #[.pointer (some p), .pointer (some q)] .returning w fun e u' w' => e = .returned (.tuple #[]) ∧ u' = .returning ∧ w' = w := by
 refine callsD_of_wpS Tryz.func92 rfl fun c₀ cs hu => ?_
 apply wpS_seq
 apply wpS_region
 simp [wpOpsS, go_sem, recoverD, hu, Tryz.ntmps92, Exit.thenS]
 refine wpS_of_wp ?_
 have ha : (#[Value.pointer (some p), Value.pointer (some q)] ++ (Array.replicate 11 undef).setIfInBounds 3 Value.nilIface) = #[Value.pointer (some p), Value.pointer (some q), undef, undef, undef, Value.nilIface, undef, undef, undef, undef, undef, undef, undef] := rfl
 rw [ha]
 go_wp2_with fail
 cases c₀
 simp_all [bodyPostS, results, Tryz.results92]
theorem sopen_done {wx : World} {s b0 b1 : Nat} (hp : wx.cell? ⟨b0, 0, none⟩ = some (.pointer (some ⟨s, 0, none⟩))) (he : wx.cell? ⟨b1, 0, none⟩ = some (.int .i64 0)) (tmps : Array Value) (h6 : tmps.getD 6 undef = .pointer (some ⟨b0, 0, none⟩)) (h7 : tmps.getD 7 undef = .pointer (some ⟨b1, 0, none⟩)) (R : Ending → World → Prop)
  (hR : R (.returned (.tuple #[.pointer (some ⟨s, 0, none⟩), .int .i64 0])) wx) :
  Leaves Tryz.prog Tryz.f44 tmps R [{ target := .fn (.func 92) #[.pointer (some ⟨b0, 0, none⟩), .pointer (some ⟨b1, 0, none⟩)], args := #[] }] .returning wx := by
 refine leaves_cons (f := 92) (args := #[.pointer (some ⟨b0, 0, none⟩), .pointer (some ⟨b1, 0, none⟩)]) (by simp) (by simp [go_sem]) ?_
 refine (sclose_idle ⟨b0, 0, none⟩ ⟨b1, 0, none⟩ wx).mono ?_
 rintro e u' w'' ⟨rfl, rfl, rfl⟩
 refine ⟨.tuple #[.pointer (some ⟨s, 0, none⟩), .int .i64 0], ?_, hR⟩
 have h6' : tmps[6]?.getD undef = .pointer (some ⟨b0, 0, none⟩) := by rw [← h6, Array.getD_eq_getD_getElem?]
 have h7' : tmps[7]?.getD undef = .pointer (some ⟨b1, 0, none⟩) := by rw [← h7, Array.getD_eq_getD_getElem?]
 simp [results, Tryz.results44, go_sem, h6', h7', hp, he]
end Go.Proofs.YtgnkmjeoaoongaaGreatDoor
namespace Go.Proofs.YtgnkmjeoaoongaaGreatDoor
open Go.RowKit Go.Mer
theorem names_none {w : World} {d : Nat} {ds : DSt} {F : Nat → Prop} (hD : DiskAt w d ds F) (hds : ds.files = []) :
  Calls Tryz.prog 95 #[.pointer (some ⟨d, 0, none⟩)] w fun e w' => ∃ a c, e = .returned (.slice a 0 c) ∧ Kp No w w' := by
 refine (Names_any w d ds F hD (by rw [hds]; simp)).mono ?_
 rintro e w' ⟨ss, a, c, rfl, hp, _, hk⟩
 rw [hds, List.map_nil] at hp
 have : ss = [] := hp.eq_nil
 subst this
 exact ⟨a, c, by simp [namesOf], hk⟩
theorem logN_size (P : ByteArray) : (logN P 0).size = P.size + 2 := by
 show ((P.data.toList ++ (Lib.decDigits 0 ++ [46])).toArray).size = _
 have h1 : (Lib.decDigits 0).length = 1 := by
  rw [decDm_small (by decide)]
  rfl
 simp [h1]
theorem slog0 {w : World} {l d : Nat} {P : ByteArray} (h : w.heap[l]? = some (.cells #[.pointer (some ⟨d, 0, none⟩), .string P, .slice none 0 0, .slice none 0 0, .int .i64 0, .bool false] 241 (0, 0))) : LogAt w l d P st0 (One l) :=
 ⟨.slice none 0 0, .slice none 0 0, [], ⟨h, Own.nil _ _ _, Own.nil _ _ _, fun _ h => (by cases h)⟩, rfl, (fun k hk => by
  rcases hk with h | h | h | ⟨_, h, _⟩
  ·exact h
  ·cases h
  ·cases h
  ·cases h), (fun k hk => by
  rw [show k = l from hk]
  exact get_lt h)⟩
theorem sw_done {wx : World} {l b0 b1 : Nat} (hp : wx.cell? ⟨b0, 0, none⟩ = some (.pointer (some ⟨l, 0, none⟩))) (he : wx.cell? ⟨b1, 0, none⟩ = some (.int .i64 0)) (tmps : Array Value) (h4 : tmps.getD 4 undef = .pointer (some ⟨b0, 0, none⟩)) (h5 : tmps.getD 5 undef = .pointer (some ⟨b1, 0, none⟩)) (R : Ending → World → Prop)
  (hR : R (.returned (.tuple #[.pointer (some ⟨l, 0, none⟩), .int .i64 0])) wx) :
  Leaves Tryz.prog Tryz.f99 tmps R [{ target := .fn (.func 155) #[.pointer (some ⟨b1, 0, none⟩), .pointer (some ⟨b0, 0, none⟩)], args := #[] }] .returning wx := by
 refine leaves_cons (f := 155) (args := #[.pointer (some ⟨b1, 0, none⟩), .pointer (some ⟨b0, 0, none⟩)]) (by simp) (by simp [go_sem]) ?_
 refine (close_idle ⟨b1, 0, none⟩ ⟨b0, 0, none⟩ wx).mono ?_
 rintro e u' w'' ⟨rfl, rfl, rfl⟩
 refine ⟨.tuple #[.pointer (some ⟨l, 0, none⟩), .int .i64 0], ?_, hR⟩
 have h4' : tmps[4]?.getD undef = .pointer (some ⟨b0, 0, none⟩) := by rw [← h4, Array.getD_eq_getD_getElem?]
 have h5' : tmps[5]?.getD undef = .pointer (some ⟨b1, 0, none⟩) := by rw [← h5, Array.getD_eq_getD_getElem?]
 simp [results, Tryz.results99, go_sem, h4', h5', hp, he]
set_option maxRecDepth 100000 in
set_option maxHeartbeats 4000000 in
theorem wopen_none {w : World} {d : Nat} {P : ByteArray} {ds : DSt} {F : Nat → Prop} (hD : DiskAt w d ds F) (hds : ds.files = []) (hP2 : P.size ≤ 20) :
  Calls Tryz.prog 99 #[.pointer (some ⟨d, 0, none⟩), .string (logN P 0)] w fun e w' => ∃ l F' G', e = .returned (.tuple #[.pointer (some ⟨l, 0, none⟩), .int .i64 0]) ∧ WAt w' d l (logN P 0) ds st0 F' G' ∧ Foot F F' w ∧ (∀ k, G' k → w.heap.size ≤ k) ∧ Kp F w w' := by
 have hmf : ∀ (fn : Fn) (first cap : Array Value) (w : World), (Instr.makeFunc fn first cap).run Tryz.prog w = .ok (.func fn first cap) w := fun _ _ _ _ => rfl
 have hsz := logN_size P
 obtain ⟨Q, hQ⟩ : ∃ Q, Q = logN P 0 := ⟨_, rfl⟩
 rw [← hQ] at hsz ⊢
 have e1 : decide ((Q.size : Int) < 1) = false := by rw [decide_eq_false_iff_not]; omega
 have e2 : decide ((50 : Int) < (Q.size : Int)) = false := by rw [decide_eq_false_iff_not]; omega
 have HD := Lib.hid hD
 have HDS := Lib.hid hds
 clear hD hds hQ hsz hP2
 go_enter_defers Tryz.func99, Tryz.ntmps99
 go_upto_region 6 with fail
 obtain ⟨b0, hb0⟩ : ∃ b0, b0 = w.heap.size := ⟨_, rfl⟩
 rw [← hb0]
 obtain ⟨W3, hW3⟩ : ∃ W, W = ((w.alloc (.cells #[.pointer (some ⟨b0 + 1 + 1, 0, none⟩)] 127)).alloc (.cells #[.int .i64 0] 47)).alloc (.cells #[.pointer (some ⟨d, 0, none⟩), .string Q, .slice none 0 0, .slice none 0 0, .int .i64 0, .bool false] 241) := ⟨_, rfl⟩
 rw [← hW3]
 have k3 : Kp No w W3 := by rw [hW3]; exact (((Kp.refl No w).alloc _).alloc _).alloc _
 have hs3 : W3.heap.size = b0 + 1 + 1 + 1 := by rw [hW3, hb0]; simp
 have h3l : W3.heap[b0 + 1 + 1]? = some (.cells #[.pointer (some ⟨d, 0, none⟩), .string Q, .slice none 0 0, .slice none 0 0, .int .i64 0, .bool false] 241 (0, 0)) := by
  rw [hW3, hb0]
  have := heap_alloc_new ((w.alloc (.cells #[.pointer (some ⟨w.heap.size + 1 + 1, 0, none⟩)] 127)).alloc (.cells #[.int .i64 0] 47)) (.cells #[.pointer (some ⟨d, 0, none⟩), .string Q, .slice none 0 0, .slice none 0 0, .int .i64 0, .bool false] 241 (0, 0))
  simpa using this
 have h3a : W3.heap[b0]? = some (.cells #[.pointer (some ⟨b0 + 1 + 1, 0, none⟩)] 127 (0, 0)) := by
  rw [hW3, hb0]
  exact alloc_far (alloc_far (heap_alloc_new w _) _) _
 have h3e : W3.heap[b0 + 1]? = some (.cells #[.int .i64 0] 47 (0, 0)) := by
  rw [hW3, hb0]
  exact alloc_far ((congrArg (fun k => ((w.alloc _).alloc _).heap[k]?) (by simp)).trans (heap_alloc_new (w.alloc _) _)) _
 obtain ⟨b1, hb1⟩ : ∃ b1, b1 = b0 + 1 := ⟨_, rfl⟩
 rw [← hb1] at h3l h3a h3e hs3 ⊢
 obtain ⟨l, hl⟩ : ∃ l, l = b1 + 1 := ⟨_, rfl⟩
 rw [← hl] at h3l h3a hs3 ⊢
 have HB := Lib.hid (And.intro hb0 (And.intro hb1 hl))
 have H3 := Lib.hid (And.intro k3 (And.intro h3a (And.intro h3e h3l)))
 clear hb0 hb1 hl k3 hs3 h3l h3a h3e hW3
 go_wp2_with fail
 refine (names_none (HD.out.keep_no H3.out.1) HDS.out).mono ?_
 rintro e w4 ⟨na, nc, rfl, k4⟩
 have H4 := Lib.hid (And.intro (H3.out.1.trans_same k4) (And.intro (k4.get H3.out.2.1 fun x => x) (And.intro (k4.get H3.out.2.2.1 fun x => x) (k4.get H3.out.2.2.2 fun x => x))))
 clear k4
 have hnb : b0 ≠ b1 ∧ b0 ≠ l ∧ b1 ≠ l ∧ l ≠ b0 ∧ l ≠ b1 := by have := HB.out; omega
 have HNB := Lib.hid hnb
 have n01 : ¬ b0 = b1 := hnb.1
 have n10 : ¬ b1 = b0 := fun e => n01 e.symm
 clear hnb
 go_wp2_with fail
 go_loop [6, 33] (fun a z => a = .slice none 0 0 ∧ z = .int .i64 0) (fun _ _ => 0)
 case atStart => exact ⟨rfl, rfl⟩
 case round =>
  obtain ⟨rfl, rfl⟩ := hrel
  go_wp2_with fail
  go_loop [47] (fun z => z = .int .i64 0) (fun _ => 0)
  case atStart => rfl
  case round =>
   obtain rfl := hrel
   have p0 : w4.cell? ⟨b0, 0, none⟩ = some (.pointer (some ⟨l, 0, none⟩)) := cell_at H4.out.2.1 0
   have p2 : w4.cell? ⟨l, 2, none⟩ = some (.slice none 0 0) := cell_at H4.out.2.2.2 2
   have z0 := get_lt H4.out.2.1
   have zl := get_lt H4.out.2.2.2
   go_wp2_with fail
   go_loop [67] (fun z => z = .int .i64 0) (fun _ => 0)
   case atStart => rfl
   case round =>
    obtain rfl := hrel
    have dp : ∀ W, Kp No w4 W → W.cell? ⟨b0, 0, none⟩ = some (.pointer (some ⟨l, 0, none⟩)) := fun W hW => cell_at (hW.get H4.out.2.1 fun x => x) 0
    have d3 : ∀ W, Kp No w4 W → W.cell? ⟨l, 3, none⟩ = some (.slice none 0 0) := fun W hW => cell_at (hW.get H4.out.2.2.2 fun x => x) 3
    clear p0 p2
    go_upto_region 23 with fail
    refine wp_region_last (Kp No w4) [0,0,0,0,0,0,0,0,2] [0,1,2,3,4,5,6,7] 8 (by kernel_rfl) (by kernel_rfl) (fun _ n h => h.drewN n) (Kp.refl _ _) ?_
    repeat (first
     | (apply wpOrd_skip rfl (by decide) rfl; (focus (go_simp; rfl)))
     | (apply wpOrd_pure rfl rfl rfl; (focus (intro _ _; go_simp; (try go_ints); rfl)); (focus (go_simp; rfl)))
     | (apply wpOrd_read rfl rfl rfl; (focus (intro _; go_simp; (try go_ints); rfl)); (focus (go_simp; rfl))))
    refine last_now (fun n1 => ?_)
    refine wpOrd_eff rfl rfl (fun n2 => ?_)
    obtain ⟨w5, hw5⟩ : ∃ W, W = (w4.drewN n1).drewN n2 := ⟨_, rfl⟩
    have k5 : Kp No w4 w5 := by rw [hw5]; exact ((Kp.refl No w4).drewN n1).drewN n2
    have h5l := k5.get H4.out.2.2.2 fun x => x
    have c5 : w5.cell? ⟨l, 4, none⟩ = some (.int .i64 0) := cell_at h5l 4
    have f5 := free_at h5l 4
    have l5 := get_lt h5l
    have HK5 := Lib.hid k5
    have H5L := Lib.hid h5l
    rw [← hw5]
    clear hw5 k5 h5l dp d3
    go_wp2_with fail
    intro nr
    obtain ⟨w6, hw6⟩ : ∃ W, W = (w5.setCell ⟨l, 4, none⟩ (.int .i64 0)).drewN nr := ⟨_, rfl⟩
    have k6 : Kp (Mer.One l) w5 w6 := by rw [hw6]; exact ((Kp.refl (Mer.One l) w5).setCell (p := ⟨l, 4, none⟩) (.inl (show Mer.One l l from rfl)) _).drewN nr
    have h6l : w6.heap[l]? = some (.cells #[.pointer (some ⟨d, 0, none⟩), .string Q, .slice none 0 0, .slice none 0 0, .int .i64 0, .bool false] 241 (0, 0)) := by
     rw [hw6]
     exact set_at H5L.out 4 (.int .i64 0)
    have h60 := k6.get (HK5.out.get H4.out.2.1 fun x => x) HNB.out.2.1
    have h61 := k6.get (HK5.out.get H4.out.2.2.1 fun x => x) HNB.out.2.2.1
    have c60 : w6.cell? ⟨b0, 0, none⟩ = some (.pointer (some ⟨l, 0, none⟩)) := cell_at h60 0
    have c61 : w6.cell? ⟨b1, 0, none⟩ = some (.int .i64 0) := cell_at h61 0
    have f60 := free_at h60 0
    have f61 := free_at h61 0
    have l60 := get_lt h60
    have l61 := get_lt h61
    have H6 := Lib.hid (And.intro (HK5.out) (And.intro k6 (And.intro h60 (And.intro h61 h6l))))
    rw [← hw6]
    clear hw6 k6 h6l h60 h61 c5 f5 l5
    go_wp2_with fail
    obtain ⟨w7, hw7⟩ : ∃ W, W = (w6.setCell ⟨b0, 0, none⟩ (.pointer (some ⟨l, 0, none⟩))).setCell ⟨b1, 0, none⟩ (.int .i64 0) := ⟨_, rfl⟩
    rw [← hw7]
    have k7 : Kp (fun i => i = b0 ∨ i = b1) w6 w7 := by
     rw [hw7]
     exact ((Kp.refl (fun i => i = b0 ∨ i = b1) w6).setCell (p := ⟨b0, 0, none⟩) (.inl (.inl rfl)) _).setCell (p := ⟨b1, 0, none⟩) (.inl (.inr rfl)) _
    obtain ⟨k5, k6, h60, h61, h6l⟩ := H6.out
    have hnb := HNB.out
    have h0a := set_at h60 0 (.pointer (some ⟨l, 0, none⟩))
    have h0b := set_far h0a (p := ⟨b1, 0, none⟩) hnb.1 (.int .i64 0)
    have h1a := set_far h61 (p := ⟨b0, 0, none⟩) (fun e => hnb.1 e.symm) (.pointer (some ⟨l, 0, none⟩))
    have h1b := set_at h1a 0 (.int .i64 0)
    rw [← hw7] at h0b h1b
    have hb := HB.out
    refine sw_done (b0 := b0) (cell_at h0b 0) (cell_at h1b 0) _ rfl rfl _ ?_
    have hFw := HD.out.lt
    have hl7 := k7.get h6l fun h => h.elim hnb.2.2.2.1 hnb.2.2.2.2
    have hLA := slog0 hl7
    have hk06 : Kp No w w6 := (H4.out.1.trans_same k5).trans k6 fun i hi e => by
     have e : i = l := e
     omega
    have hk07 : Kp No w w7 := hk06.trans k7 fun i hi e => by
     omega
    refine ⟨l, F, Mer.One l, rfl, ⟨HD.out.keep_no hk07, hLA, fun k hf e => ?_⟩, fun _ h => .inl h, fun k e => ?_, Kp.of_no hk07⟩
    ·have := hFw k hf
     have e : k = l := e
     omega
    ·have e : k = l := e
     omega
end Go.Proofs.YtgnkmjeoaoongaaGreatDoor
namespace Go.Proofs.YtgnkmjeoaoongaaGreatDoor
open Go.RowKit Go.Mer
theorem next_any (w : World) (l d : Nat) (P : ByteArray) (st : LSt) (G : Nat → Prop) (h : LogAt w l d P st G) (h1 : st.ents.length ≤ 1000000) (h2 : st.synced ≤ 1000000) :
  Calls Tryz.prog 100 #[.pointer (some ⟨l, 0, none⟩)] w fun e w' => e = .returned (.tuple #[.int .i64 ((st.ents.length + 1 : Nat) : Int), .int .i64 ((st.synced + 1 : Nat) : Int)]) ∧ Kp No w w' := by
 obtain ⟨sv, ev, E, hC, hE, hLF, hGl⟩ := h
 obtain ⟨ea, ec, rfl, hec, _⟩ := hC.ents.rd
 obtain ⟨_, _, _, c3, c4, _, _⟩ := hC.cells
 have hll := get_lt hC.cell
 have hn : st.ents.length = E.length := by rw [hE, List.length_map]
 rw [hn] at h1 ⊢
 obtain ⟨n, hn2⟩ : ∃ n, n = E.length := ⟨_, rfl⟩
 rw [← hn2] at h1 c3 ⊢
 obtain ⟨y, hy⟩ : ∃ y, y = st.synced := ⟨_, rfl⟩
 rw [← hy] at h2 c4 ⊢
 clear hC hE hLF hGl hn hn2 hy hec
 have c3n : ∀ m, (w.drewN m).cell? ⟨l, 3, none⟩ = some (.slice ea n ec) := fun m => c3 _ ((Kp.refl _ _).drewN m)
 have c4n : ∀ m, (w.drewN m).cell? ⟨l, 4, none⟩ = some (.int .i64 (y : Int)) := fun m => c4 _ ((Kp.refl _ _).drewN m)
 go_enter Tryz.func100, Tryz.ntmps100
 go_upto_region 1 with fail
 go_wp2_with fail
 refine wp_region_held' (Kp No _) [0,0,0,0,1,0,0,0,0,0,0,0,0] [0,1,2,3,6,7,8,9,10,4,5,11,12] (by kernel_rfl) (by kernel_rfl) (fun _ n h => h.drewN n) (Kp.refl _ _) ?_
 repeat (first
  | (apply wpOrd_skip rfl (by decide) rfl; (focus (go_simp; rfl)))
  | (apply wpOrd_pure rfl rfl rfl; (focus (intro _ _; go_simp; (try go_ints); rfl)); (focus (go_simp; rfl)))
  | (apply wpOrd_read rfl rfl rfl; (focus (intro _; go_simp; (try go_ints); rfl)); (focus (go_simp; rfl))))
 refine wpOrd_nil (fun nq => ?_)
 go_wp2_with fail
 go_ret2
 exact ⟨by rw [Int.natCast_add, Int.natCast_add]; rfl, (Kp.refl No w).drewN nq⟩
end Go.Proofs.YtgnkmjeoaoongaaGreatDoor
namespace Go.Proofs.YtgnkmjeoaoongaaGreatDoor
open Go.RowKit Go.Mer
theorem four_alloc (w : World) (o1 o2 o3 o4 : Obj) : ((((w.alloc o1).alloc o2).alloc o3).alloc o4).heap.size = w.heap.size + 1 + 1 + 1 + 1 ∧ ((((w.alloc o1).alloc o2).alloc o3).alloc o4).heap[w.heap.size]? = some o1 ∧ ((((w.alloc o1).alloc o2).alloc o3).alloc o4).heap[w.heap.size + 1]? = some o2 ∧
  ((((w.alloc o1).alloc o2).alloc o3).alloc o4).heap[w.heap.size + 1 + 1]? = some o3 ∧ ((((w.alloc o1).alloc o2).alloc o3).alloc o4).heap[w.heap.size + 1 + 1 + 1]? = some o4 := by
 have s1 : (w.alloc o1).heap.size = w.heap.size + 1 := by simp
 have s2 : ((w.alloc o1).alloc o2).heap.size = w.heap.size + 1 + 1 := by simp
 have s3 : (((w.alloc o1).alloc o2).alloc o3).heap.size = w.heap.size + 1 + 1 + 1 := by simp
 have h1 := heap_alloc_new w o1
 have h2 := heap_alloc_new (w.alloc o1) o2
 have h3 := heap_alloc_new ((w.alloc o1).alloc o2) o3
 have h4 := heap_alloc_new (((w.alloc o1).alloc o2).alloc o3) o4
 rw [s1] at h2
 rw [s2] at h3
 rw [s3] at h4
 exact ⟨by simp, alloc_far (alloc_far (alloc_far h1 _) _) _, alloc_far (alloc_far h2 _) _, alloc_far h3 _, h4⟩
theorem opn_stf {s m k : Nat} (h : StF s m [] none 0 [] k) : k = s ∨ k = m := by
 rcases h with h | h | ⟨p, hp, _⟩ | h | ⟨x, hx, _⟩
 ·exact .inl h
 ·exact .inr h
 ·exact absurd hp List.not_mem_nil
 ·simp [Value.ownBlock] at h
 ·exact absurd hx List.not_mem_nil
theorem gm_made {w : World} {m : Nat} (hm : w.heap[m]? = some (.map #[] 0)) : GMap Value.string w m [] := by
 have h := GMap.made Value.string w
 obtain ⟨es, ck, h1, h2, h3⟩ := h
 have h4 := heap_alloc_new w (.map #[] 0)
 rw [h1] at h4
 injection h4 with h4
 injection h4 with h5 h6
 subst h5
 subst h6
 exact ⟨#[], 0, hm, h2, h3⟩
theorem opn_stc {w : World} {s d l o m : Nat} {P : ByteArray} (hs : w.heap[s]? = some (.cells #[.pointer (some ⟨d, 0, none⟩), .pointer (some ⟨l, 0, none⟩), .string P, .int .i64 (o : Int), .int .i64 0, .int .i64 0, .bool false, .map (some m), .int .i64 0, .int .i64 0,
  .int .i64 0, .int .i64 0, .int .i64 0, .int .i64 0, .int .i64 0, .int .i64 0, .int .i64 0, .int .i64 0, .int .i64 0, .int .i64 0, .int .i64 0, .int .i64 0, .int .i64 0, .int .i64 0, .int .i64 0, .slice none 0 0] 133 (0, 0))) (hm : w.heap[m]? = some (.map #[] 0)) : StC w s d l P o empS m [] none 0 [] :=
 ⟨hs, gm_made hm, ⟨fun p hp => absurd hp List.not_mem_nil, List.nodup_nil, List.nodup_nil, List.nodup_nil⟩, ⟨Own.nil _ _ _, fun x hx => absurd hx List.not_mem_nil⟩, List.Perm.refl _, rfl⟩
def OpS (T : Nat → Prop) (s : Nat) (w W : World) : Prop := Kp T w W ∧ W.cell? ⟨s, 4, none⟩ = some (.int .i64 0)
set_option maxRecDepth 100000 in
set_option maxHeartbeats 4000000 in
theorem sOpen_empty (w : World) (d : Nat) (P : ByteArray) (o : Nat) (ds : DSt) (F : Nat → Prop) (hD : DiskAt w d ds F) (hds : ds.files = []) (hpow : Pow w) (hpF : ¬ F 0) (hP1 : 1 ≤ P.size) (hP2 : P.size ≤ 20) (hroom : ds.room ≤ 1048576) (ho : o < 5) :
  Calls Tryz.prog 44 #[.pointer (some ⟨d, 0, none⟩), .string P, .int .i64 (o : Int)] w fun e w' => ∃ s l m F' G', e = .returned (.tuple #[.pointer (some ⟨s, 0, none⟩), .int .i64 0]) ∧ StW w' s d l P (logN P 0) o empS m [] none 0 [] ds st0 F' G' ∧
   Foot F F' w ∧ (∀ k, G' k → w.heap.size ≤ k) ∧ (∀ k, StF s m [] none 0 [] k → w.heap.size ≤ k) ∧ Kp F w w' := by
 have hmf : ∀ (fn : Fn) (first cap : Array Value) (w : World), (Instr.makeFunc fn first cap).run Tryz.prog w = .ok (.func fn first cap) w := fun _ _ _ _ => rfl
 have hmm := @run_makeMap Tryz.prog
 have e1 : decide (1 ≤ (P.size : Int)) = true := decide_eq_true (by omega)
 have e2 : decide ((P.size : Int) ≤ 20) = true := decide_eq_true (by omega)
 have e3 : decide (0 ≤ (o : Int)) = true := decide_eq_true (by omega)
 have e4 : decide ((o : Int) < 5) = true := decide_eq_true (by omega)
 have e1' : decide (1 ≤ P.size) = true := decide_eq_true hP1
 have e2' : decide (P.size ≤ 20) = true := decide_eq_true hP2
 have e4' : decide (o < 5) = true := decide_eq_true ho
 have HD := Lib.hid hD
 have HDS := Lib.hid hds
 have HPW := Lib.hid (And.intro hpow hpF)
 have HRM := Lib.hid (And.intro hroom (And.intro hP1 (And.intro hP2 ho)))
 clear hD hds hpow hpF hroom
 go_enter_defers Tryz.func44, Tryz.ntmps44
 go_wp2_with fail
 refine (right_ok 1 _).mono ?_
 rintro e wx ⟨rfl, rfl⟩
 go_upto_region 4 with fail
 obtain ⟨b0, hb0⟩ : ∃ b0, b0 = w.heap.size := ⟨_, rfl⟩
 rw [← hb0]
 obtain ⟨W4, hW4⟩ : ∃ W, W = ((((w.alloc (.cells #[.pointer (some ⟨b0 + 1 + 1 + 1, 0, none⟩)] 35)).alloc (.cells #[.int .i64 0] 47)).alloc (.map #[] 0)).alloc (.cells #[.pointer (some ⟨d, 0, none⟩), .pointer none, .string P, .int .i64 (o : Int), .int .i64 0, .int .i64 0, .bool false, .map (some (b0 + 1 + 1)), .int .i64 0, .int .i64 0,
  .int .i64 0, .int .i64 0, .int .i64 0, .int .i64 0, .int .i64 0, .int .i64 0, .int .i64 0, .int .i64 0, .int .i64 0, .int .i64 0, .int .i64 0, .int .i64 0, .int .i64 0, .int .i64 0, .int .i64 0, .slice none 0 0] 133)) := ⟨_, rfl⟩
 have h4 := four_alloc w (.cells #[.pointer (some ⟨b0 + 1 + 1 + 1, 0, none⟩)] 35) (.cells #[.int .i64 0] 47) (.map #[] 0) (.cells #[.pointer (some ⟨d, 0, none⟩), .pointer none, .string P, .int .i64 (o : Int), .int .i64 0, .int .i64 0, .bool false, .map (some (b0 + 1 + 1)), .int .i64 0, .int .i64 0,
  .int .i64 0, .int .i64 0, .int .i64 0, .int .i64 0, .int .i64 0, .int .i64 0, .int .i64 0, .int .i64 0, .int .i64 0, .int .i64 0, .int .i64 0, .int .i64 0, .int .i64 0, .int .i64 0, .int .i64 0, .slice none 0 0] 133)
 rw [← hW4, ← hb0] at h4
 rw [← hW4]
 have k4 : Kp No w W4 := by rw [hW4]; exact ((((Kp.refl No w).alloc _).alloc _).alloc _).alloc _
 have hs4 : W4.heap.size = b0 + 1 + 1 + 1 + 1 := h4.1
 have h4a : W4.heap[b0]? = some (.cells #[.pointer (some ⟨b0 + 1 + 1 + 1, 0, none⟩)] 35 (0, 0)) := h4.2.1
 have h4e : W4.heap[b0 + 1]? = some (.cells #[.int .i64 0] 47 (0, 0)) := h4.2.2.1
 have h4m : W4.heap[b0 + 1 + 1]? = some (.map #[] 0) := h4.2.2.2.1
 have h4s : W4.heap[b0 + 1 + 1 + 1]? = some (.cells #[.pointer (some ⟨d, 0, none⟩), .pointer none, .string P, .int .i64 (o : Int), .int .i64 0, .int .i64 0, .bool false, .map (some (b0 + 1 + 1)), .int .i64 0, .int .i64 0,
  .int .i64 0, .int .i64 0, .int .i64 0, .int .i64 0, .int .i64 0, .int .i64 0, .int .i64 0, .int .i64 0, .int .i64 0, .int .i64 0, .int .i64 0, .int .i64 0, .int .i64 0, .int .i64 0, .int .i64 0, .slice none 0 0] 133 (0, 0)) := h4.2.2.2.2
 clear h4
 obtain ⟨b1, hb1⟩ : ∃ b1, b1 = b0 + 1 := ⟨_, rfl⟩
 rw [← hb1] at h4a h4e h4m h4s hs4 ⊢
 obtain ⟨m, hm⟩ : ∃ m, m = b1 + 1 := ⟨_, rfl⟩
 rw [← hm] at h4a h4m h4s hs4 ⊢
 obtain ⟨s, hs⟩ : ∃ s, s = m + 1 := ⟨_, rfl⟩
 rw [← hs] at h4a h4s hs4 ⊢
 have HB := Lib.hid (And.intro hb0 (And.intro hb1 (And.intro hm hs)))
 have H4 := Lib.hid (And.intro k4 (And.intro hs4 (And.intro h4a (And.intro h4e (And.intro h4m h4s)))))
 have hsb : b0 ≠ s := by omega
 have fa : ∀ W, Kp (Mer.One s) W4 W → W.cell? ⟨b0, 0, none⟩ = some (.pointer (some ⟨s, 0, none⟩)) := fun W hW => cell_at (hW.get h4a hsb) 0
 have hsl := get_lt h4s
 obtain ⟨A, hA⟩ : ∃ A : ByteArray, A = P ++ ⟨#[97, 103, 101]⟩ := ⟨_, rfl⟩
 have HRA := Lib.hid (show ∀ W, Kp No W4 W → Calls Tryz.prog 94 #[.pointer (some ⟨d, 0, none⟩), .string A] W fun e w' => e = .returned (.int .i64 0) ∧ Kp No W w' from fun W hW => readAge_none (HD.out.keep_no (k4.trans_same hW)) A (by rw [HDS.out]; rfl))
 have HAA := Lib.hid hA.symm
 clear hA
 have hPs := HRM.out.2.2.1
 clear hb0 hb1 hm hs k4 hs4 h4a h4e h4m h4s hW4 hsb
 refine wp_region_held' (Kp (Mer.One s) W4) [0,0,0,0,2,0,0,2] [0,1,2,3,4,5,6,7] (by kernel_rfl) (by kernel_rfl) (fun _ n h => h.drewN n) (Kp.refl _ _) ?_
 repeat (first
  | (apply wpOrd_skip rfl (by decide) rfl; (focus (go_simp; rfl)))
  | (apply wpOrd_pure rfl rfl rfl; (focus (intro _ _; go_simp; (try go_ints); rfl)); (focus (go_simp; rfl)))
  | (apply wpOrd_read rfl rfl rfl; (focus (intro _; go_simp; (try go_ints); rfl)); (focus (go_simp; rfl))))
 refine wpOrd_pure rfl rfl rfl (v := .string (P ++ ⟨#[97, 103, 101]⟩)) ?_ rfl ?_
 ·intro _ _
  go_simp
  omega
 rw [HAA.out]
 refine wpOrd_eff rfl rfl (fun q1 => ?_)
 go_wp2_with fail
 refine (HRA.out _ ((Kp.refl No W4).drewN q1)).mono ?_
 rintro e w5 ⟨rfl, k5⟩
 have k45 : Kp No W4 w5 := k5.of_drewN
 clear k5
 go_wp2_with fail
 (try refine ⟨Kp.of_no k45, ?_⟩)
 repeat (first
  | (apply wpOrd_skip rfl (by decide) rfl; (focus (go_simp; rfl)))
  | (apply wpOrd_pure rfl rfl rfl; (focus (intro _ _; go_simp; (try go_ints); rfl)); (focus (go_simp; rfl)))
  | (apply wpOrd_read rfl rfl rfl; (focus (intro _; go_simp; (try go_ints); rfl)); (focus (go_simp; rfl))))
 refine wpOrd_eff rfl rfl (fun q2 => ?_)
 obtain ⟨w6, hw6⟩ : ∃ W, W = w5.drewN q2 := ⟨_, rfl⟩
 have k46 : Kp No W4 w6 := by rw [hw6]; exact k45.drewN q2
 have h6s := k46.get H4.out.2.2.2.2.2 fun x => x
 have f4 := free_at h6s 4
 have c4 : w6.cell? ⟨s, 4, none⟩ = some (.int .i64 0) := cell_at h6s 4
 have hs6 := get_lt h6s
 rw [← hw6]
 have HK6 := Lib.hid k46
 have H6S := Lib.hid h6s
 clear hw6 k45 k46 h6s
 go_wp2_with fail
 have k4' : Kp (Mer.One s) W4 (w6.setCell ⟨s, 4, none⟩ (.int .i64 0)) := (Kp.of_no HK6.out).setCell (p := ⟨s, 4, none⟩) (.inl (show Mer.One s s from rfl)) _
 refine ⟨k4', ?_⟩
 refine wpOrd_nil (fun nq => ?_)
 obtain ⟨w7, hw7⟩ : ∃ W, W = (w6.setCell ⟨s, 4, none⟩ (.int .i64 0)).drewN nq := ⟨_, rfl⟩
 have k7 : Kp (Mer.One s) W4 w7 := by rw [hw7]; exact k4'.drewN nq
 have h7s : w7.heap[s]? = some (.cells #[.pointer (some ⟨d, 0, none⟩), .pointer none, .string P, .int .i64 (o : Int), .int .i64 0, .int .i64 0, .bool false, .map (some m), .int .i64 0, .int .i64 0,
  .int .i64 0, .int .i64 0, .int .i64 0, .int .i64 0, .int .i64 0, .int .i64 0, .int .i64 0, .int .i64 0, .int .i64 0, .int .i64 0, .int .i64 0, .int .i64 0, .int .i64 0, .int .i64 0, .int .i64 0, .slice none 0 0] 133 (0, 0)) := by
  rw [hw7]
  exact set_at H6S.out 4 (.int .i64 0)
 rw [← hw7]
 have hbs : b0 ≠ s ∧ b1 ≠ s ∧ m ≠ s := by have := HB.out; omega
 have H7 := Lib.hid (And.intro h7s (And.intro (k7.get H4.out.2.2.1 hbs.1) (And.intro (k7.get H4.out.2.2.2.1 hbs.2.1) (And.intro (k7.get H4.out.2.2.2.2.1 hbs.2.2) (show Kp No w w7 from (H4.out.1.trans k7 fun i hi e => by
  have h1 := HB.out
  have e : i = s := e
  omega))))))
 clear hw7 k7 k4' h7s hbs f4 c4 hs6 HK6 H6S fa hsl HRA H4 HAA
 go_wp2_with fail
 refine (names_none (HD.out.keep_no H7.out.2.2.2.2) HDS.out).mono ?_
 rintro e w8 ⟨na, nc, rfl, k8⟩
 have H8 := Lib.hid (And.intro (k8.get H7.out.1 fun x => x) (And.intro (k8.get H7.out.2.1 fun x => x) (And.intro (k8.get H7.out.2.2.1 fun x => x) (And.intro (k8.get H7.out.2.2.2.1 fun x => x) (H7.out.2.2.2.2.trans_same k8)))))
 clear k8 H7
 go_wp2_with fail
 go_loop [54] (fun z => z = .int .i64 0) (fun _ => 0)
 case atStart => rfl
 case round =>
  obtain rfl := hrel
  go_upto_region 12 with fail
  have hb := HB.out
  have hFl := HD.out.lt
  have hb0F : b0 ≠ s ∧ b0 ≠ b1 ∧ ¬ F b0 := ⟨by omega, by omega, fun hf => by have := hFl b0 hf; omega⟩
  have hsF : ¬ F s ∧ ¬ F b1 ∧ ¬ F m := ⟨fun hf => by have := hFl s hf; omega, fun hf => by have := hFl b1 hf; omega, fun hf => by have := hFl m hf; omega⟩
  obtain ⟨T, hT⟩ : ∃ T : Nat → Prop, ∀ i, T i ↔ (i = s ∨ i = b1 ∨ F i) := ⟨_, fun _ => Iff.rfl⟩
  have c48 : w8.cell? ⟨s, 4, none⟩ = some (.int .i64 0) := cell_at H8.out.1 4
  have fa : ∀ W, OpS T s w8 W → W.cell? ⟨b0, 0, none⟩ = some (.pointer (some ⟨s, 0, none⟩)) := fun W hW => cell_at (hW.1.get H8.out.2.1 fun h => ((hT _).1 h).elim hb0F.1 fun h => h.elim hb0F.2.1 hb0F.2.2) 0
  have f4 : ∀ W, OpS T s w8 W → W.cell? ⟨s, 4, none⟩ = some (.int .i64 0) := fun W hW => hW.2
  have hdr : ∀ (W : World) (n : Nat), OpS T s w8 W → OpS T s w8 (W.drewN n) := fun W n h => ⟨h.1.drewN n, h.2⟩
  have hst : OpS T s w8 w8 := ⟨Kp.refl _ _, c48⟩
  obtain ⟨Q, hQ⟩ : ∃ Q, Q = logN P 0 := ⟨_, rfl⟩
  have hln : ∀ W, Kp No w8 W → Calls Tryz.prog 97 #[.string P, .int .i64 0] W fun e w' => e = .returned (.string Q) ∧ Kp No W w' := fun W hW => by
   rw [hQ]
   exact logName_any P (by have := HRM.out.2.2.1; omega) 0 (by decide) W (HPW.out.1.keep (H8.out.2.2.2.2.trans_same hW))
  have hwo : ∀ W, Kp No w8 W → Calls Tryz.prog 99 #[.pointer (some ⟨d, 0, none⟩), .string Q] W fun e w' => ∃ l F' G', e = .returned (.tuple #[.pointer (some ⟨l, 0, none⟩), .int .i64 0]) ∧ WAt w' d l Q ds st0 F' G' ∧ Foot F F' W ∧ (∀ k, G' k → W.heap.size ≤ k) ∧ Kp F W w' := fun W hW => by
   rw [hQ]
   exact wopen_none (HD.out.keep_no (H8.out.2.2.2.2.trans_same hW)) HDS.out HRM.out.2.2.1
  have HLN := Lib.hid hln
  have HWO := Lib.hid hwo
  have HT := Lib.hid hT
  have HQ := Lib.hid hQ
  have HFF := Lib.hid (And.intro hb0F (And.intro hsF hFl))
  clear hln hwo hT hQ hb0F hsF hFl hb c48
  refine wp_region_held' (OpS T s w8) [0,0,0,0,0,0,0,2,2,0,0,0,0,0,2,2] [0,1,2,3,4,5,6,7,8,9,10,11,12,13,14,15] (by kernel_rfl) (by kernel_rfl) (fun W n h => hdr W n h) hst ?_
  clear hst hdr
  repeat (first
   | (apply wpOrd_skip rfl (by decide) rfl; (focus (go_simp; rfl)))
   | (apply wpOrd_pure rfl rfl rfl; (focus (intro _ _; go_simp; (try go_ints); rfl)); (focus (go_simp; rfl)))
   | (apply wpOrd_read rfl rfl rfl; (focus (intro _; go_simp; (try go_ints); rfl)); (focus (go_simp; rfl))))
  refine wpOrd_eff rfl rfl (fun q1 => ?_)
  go_wp2_with fail
  refine (HLN.out _ ((Kp.refl No w8).drewN q1)).mono ?_
  rintro e w9 ⟨rfl, k9⟩
  have k89 : Kp No w8 w9 := k9.of_drewN
  clear k9
  go_wp2_with fail
  have hs9 : OpS T s w8 w9 := ⟨Kp.of_no k89, cell_at (k89.get H8.out.1 fun x => x) 4⟩
  (try refine ⟨hs9, ?_⟩)
  clear hs9
  repeat (first
   | (apply wpOrd_skip rfl (by decide) rfl; (focus (go_simp; rfl)))
   | (apply wpOrd_pure rfl rfl rfl; (focus (intro _ _; go_simp; (try go_ints); rfl)); (focus (go_simp; rfl)))
   | (apply wpOrd_read rfl rfl rfl; (focus (intro _; go_simp; (try go_ints); rfl)); (focus (go_simp; rfl))))
  refine wpOrd_eff rfl rfl (fun q2 => ?_)
  go_wp2_with fail
  refine (HWO.out _ (k89.drewN q2)).mono ?_
  rintro e wa ⟨l, F1, G1, rfl, hWA, hF1, hG1, ka⟩
  have k8a : Kp F w8 wa := (Kp.of_no (k89.drewN q2)).trans_same ka
  have has : wa.heap[s]? = _ := k8a.get H8.out.1 HFF.out.2.1.1
  have hsa : OpS T s w8 wa := ⟨k8a.mono fun _ _ h => (HT.out _).2 (.inr (.inr h)), cell_at has 4⟩
  have HKA := Lib.hid (And.intro k89 (And.intro k8a (And.intro hWA (And.intro hF1 hG1))))
  have HAS := Lib.hid has
  clear k89 ka k8a hWA hF1 hG1 has
  go_wp2_with fail
  (try refine ⟨hsa, ?_⟩)
  clear hsa
  repeat (first
   | (apply wpOrd_skip rfl (by decide) rfl; (focus (go_simp; rfl)))
   | (apply wpOrd_pure rfl rfl rfl; (focus (intro _ _; go_simp; (try go_ints); rfl)); (focus (go_simp; rfl)))
   | (apply wpOrd_read rfl rfl rfl; (focus (intro _; go_simp; (try go_ints); rfl)); (focus (go_simp; rfl))))
  refine wpOrd_eff rfl rfl (fun q3 => ?_)
  obtain ⟨wb, hwb⟩ : ∃ W, W = wa.drewN q3 := ⟨_, rfl⟩
  have kab : Kp No wa wb := by rw [hwb]; exact (Kp.refl No wa).drewN q3
  have hbs := kab.get HAS.out fun x => x
  have g1 : wb.cell? ⟨s, 1, none⟩ = some (.pointer none) := cell_at hbs 1
  have z1 := free_at hbs 1
  have l1 := get_lt hbs
  have HBS := Lib.hid hbs
  have HKB := Lib.hid kab
  rw [← hwb]
  clear hwb kab hbs
  go_wp2_with fail
  obtain ⟨wc, hwc⟩ : ∃ W, W = wb.setCell ⟨s, 1, none⟩ (.pointer (some ⟨l, 0, none⟩)) := ⟨_, rfl⟩
  have kbc : Kp (Mer.One s) wb wc := by rw [hwc]; exact (Kp.refl (Mer.One s) wb).setCell (p := ⟨s, 1, none⟩) (.inl (show Mer.One s s from rfl)) _
  have hcs : wc.heap[s]? = some (.cells #[.pointer (some ⟨d, 0, none⟩), .pointer (some ⟨l, 0, none⟩), .string P, .int .i64 (o : Int), .int .i64 0, .int .i64 0, .bool false, .map (some m), .int .i64 0, .int .i64 0,
  .int .i64 0, .int .i64 0, .int .i64 0, .int .i64 0, .int .i64 0, .int .i64 0, .int .i64 0, .int .i64 0, .int .i64 0, .int .i64 0, .int .i64 0, .int .i64 0, .int .i64 0, .int .i64 0, .int .i64 0, .slice none 0 0] 133 (0, 0)) := by rw [hwc]; exact set_at HBS.out 1 (.pointer (some ⟨l, 0, none⟩))
  have kac : Kp (Mer.One s) wa wc := (Kp.of_no HKB.out).trans_same kbc
  have hsc : OpS T s w8 wc := ⟨(HKA.out.2.1.mono (T := T) fun _ _ h => (HT.out _).2 (.inr (.inr h))).trans_same (kac.mono fun i _ h => (HT.out _).2 (.inl h)), cell_at hcs 4⟩
  rw [← hwc]
  have HKC := Lib.hid kac
  have HCS := Lib.hid hcs
  clear hwc kbc kac hcs g1 z1 l1 HBS HKB
  (try refine ⟨hsc, ?_⟩)
  clear hsc
  repeat (first
   | (apply wpOrd_skip rfl (by decide) rfl; (focus (go_simp; rfl)))
   | (apply wpOrd_pure rfl rfl rfl; (focus (intro _ _; go_simp; (try go_ints); rfl)); (focus (go_simp; rfl)))
   | (apply wpOrd_read rfl rfl rfl; (focus (intro _; go_simp; (try go_ints); rfl)); (focus (go_simp; rfl))))
  refine wpOrd_eff rfl rfl (fun q4 => ?_)
  obtain ⟨wd, hwd⟩ : ∃ W, W = wc.drewN q4 := ⟨_, rfl⟩
  have kcd : Kp No wc wd := by rw [hwd]; exact (Kp.refl No wc).drewN q4
  have hsb1 : b1 ≠ s := by have := HB.out; omega
  have hab : wa.heap[b1]? = _ := HKA.out.2.1.get H8.out.2.2.1 HFF.out.2.1.2.1
  have hde : wd.heap[b1]? = some (.cells #[.int .i64 0] 47 (0, 0)) := by
   exact kcd.get (HKC.out.get hab fun e => hsb1 e) fun x => x
  have hds := kcd.get HCS.out fun x => x
  have g2 : wd.cell? ⟨b1, 0, none⟩ = some (.int .i64 0) := cell_at hde 0
  have z2 := free_at hde 0
  have l2 := get_lt hde
  rw [← hwd]
  have HDE := Lib.hid (And.intro hde (And.intro hds kcd))
  clear hwd kcd hsb1 hab hde hds
  go_wp2_with fail
  obtain ⟨we, hwe⟩ : ∃ W, W = wd.setCell ⟨b1, 0, none⟩ (.int .i64 0) := ⟨_, rfl⟩
  have kde : Kp (Mer.One b1) wd we := by rw [hwe]; exact (Kp.refl (Mer.One b1) wd).setCell (p := ⟨b1, 0, none⟩) (.inl (show Mer.One b1 b1 from rfl)) _
  have hee : we.heap[b1]? = some (.cells #[.int .i64 0] 47 (0, 0)) := by rw [hwe]; exact set_at HDE.out.1 0 (.int .i64 0)
  have hnb : s ≠ b1 ∧ b0 ≠ s ∧ b0 ≠ b1 ∧ m ≠ s ∧ m ≠ b1 := by have := HB.out; omega
  have hes : we.heap[s]? = some (.cells #[.pointer (some ⟨d, 0, none⟩), .pointer (some ⟨l, 0, none⟩), .string P, .int .i64 (o : Int), .int .i64 0, .int .i64 0, .bool false, .map (some m), .int .i64 0, .int .i64 0,
  .int .i64 0, .int .i64 0, .int .i64 0, .int .i64 0, .int .i64 0, .int .i64 0, .int .i64 0, .int .i64 0, .int .i64 0, .int .i64 0, .int .i64 0, .int .i64 0, .int .i64 0, .int .i64 0, .int .i64 0, .slice none 0 0] 133 (0, 0)) := kde.get HDE.out.2.1 hnb.1
  have kae : Kp (fun i => i = s ∨ i = b1) wa we := ((HKC.out.mono (T := fun i => i = s ∨ i = b1) fun _ _ h => .inl h).trans_no HDE.out.2.2).trans_same (kde.mono fun _ _ h => .inr h)
  have hse : OpS T s w8 we := ⟨(HKA.out.2.1.mono (T := T) fun _ _ h => (HT.out _).2 (.inr (.inr h))).trans_same (kae.mono fun i _ h => (HT.out _).2 (h.imp id fun h => .inl h)), cell_at hes 4⟩
  rw [← hwe]
  refine ⟨hse, ?_⟩
  refine wpOrd_nil (fun nq => ?_)
  obtain ⟨wf, hwf⟩ : ∃ W, W = we.drewN nq := ⟨_, rfl⟩
  have kef : Kp No we wf := by rw [hwf]; exact (Kp.refl No we).drewN nq
  have kaf := kae.trans_no kef
  have h89 := HKA.out.1.size
  have h8s := get_lt H8.out.1
  have hsz : s < w9.heap.size ∧ b1 < w9.heap.size := by have := HB.out; omega
  have hWf : WAt wf d l Q ds st0 F1 G1 := HKA.out.2.2.1.keepS kaf (fun k hf hk => by
   rcases HKA.out.2.2.2.1 k hf with h1 | h1
   ·rcases hk with rfl | rfl
    ·exact HFF.out.2.1.1 h1
    ·exact HFF.out.2.1.2.1 h1
   ·have h1 : w9.heap.size ≤ k := h1
    omega) (fun k hg hk => by
   have h1 : w9.heap.size ≤ k := HKA.out.2.2.2.2 k hg
   omega)
  have HF := Lib.hid (And.intro (kef.get hes fun x => x) (And.intro (kef.get hee fun x => x) (And.intro (kaf.get (HKA.out.2.1.get H8.out.2.1 HFF.out.1.2.2) fun h => h.elim hnb.2.1 hnb.2.2.1) (And.intro (kaf.get (HKA.out.2.1.get H8.out.2.2.2.1 HFF.out.2.1.2.2) fun h => h.elim hnb.2.2.2.1 hnb.2.2.2.2) (And.intro hWf (And.intro (show Foot F F1 w from fun k hf => (HKA.out.2.2.2.1 k hf).imp id fun h1 => by
   have h1 : w9.heap.size ≤ k := h1
   have h2 := H8.out.2.2.2.2.size
   omega) (And.intro (show ∀ k, G1 k → w.heap.size ≤ k ∧ k ≠ s ∧ k ≠ m ∧ k ≠ b0 ∧ k ≠ b1 from fun k hg => by
   have h1 : w9.heap.size ≤ k := HKA.out.2.2.2.2 k hg
   have h2 := H8.out.2.2.2.2.size
   have h3 := HB.out
   omega) (And.intro (show Kp F w wf from (((Kp.of_no H8.out.2.2.2.2).trans_same HKA.out.2.1).trans kaf fun i hi hk => by
   have h3 := HB.out
   omega)) (show ∀ k, F1 k → k ≠ s ∧ k ≠ m ∧ k ≠ b0 ∧ k ≠ b1 from fun k hf => by
   rcases HKA.out.2.2.2.1 k hf with h1 | h1
   ·exact ⟨fun e => HFF.out.2.1.1 (e ▸ h1), fun e => HFF.out.2.1.2.2 (e ▸ h1), fun e => HFF.out.1.2.2 (e ▸ h1), fun e => HFF.out.2.1.2.1 (e ▸ h1)⟩
   ·have h1 : w9.heap.size ≤ k := h1
    have h3 := HB.out
    omega)))))))))
  rw [← hwf]
  clear hwf kef kaf h89 h8s hsz hWf kae kde hwe hee hes hse hnb HDE HKC HCS HAS HKA HT HFF HLN HWO g2 z2 l2 fa f4 H8
  have b1f : wf.cell? ⟨b1, 0, none⟩ = some (.int .i64 0) := cell_at HF.out.2.1 0
  go_wp2_with fail
  refine (right_ok 0 _).mono ?_
  rintro e wx ⟨rfl, rfl⟩
  clear b1f
  have b0f : wf.cell? ⟨b0, 0, none⟩ = some (.pointer (some ⟨s, 0, none⟩)) := cell_at HF.out.2.2.1 0
  have s1f : wf.cell? ⟨s, 1, none⟩ = some (.pointer (some ⟨l, 0, none⟩)) := cell_at HF.out.1 1
  have hslf := get_lt HF.out.1
  go_wp2_with fail
  have hnx : Calls Tryz.prog 100 #[.pointer (some ⟨l, 0, none⟩)] wf fun e w' => e = .returned (.tuple #[.int .i64 1, .int .i64 1]) ∧ Kp No wf w' := next_any wf l d Q st0 G1 HF.out.2.2.2.2.1.log (by decide) (by decide)
  refine hnx.mono ?_
  rintro e wg ⟨rfl, kg⟩
  have hgs := kg.get HF.out.1 fun x => x
  have c0g : wg.cell? ⟨b0, 0, none⟩ = some (.pointer (some ⟨s, 0, none⟩)) := cell_at (kg.get HF.out.2.2.1 fun x => x) 0
  have c4g : wg.cell? ⟨s, 4, none⟩ = some (.int .i64 0) := cell_at hgs 4
  have hsg := get_lt hgs
  have HKG := Lib.hid kg
  clear kg hgs hnx b0f s1f hslf
  go_wp2_with fail
  refine (right_ok 3 _).mono ?_
  rintro e wx ⟨rfl, rfl⟩
  go_wp2_with fail
  go_loop [13] (fun z => z = .int .i64 1) (fun _ => 0)
  case atStart => rfl
  case round =>
   obtain rfl := hrel
   have fb : ∀ W, Kp No wg W → W.cell? ⟨b0, 0, none⟩ = some (.pointer (some ⟨s, 0, none⟩)) := fun W hW => cell_at (hW.get (HKG.out.get HF.out.2.2.1 fun x => x) fun x => x) 0
   have fs : ∀ W, Kp No wg W → W.cell? ⟨s, 4, none⟩ = some (.int .i64 0) := fun W hW => cell_at (hW.get (HKG.out.get HF.out.1 fun x => x) fun x => x) 4
   clear c0g c4g
   go_upto_region 21 with fail
   refine wp_region_last (Kp No wg) [0,0,0,0,0,0,0,0,0,0,0,2] [0,1,2,3,4,5,6,7,8,9,10] 11 (by kernel_rfl) (by kernel_rfl) (fun _ n h => h.drewN n) (Kp.refl _ _) ?_
   repeat (first
    | (apply wpOrd_skip rfl (by decide) rfl; (focus (go_simp; rfl)))
    | (apply wpOrd_pure rfl rfl rfl; (focus (intro _ _; go_simp; (try go_ints); rfl)); (focus (go_simp; rfl)))
    | (apply wpOrd_read rfl rfl rfl; (focus (intro _; go_simp; (try go_ints); rfl)); (focus (go_simp; rfl))))
   refine last_now (fun n1 => ?_)
   refine wpOrd_eff rfl rfl (fun n2 => ?_)
   obtain ⟨wh, hwh⟩ : ∃ W, W = (wg.drewN n1).drewN n2 := ⟨_, rfl⟩
   have kgh : Kp No wg wh := by rw [hwh]; exact ((Kp.refl No wg).drewN n1).drewN n2
   have hhs := kgh.get (HKG.out.get HF.out.1 fun x => x) fun x => x
   have c5 : wh.cell? ⟨s, 5, none⟩ = some (.int .i64 0) := cell_at hhs 5
   have z5 := free_at hhs 5
   have lh := get_lt hhs
   have HKH := Lib.hid (HKG.out.trans_same kgh)
   have HHS := Lib.hid hhs
   rw [← hwh]
   clear hwh kgh hhs fb fs
   go_wp2_with fail
   intro nr
   rw [show (-min (1 : Int) 0) = 0 from by decide]
   obtain ⟨wi, hwi⟩ : ∃ W, W = (wh.setCell ⟨s, 5, none⟩ (.int .i64 0)).drewN nr := ⟨_, rfl⟩
   have khi : Kp (Mer.One s) wh wi := by rw [hwi]; exact ((Kp.refl (Mer.One s) wh).setCell (p := ⟨s, 5, none⟩) (.inl (show Mer.One s s from rfl)) _).drewN nr
   have his : wi.heap[s]? = some (.cells #[.pointer (some ⟨d, 0, none⟩), .pointer (some ⟨l, 0, none⟩), .string P, .int .i64 (o : Int), .int .i64 0, .int .i64 0, .bool false, .map (some m), .int .i64 0, .int .i64 0,
  .int .i64 0, .int .i64 0, .int .i64 0, .int .i64 0, .int .i64 0, .int .i64 0, .int .i64 0, .int .i64 0, .int .i64 0, .int .i64 0, .int .i64 0, .int .i64 0, .int .i64 0, .int .i64 0, .int .i64 0, .slice none 0 0] 133 (0, 0)) := by
    rw [hwi]
    exact set_at HHS.out 5 (.int .i64 0)
   have hnb : b0 ≠ s ∧ b1 ≠ s ∧ m ≠ s ∧ m ≠ b0 ∧ m ≠ b1 ∧ s ≠ b0 ∧ s ≠ b1 ∧ b0 ≠ b1 := by have := HB.out; omega
   have hi0 := khi.get (HKH.out.get HF.out.2.2.1 fun x => x) hnb.1
   have hi1 := khi.get (HKH.out.get HF.out.2.1 fun x => x) hnb.2.1
   have him := khi.get (HKH.out.get HF.out.2.2.2.1 fun x => x) hnb.2.2.1
   have c0i : wi.cell? ⟨b0, 0, none⟩ = some (.pointer (some ⟨s, 0, none⟩)) := cell_at hi0 0
   have c1i : wi.cell? ⟨b1, 0, none⟩ = some (.int .i64 0) := cell_at hi1 0
   have z0i := free_at hi0 0
   have z1i := free_at hi1 0
   have l0i := get_lt hi0
   have l1i := get_lt hi1
   have n01 : ¬ b0 = b1 := hnb.2.2.2.2.2.2.2
   have n10 : ¬ b1 = b0 := fun e => n01 e.symm
   have HI := Lib.hid (And.intro his (And.intro hi0 (And.intro hi1 (And.intro him (And.intro khi hnb)))))
   rw [← hwi]
   clear hwi khi his hnb hi0 hi1 him c5 z5 lh HHS
   go_wp2_with fail
   obtain ⟨wj, hwj⟩ : ∃ W, W = (wi.setCell ⟨b0, 0, none⟩ (.pointer (some ⟨s, 0, none⟩))).setCell ⟨b1, 0, none⟩ (.int .i64 0) := ⟨_, rfl⟩
   rw [← hwj]
   have kij : Kp (fun i => i = b0 ∨ i = b1) wi wj := by
    rw [hwj]
    exact ((Kp.refl (fun i => i = b0 ∨ i = b1) wi).setCell (p := ⟨b0, 0, none⟩) (.inl (.inl rfl)) _).setCell (p := ⟨b1, 0, none⟩) (.inl (.inr rfl)) _
   obtain ⟨his, hi0, hi1, him, khi, hnb⟩ := HI.out
   have h0a := set_at hi0 0 (.pointer (some ⟨s, 0, none⟩))
   have h0b := set_far h0a (p := ⟨b1, 0, none⟩) hnb.2.2.2.2.2.2.2 (.int .i64 0)
   have h1a := set_far hi1 (p := ⟨b0, 0, none⟩) (fun e => hnb.2.2.2.2.2.2.2 e.symm) (.pointer (some ⟨s, 0, none⟩))
   have h1b := set_at h1a 0 (.int .i64 0)
   rw [← hwj] at h0b h1b
   refine sopen_done (cell_at h0b 0) (cell_at h1b 0) _ rfl rfl _ ?_
   have hjs := kij.get his fun h => h.elim hnb.2.2.2.2.2.1 hnb.2.2.2.2.2.2.1
   have hjm := kij.get him fun h => h.elim hnb.2.2.2.1 hnb.2.2.2.2.1
   have hnew : ∀ k, k = s ∨ k = b0 ∨ k = b1 ∨ k = m → w.heap.size ≤ k := fun k hk => by
    have := HB.out
    omega
   have hFw : ∀ k, F1 k → k ≠ s ∧ k ≠ b0 ∧ k ≠ b1 := fun k hk => by
    have := HF.out.2.2.2.2.2.2.2.2 k hk
    exact ⟨this.1, this.2.2.1, this.2.2.2⟩
   have hGw : ∀ k, G1 k → k ≠ s ∧ k ≠ b0 ∧ k ≠ b1 := fun k hk => by
    have := HF.out.2.2.2.2.2.2.1 k hk
    exact ⟨this.2.1, this.2.2.2.1, this.2.2.2.2⟩
   have hW1 := (HF.out.2.2.2.2.1.no HKH.out).keepS khi (fun k hk e => (hFw k hk).1 e) (fun k hk e => (hGw k hk).1 e)
   have hW2 := hW1.keepS kij (fun k hk e => e.elim (hFw k hk).2.1 (hFw k hk).2.2) (fun k hk e => e.elim (hGw k hk).2.1 (hGw k hk).2.2)
   refine ⟨s, l, m, F1, G1, rfl, ⟨opn_stc hjs hjm, HQ.out ▸ hW2, fun i hi hf => ?_, fun i hi hf => ?_⟩, HF.out.2.2.2.2.2.1, fun k hk => (HF.out.2.2.2.2.2.2.1 k hk).1, fun k hk => ?_, ?_⟩
   ·rcases opn_stf hi with e | e
    ·exact (HF.out.2.2.2.2.2.2.2.2 i hf).1 e
    ·exact (HF.out.2.2.2.2.2.2.2.2 i hf).2.1 e
   ·rcases opn_stf hi with e | e
    ·exact (HF.out.2.2.2.2.2.2.1 i hf).2.1 e
    ·exact (HF.out.2.2.2.2.2.2.1 i hf).2.2.1 e
   ·rcases opn_stf hk with e | e
    ·exact hnew k (.inl e)
    ·exact hnew k (.inr (.inr (.inr e)))
   ·refine ((HF.out.2.2.2.2.2.2.2.1.trans_no HKH.out).trans khi fun i hi e => ?_).trans kij fun i hi e => ?_
    ·have := hnew i (.inl e)
     omega
    ·have := hnew i (e.elim (fun e => .inr (.inl e)) fun e => .inr (.inr (.inl e)))
     omega
end Go.Proofs.YtgnkmjeoaoongaaGreatDoor

