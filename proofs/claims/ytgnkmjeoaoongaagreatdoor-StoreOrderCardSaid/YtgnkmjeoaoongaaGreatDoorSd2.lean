/-
  Texts laid together: SNothing, Good, SArgs, WLaid.
-/
import Derived.Test.YtgnkmjeoaoongaaGreatDoorSd1
import Derived.Test.YtgnkmjeoaoongaaGreatDoorSb1
import Derived.Deep.Slices
import Derived.ChangeSame
import Derived.Test.YtgnkmjeoaoongaaGreatDoorSa2
import Derived.Test.YtgnkmjeoaoongaaGreatDoorRows
import Derived.Lib.SmallJoins
import Derived.Stop.LaidErr
import Derived.LaidMore
import Derived.OpenShut
import Derived.Stop.Joined
import Derived.Lay
namespace Go.Proofs.YtgnkmjeoaoongaaGreatDoor
open Go.RowKit Go.Mer
set_option maxRecDepth 100000 in
set_option maxHeartbeats 4000000 in
theorem snothing_any (w : World) (hpow : Pow w) (x : RecR) (t1 t2 n : Int) :
  Calls Tryz.prog 9 #[recV x, stv t1 t2, .int .i64 n] w fun e w' => e = .returned (.bool true) ∧ Kp No w w' := by
 obtain ⟨⟨o, sq, key, ⟨m, c, o2, val, gone, ttl⟩⟩, a, cap⟩ := x
 unfold recV recC RecR.sl stv
 simp only
 obtain ⟨vl, hvl⟩ : ∃ vl, vl = val.length := ⟨_, rfl⟩
 rw [← hvl]
 clear hvl
 have HPW := Lib.hid hpow
 obtain ⟨w2, hw2⟩ : ∃ W, W = (w.alloc (.cells #[.int .i64 o, .int .i64 sq, .string key, .int .i64 m, .int .i64 c, .int .i64 o2, .slice a vl cap, .bool gone, .int .i64 ttl] 46)).alloc (.cells #[.int .i64 t1, .int .i64 t2] 25) := ⟨_, rfl⟩
 have k2 : Kp No w w2 := by rw [hw2]; exact ((Kp.refl _ _).alloc _).alloc _
 have g0 : w2.heap[w.heap.size]? = some (.cells #[.int .i64 o, .int .i64 sq, .string key, .int .i64 m, .int .i64 c, .int .i64 o2, .slice a vl cap, .bool gone, .int .i64 ttl] 46 (0, 0)) := by rw [hw2]; exact alloc_far (heap_alloc_new w _) _
 have g1 : w2.heap[w.heap.size + 1]? = some (.cells #[.int .i64 t1, .int .i64 t2] 25 (0, 0)) := by rw [hw2]; exact (congrArg (fun k => ((w.alloc _).alloc _).heap[k]?) (by simp)).trans (heap_alloc_new (w.alloc _) _)
 obtain ⟨b0, hb0⟩ : ∃ b, b = w.heap.size := ⟨_, rfl⟩
 rw [← hb0] at g0 g1
 obtain ⟨b1, hb1⟩ : ∃ b, b = b0 + 1 := ⟨_, rfl⟩
 rw [← hb1] at g1
 have H2 := Lib.hid (And.intro k2 (And.intro g0 g1))
 have HW2 := Lib.hid hw2
 have HB0 := Lib.hid hb0
 have HB1 := Lib.hid hb1
 clear k2 g0 g1 hw2 hb0 hb1 hpow
 have qa : w2.cell? ⟨b0, 2, none⟩ = some (.string key) := cell_at H2.out.2.1 2
 have qv : w2.cell? ⟨b0, 6, none⟩ = some (.slice a vl cap) := cell_at H2.out.2.1 6
 have qd := get_lt H2.out.2.1
 by_cases hl1 : 12000 < vl
 ·have e1 : decide ((12000 : Int) < (vl : Int)) = true := decide_eq_true (by omega)
  have e1' : decide (12000 < vl) = true := decide_eq_true hl1
  clear hl1
  go_enter Tryz.func9, Tryz.ntmps9
  go_upto_region 1 with fail
  rw [← HB0.out, ← HB1.out, ← HW2.out]
  go_wp2_with fail
  go_ret
  exact ⟨rfl, H2.out.1⟩
 have e1 : decide ((12000 : Int) < (vl : Int)) = false := decide_eq_false (by omega)
 have e1' : decide (12000 < vl) = false := decide_eq_false hl1
 by_cases hl2 : 12000 < key.size
 ·have e2 : decide ((12000 : Int) < (key.size : Int)) = true := decide_eq_true (by omega)
  have e2' : decide (12000 < key.size) = true := decide_eq_true hl2
  clear hl1 hl2
  go_enter Tryz.func9, Tryz.ntmps9
  go_upto_region 1 with fail
  rw [← HB0.out, ← HB1.out, ← HW2.out]
  go_wp2_with fail
  go_ret
  exact ⟨rfl, H2.out.1⟩
 have e2 : decide ((12000 : Int) < (key.size : Int)) = false := decide_eq_false (by omega)
 have e2' : decide (12000 < key.size) = false := decide_eq_false hl2
 clear hl1 hl2
 go_enter Tryz.func9, Tryz.ntmps9
 go_upto_region 1 with fail
 rw [← HB0.out, ← HB1.out, ← HW2.out]
 go_wp2_with fail
 refine (applied_nil n w2).mono ?_
 rintro e w3 ⟨rfl, k3⟩
 clear qa qv qd
 have H3 := Lib.hid (And.intro (H2.out.1.trans_same k3) (And.intro (k3.get H2.out.2.1 fun x => x) (k3.get H2.out.2.2 fun x => x)))
 have qa : w3.cell? ⟨b0, 2, none⟩ = some (.string key) := cell_at H3.out.2.1 2
 have qb : w3.cell? ⟨b1, 0, none⟩ = some (.int .i64 t1) := cell_at H3.out.2.2 0
 have qc : w3.cell? ⟨b1, 1, none⟩ = some (.int .i64 t2) := cell_at H3.out.2.2 1
 have qd := get_lt H3.out.2.1
 have qe := get_lt H3.out.2.2
 go_upto_region 5 with fail
 obtain ⟨b2, hb2⟩ : ∃ b, b = w3.heap.size := ⟨_, rfl⟩
 obtain ⟨w4, hw4⟩ : ∃ W, W = w3.alloc (.cells #[.int .i64 0, .int .i64 0] 25) := ⟨_, rfl⟩
 have k4 : Kp No w3 w4 := by rw [hw4]; exact (Kp.refl _ _).alloc _
 have g2 : w4.heap[b2]? = some (.cells #[.int .i64 0, .int .i64 0] 25 (0, 0)) := by rw [hw4, hb2]; exact heap_alloc_new w3 _
 rw [← hw4, ← hb2]
 clear qa qb qc qd qe hw4 hb2
 have H4 := Lib.hid (And.intro (H3.out.1.trans_same k4) (And.intro (k4.get H3.out.2.1 fun x => x) (k4.get H3.out.2.2 fun x => x)))
 have qa : w4.cell? ⟨b0, 2, none⟩ = some (.string key) := cell_at H4.out.2.1 2
 have qb : w4.cell? ⟨b1, 0, none⟩ = some (.int .i64 t1) := cell_at H4.out.2.2 0
 have qc : w4.cell? ⟨b1, 1, none⟩ = some (.int .i64 t2) := cell_at H4.out.2.2 1
 have qd := get_lt H4.out.2.1
 have qe := get_lt H4.out.2.2
 have HG4 := Lib.hid g2
 clear g2 k3 k4
 go_wp2_with fail
 refine (get_nil key t1 t2 w4).mono ?_
 rintro e w5 ⟨rfl, k5⟩
 clear qa qb qc qd qe
 have H5 := Lib.hid (And.intro (H4.out.1.trans_same k5) (And.intro (k5.get H4.out.2.1 fun x => x) (k5.get H4.out.2.2 fun x => x)))
 have qa : w5.cell? ⟨b0, 2, none⟩ = some (.string key) := cell_at H5.out.2.1 2
 have qb : w5.cell? ⟨b1, 0, none⟩ = some (.int .i64 t1) := cell_at H5.out.2.2 0
 have qc : w5.cell? ⟨b1, 1, none⟩ = some (.int .i64 t2) := cell_at H5.out.2.2 1
 have qd := get_lt H5.out.2.1
 have qe := get_lt H5.out.2.2
 have HG5 := Lib.hid (k5.get HG4.out fun x => x)
 clear k5
 go_wp2_with fail
 refine (scan_nil key _ t1 t2 n w5).mono ?_
 rintro e w6 ⟨rfl, k6⟩
 clear qa qb qc qd qe
 have H6 := Lib.hid (And.intro (H5.out.1.trans_same k6) (And.intro (k6.get H5.out.2.1 fun x => x) (k6.get H5.out.2.2 fun x => x)))
 have qa : w6.cell? ⟨b0, 2, none⟩ = some (.string key) := cell_at H6.out.2.1 2
 have qb : w6.cell? ⟨b1, 0, none⟩ = some (.int .i64 t1) := cell_at H6.out.2.2 0
 have qc : w6.cell? ⟨b1, 1, none⟩ = some (.int .i64 t2) := cell_at H6.out.2.2 1
 have qd := get_lt H6.out.2.1
 have qe := get_lt H6.out.2.2
 have HG6 := Lib.hid (k6.get HG5.out fun x => x)
 clear k6
 go_wp2_with fail
 refine (trim_nil t1 t2 w6).mono ?_
 rintro e w7 ⟨rfl, k7⟩
 clear qa qb qc qd qe
 have H7 := Lib.hid (And.intro (H6.out.1.trans_same k7) (And.intro (k7.get H6.out.2.1 fun x => x) (k7.get H6.out.2.2 fun x => x)))
 have qa : w7.cell? ⟨b0, 2, none⟩ = some (.string key) := cell_at H7.out.2.1 2
 have qb : w7.cell? ⟨b1, 0, none⟩ = some (.int .i64 t1) := cell_at H7.out.2.2 0
 have qc : w7.cell? ⟨b1, 1, none⟩ = some (.int .i64 t2) := cell_at H7.out.2.2 1
 have qd := get_lt H7.out.2.1
 have qe := get_lt H7.out.2.2
 have HG7 := Lib.hid (k7.get HG6.out fun x => x)
 clear k7
 go_wp2_with fail
 refine (keys_nil w7).mono ?_
 rintro e w8 ⟨rfl, k8⟩
 clear qa qb qc qd qe
 have H8 := Lib.hid (And.intro (H7.out.1.trans_same k8) (And.intro (k8.get H7.out.2.1 fun x => x) (k8.get H7.out.2.2 fun x => x)))
 have qa : w8.cell? ⟨b0, 2, none⟩ = some (.string key) := cell_at H8.out.2.1 2
 have qb : w8.cell? ⟨b1, 0, none⟩ = some (.int .i64 t1) := cell_at H8.out.2.2 0
 have qc : w8.cell? ⟨b1, 1, none⟩ = some (.int .i64 t2) := cell_at H8.out.2.2 1
 have qd := get_lt H8.out.2.1
 have qe := get_lt H8.out.2.2
 have HG8 := Lib.hid (k8.get HG7.out fun x => x)
 clear k8
 go_wp2_with fail
 refine (age_nil w8).mono ?_
 rintro e w9 ⟨rfl, k9⟩
 clear qa qb qc qd qe
 have H9 := Lib.hid (And.intro (H8.out.1.trans_same k9) (And.intro (k9.get H8.out.2.1 fun x => x) (k9.get H8.out.2.2 fun x => x)))
 have qa : w9.cell? ⟨b0, 2, none⟩ = some (.string key) := cell_at H9.out.2.1 2
 have qb : w9.cell? ⟨b1, 0, none⟩ = some (.int .i64 t1) := cell_at H9.out.2.2 0
 have qc : w9.cell? ⟨b1, 1, none⟩ = some (.int .i64 t2) := cell_at H9.out.2.2 1
 have qd := get_lt H9.out.2.1
 have qe := get_lt H9.out.2.2
 have HG9 := Lib.hid (k9.get HG8.out fun x => x)
 clear k9
 go_wp2_with fail
 refine (sOpen_nodisk _ _ w9).mono ?_
 rintro e w10 ⟨rfl, k10⟩
 clear qa qb qc qd qe
 have H10 := Lib.hid (And.intro (H9.out.1.trans_same k10) (And.intro (k10.get H9.out.2.1 fun x => x) (k10.get H9.out.2.2 fun x => x)))
 have qa : w10.cell? ⟨b0, 2, none⟩ = some (.string key) := cell_at H10.out.2.1 2
 have qb : w10.cell? ⟨b1, 0, none⟩ = some (.int .i64 t1) := cell_at H10.out.2.2 0
 have qc : w10.cell? ⟨b1, 1, none⟩ = some (.int .i64 t2) := cell_at H10.out.2.2 1
 have qd := get_lt H10.out.2.1
 have qe := get_lt H10.out.2.2
 have HG10 := Lib.hid (k10.get HG9.out fun x => x)
 clear k10
 go_wp2_with fail
 refine (forget_nil n w10).mono ?_
 rintro e w11 ⟨rfl, k11⟩
 clear qa qb qc qd qe
 have H11 := Lib.hid (And.intro (H10.out.1.trans_same k11) (And.intro (k11.get H10.out.2.1 fun x => x) (k11.get H10.out.2.2 fun x => x)))
 have qa : w11.cell? ⟨b0, 2, none⟩ = some (.string key) := cell_at H11.out.2.1 2
 have qb : w11.cell? ⟨b1, 0, none⟩ = some (.int .i64 t1) := cell_at H11.out.2.2 0
 have qc : w11.cell? ⟨b1, 1, none⟩ = some (.int .i64 t2) := cell_at H11.out.2.2 1
 have qd := get_lt H11.out.2.1
 have qe := get_lt H11.out.2.2
 have HG11 := Lib.hid (k11.get HG10.out fun x => x)
 clear k11
 have z0 : w11.cell? ⟨b2, 0, none⟩ = some (.int .i64 0) := cell_at HG11.out 0
 have z1 : w11.cell? ⟨b2, 1, none⟩ = some (.int .i64 0) := cell_at HG11.out 1
 have zl := get_lt HG11.out
 have y0 : w11.cell? ⟨b0, 0, none⟩ = some (.int .i64 o) := cell_at H11.out.2.1 0
 have y1 : w11.cell? ⟨b0, 1, none⟩ = some (.int .i64 sq) := cell_at H11.out.2.1 1
 have y3 : w11.cell? ⟨b0, 3, none⟩ = some (.int .i64 m) := cell_at H11.out.2.1 3
 have y4 : w11.cell? ⟨b0, 4, none⟩ = some (.int .i64 c) := cell_at H11.out.2.1 4
 have y5 : w11.cell? ⟨b0, 5, none⟩ = some (.int .i64 o2) := cell_at H11.out.2.1 5
 have y6 : w11.cell? ⟨b0, 6, none⟩ = some (.slice a vl cap) := cell_at H11.out.2.1 6
 have y7 : w11.cell? ⟨b0, 7, none⟩ = some (.bool gone) := cell_at H11.out.2.1 7
 have y8 : w11.cell? ⟨b0, 8, none⟩ = some (.int .i64 ttl) := cell_at H11.out.2.1 8
 go_wp2_with fail
 obtain ⟨w12, hw12⟩ : ∃ W, W = w11.alloc (.cells #[.int .i64 o, .int .i64 sq, .string key, .int .i64 m, .int .i64 c, .int .i64 o2, .slice a vl cap, .bool gone, .int .i64 ttl] 46) := ⟨_, rfl⟩
 have k12 : Kp No w11 w12 := by rw [hw12]; exact (Kp.refl _ _).alloc _
 rw [← hw12]
 have HK12 := Lib.hid (H11.out.1.trans_same k12)
 clear z0 z1 zl y0 y1 y3 y4 y5 y6 y7 y8 qa qb qc qd qe hw12 k12
 refine (put_nil _ 1 1 w12).mono ?_
 rintro e w13 ⟨rfl, k13⟩
 have HK13 := Lib.hid (HK12.out.trans_same k13)
 clear k13
 go_wp2_with fail
 refine (compact_nil w13).mono ?_
 rintro e w14 ⟨rfl, k14⟩
 have HK14 := Lib.hid (HK13.out.trans_same k14)
 clear k14
 go_wp2_with fail
 refine (mark_nil w14).mono ?_
 rintro e w15 ⟨rfl, k15⟩
 have HK15 := Lib.hid (HK14.out.trans_same k15)
 clear k15
 simp only [stv]
 go_wp2_with fail
 refine (kept_nil 0 5 w15).mono ?_
 rintro e w16 ⟨rfl, k16⟩
 have HK16 := Lib.hid (HK15.out.trans_same k16)
 clear k16
 have HKN := Lib.hid (s16known_any w16 (HPW.out.keep HK16.out))
 go_wp2_with fail
 refine HKN.out.mono ?_
 rintro e w17 ⟨rfl, k17⟩
 have HK17 := Lib.hid (HK16.out.trans_same k17)
 clear k17
 go_wp2_with fail
 go_ret
 exact ⟨rfl, HK17.out⟩
end Go.Proofs.YtgnkmjeoaoongaaGreatDoor
namespace Go.Mer
open Go.ChangeShapes Go.WideShapes Go.RowKit Go.Deep
section
variable {H : Type} {enc : TypeId × Value → H} {P : Program} {W : World}
def Opn (P : Program) (W : World) : Nat → TypeId → List Value → Prop
 | 0, _, _ => False
 | n + 1, t, cs => match P.underlying t with
  | some .bool => ∃ b, cs = [.bool b]
  | some (.int k) => ∃ x, cs = [.int k x] ∧ (Lit.int k x).wf = true
  | some .string => ∃ s : ByteArray, cs = [.string s] ∧ s.size ≤ 140737488351232
  | some (.slice e) => ∃ (a : Option Addr) (len cap : Nat), cs = [.slice a len cap] ∧ len ≤ cap ∧ cap * P.bytesOf e ≤ 140737488351232 ∧
    (0 < P.cellsOf e → ∀ i, i < len → ∃ (g off : Nat) (cs' : List Value), a = some ⟨g, off, none⟩ ∧ g < W.heap.size ∧ cs'.length = P.cellsOf e ∧
     (∀ j, j < P.cellsOf e → W.cell? ⟨g, off + i * P.cellsOf e + j, none⟩ = cs'[j]?) ∧ Opn P W n e cs')
  | some (.struct fs) => cs.length = P.cellsOf t ∧ ∀ (i : Nat) (f : Field), fs[i]? = some f → Opn P W n f.type ((cs.drop f.offset).take (P.cellsOf f.type))
  | _ => True
theorem weightsEach_mem {ts : List TypeId} {ds : List (DataW H)} {j : Nat} {t : TypeId} {d : DataW H} (ht : ts[j]? = some t) (hd : ds[j]? = some d) : ∀ n ∈ d.weights P t, n ∈ DataW.weightsEach P ts ds :=
 fun n hn => DataW.weights_mem_each ht hd n hn
theorem good_of_trod : ∀ {n : Nat} {t : TypeId} {cs : List Value} {d : DataW H} {ps : List MemPlace}, DataW.trod enc P W 0 (fun _ => true) true n t cs = some (d, ps) → (∀ m ∈ d.weights P t, m ≤ reachBytes) → Opn P W n t cs
 | 0, t, cs, d, ps, h, _ => by simp [DataW.trod] at h
 | n + 1, t, cs, d, ps, h, hw => by
  unfold Opn
  cases hu : P.underlying t with
  | none => trivial
  | some u =>
   cases u with
   | bool =>
    obtain ⟨b, hb, _⟩ := DataW.trod_bool hu h
    exact ⟨b, hb⟩
   | int k =>
    obtain ⟨x, hx, _, hwf⟩ := DataW.trod_int hu h
    exact ⟨x, hx, hwf⟩
   | string =>
    obtain ⟨s, hs, hd, _⟩ := DataW.trod_string hu h
    injection hd with hd _
    subst hd
    refine ⟨s, hs, ?_⟩
    have := hw s.data.toList.length (by simp [DataW.weights])
    have e : s.data.toList.length = s.size := Array.length_toList
    rw [e, reach_is] at this
    exact this
   | slice e =>
    rcases open_slice hu h with ⟨hcs, _⟩ | ⟨a, len, cap, m, n', D, Pl, hcs, _, hl, _, hm, hx, hi⟩
    ·exact ⟨none, 0, 0, hcs, Nat.le_refl _, by simp, fun _ i hi => by omega⟩
    ·simp only [if_true] at hm
     subst hm
     injection hx with hd _
     subst hd
     refine ⟨some a, len, m, hcs, hl, ?_, fun hz i hil => ?_⟩
     ·have := hw _ (by simp only [DataW.weights, hu]; exact List.mem_cons_self ..)
      simp only [List.length_map, List.length_range, reach_is] at this
      rwa [show len + (m - len) = m by omega] at this
     ·rcases DataW.trod_slice hu h with ⟨hcs', _⟩ | ⟨a', len', cap', elems, rest, n2, hn2, hcs', hx', _, _, _, hlen, hel, _, _⟩
      ·rw [hcs'] at hcs
       simp at hcs
      ·rw [hcs'] at hcs
       injection hcs with hcs
       injection hcs with e1 e2 e3
       injection e1 with e1
       subst e1; subst e2; subst e3
       obtain rfl : n = n2 := by omega
       have h1 := hel i hil
       rw [List.getElem?_eq_getElem (by omega)] at h1
       obtain ⟨cs', h2, h3⟩ := Option.bind_eq_some_iff.1 h1
       obtain ⟨_, hl', hat⟩ := World.cells?_some h2
       have hgood : Opn P W n e cs' := good_of_trod (d := (elems[i]'(by omega)).1) (ps := (elems[i]'(by omega)).2) h3 (fun m' hm' => by
        refine hw m' ?_
        injection hx' with hx' _
        rw [hx']
        simp only [DataW.weights, hu]
        refine List.mem_cons_of_mem _ (List.mem_append_left _ ?_)
        exact weightsAll_mem' (d := (elems[i]'(by omega)).1) (List.mem_map.2 ⟨_, List.getElem_mem (by omega), rfl⟩) _ hm')
       have hc0 := hat 0 hz
       rw [List.getElem?_eq_getElem (by omega), Go.Deep.add_add] at hc0
       obtain ⟨g, off, spot⟩ := a'
       have hs : spot = none := by
        have k1 := hel 0 (by omega)
        rw [List.getElem?_eq_getElem (by omega)] at k1
        obtain ⟨cs0, k2, _⟩ := Option.bind_eq_some_iff.1 k1
        obtain ⟨_, k3, k4⟩ := World.cells?_some k2
        have k5 := k4 0 hz
        rw [List.getElem?_eq_getElem (by omega), Go.Deep.add_add] at k5
        simpa [Addr.add] using World.cell?_spot k5
       subst hs
       have hg := World.block_lt_of_cell? W _ hc0
       refine ⟨g, off, cs', rfl, by (have := hg; rw [add_lit'] at this; exact this), hl', fun j hj => ?_, hgood⟩
       have := hat j hj
       rw [Go.Deep.add_add, add_lit'] at this
       rw [Nat.add_assoc]
       exact this
   | struct fs =>
    obtain ⟨xs, n', hn', hx, hl, hlx, hf⟩ := DataW.trod_struct hu h
    obtain rfl : n = n' := by omega
    refine ⟨hl, fun i f hi => ?_⟩
    have h1 := hf i f hi
    have hil : i < fs.size := (Array.getElem?_eq_some_iff.1 hi).1
    rw [List.getElem?_eq_getElem (by omega)] at h1
    refine good_of_trod (d := (xs[i]'(by omega)).1) (ps := (xs[i]'(by omega)).2) h1 (fun m hm => hw m ?_)
    injection hx with hx _
    rw [hx]
    simp only [DataW.weights, hu]
    exact weightsEach_mem (j := i) (t := f.type) (by simp [hi]) (by simp [List.getElem?_eq_getElem (show i < xs.length by omega)]) _ hm
   | _ => trivial
theorem open_list {R : Type} {n c : Nat} {t e : TypeId} {a : Option Addr} {len cap : Nat} (h : Opn P W (n + 1) t [.slice a len cap]) (ht : P.underlying t = some (.slice e)) (he : P.cellsOf e = c) (hc : 0 < c) (f : R → List Value) (Q : R → Prop) (hf : ∀ r, (f r).length = c)
  (hone : ∀ cs, Opn P W n e cs → ∃ r, cs = f r ∧ Q r) : ∃ L : List R, L.length = len ∧ Rd W W.heap.size a (L.flatMap f) ∧ (∀ r ∈ L, Q r) ∧ len ≤ cap ∧ cap * P.bytesOf e ≤ 140737488351232 := by
 unfold Opn at h
 rw [ht] at h
 obtain ⟨a', len', cap', hcs, hl, hr, hrow⟩ := h
 injection hcs with hcs
 injection hcs with e1 e2 e3
 subst e1; subst e2; subst e3
 rw [he] at hrow
 have hget : ∀ i, i < len → ∃ r, Q r ∧ ∃ g off, a = some ⟨g, off, none⟩ ∧ g < W.heap.size ∧ ∀ j, j < c → W.cell? ⟨g, off + i * c + j, none⟩ = (f r)[j]? := fun i hi => by
  obtain ⟨g, off, cs', h1, h2, h3, h4, h5⟩ := hrow hc i hi
  obtain ⟨r, rfl, hq⟩ := hone cs' h5
  exact ⟨r, hq, g, off, h1, h2, h4⟩
 by_cases h0 : len = 0
 ·subst h0
  exact ⟨[], rfl, Rd.nil _ _ _, by simp, hl, hr⟩
 ·obtain ⟨r0, _, _⟩ := hget 0 (by omega)
  obtain ⟨F, hF⟩ : ∃ F : Nat → R, ∀ i, i < len → Q (F i) ∧ ∃ g off, a = some ⟨g, off, none⟩ ∧ g < W.heap.size ∧ ∀ j, j < c → W.cell? ⟨g, off + i * c + j, none⟩ = (f (F i))[j]? := by
   refine ⟨fun i => if h : i < len then Classical.choose (hget i h) else r0, fun i hi => ?_⟩
   simp only [dif_pos hi]
   exact Classical.choose_spec (hget i hi)
  refine ⟨(List.range len).map F, by simp, fun hx => ?_, fun r hr => ?_, hl, hr⟩
  ·obtain ⟨_, g, off, h1, h2, _⟩ := hF 0 (by omega)
   refine ⟨g, off, h1, h2, Nat.le_refl _, fun j u hu => ?_⟩
   have hlen : ∀ m, (((List.range m).map F).flatMap f).length = m * c := fun m => by
    induction m with
    | zero => simp
    | succ m ih => rw [List.range_succ, List.map_append, List.flatMap_append, List.length_append, ih, Nat.add_mul]; simp [hf]
   have hj : j < len * c := by rw [← hlen len]; exact (List.getElem?_eq_some_iff.1 hu).1
   have hi : j / c < len := (Nat.div_lt_iff_lt_mul hc).2 hj
   obtain ⟨_, g', off', h3, _, h4⟩ := hF (j / c) hi
   rw [h1] at h3
   injection h3 with h3
   injection h3 with e1 e2 _
   subst e1; subst e2
   have h5 := h4 (j % c) (Nat.mod_lt _ hc)
   rw [Nat.add_assoc, Nat.mul_comm, Nat.div_add_mod] at h5
   rw [h5]
   have hsplit : ((List.range len).map F).flatMap f = ((List.range (j / c)).map F).flatMap f ++ (f (F (j / c)) ++ (((List.range len).map F).drop (j / c + 1)).flatMap f) := by
    have e1 : (List.range len).map F = (List.range (j / c)).map F ++ (F (j / c) :: ((List.range len).map F).drop (j / c + 1)) := by
     have hl' : j / c < ((List.range len).map F).length := by simpa using hi
     have hd := List.drop_eq_getElem_cons hl'
     have ht := (List.take_append_drop (j / c) ((List.range len).map F)).symm
     rw [hd, List.getElem_map, List.getElem_range, ← List.map_take, List.take_range, Nat.min_eq_left (by omega)] at ht
     exact ht
    conv => lhs; rw [e1]
    rw [List.flatMap_append, List.flatMap_cons]
   rw [hsplit, List.getElem?_append_right (by rw [hlen]; rw [Nat.mul_comm]; exact Nat.mul_div_le j c), hlen] at hu
   have e2 : j - j / c * c = j % c := by rw [Nat.mul_comm]; have := Nat.div_add_mod j c; omega
   rw [e2, List.getElem?_append_left (by rw [hf]; exact Nat.mod_lt _ hc)] at hu
   exact hu
  ·obtain ⟨i, hi, rfl⟩ := List.mem_map.1 hr
   exact (hF i (List.mem_range.1 hi)).1
theorem good_int {n : Nat} {t : TypeId} {k : IntKind} {cs : List Value} (h : Opn P W n t cs) (ht : P.underlying t = some (.int k)) : ∃ x, cs = [.int k x] ∧ (Lit.int k x).wf = true := by
 cases n with
 | zero => exact h.elim
 | succ n => unfold Opn at h; rw [ht] at h; exact h
theorem good_i64 {n : Nat} {t : TypeId} {cs : List Value} (h : Opn P W n t cs) (ht : P.underlying t = some (.int .i64)) : ∃ x, cs = [.int .i64 x] ∧ -9223372036854775808 ≤ x ∧ x ≤ 9223372036854775807 := by
 obtain ⟨x, h1, h2⟩ := good_int h ht
 have a1 : IntKind.i64.min = -9223372036854775808 := rfl
 have a2 : IntKind.i64.max = 9223372036854775807 := rfl
 simp only [Lit.wf, Bool.and_eq_true, decide_eq_true_eq, a1, a2] at h2
 exact ⟨x, h1, h2⟩
theorem good_bool {n : Nat} {t : TypeId} {cs : List Value} (h : Opn P W n t cs) (ht : P.underlying t = some .bool) : ∃ x, cs = [.bool x] := by
 cases n with
 | zero => exact h.elim
 | succ n => unfold Opn at h; rw [ht] at h; exact h
theorem good_string {n : Nat} {t : TypeId} {cs : List Value} (h : Opn P W n t cs) (ht : P.underlying t = some .string) : ∃ s : ByteArray, cs = [.string s] ∧ s.size ≤ 140737488351232 := by
 cases n with
 | zero => exact h.elim
 | succ n => unfold Opn at h; rw [ht] at h; exact h
theorem good_slice {n : Nat} {t e : TypeId} {cs : List Value} (h : Opn P W n t cs) (ht : P.underlying t = some (.slice e)) : ∃ n' a len cap, n = n' + 1 ∧ cs = [.slice a len cap] := by
 cases n with
 | zero => exact h.elim
 | succ n =>
  unfold Opn at h
  rw [ht] at h
  obtain ⟨a, len, cap, rfl, _⟩ := h
  exact ⟨n, a, len, cap, rfl, rfl⟩
theorem good_struct {n : Nat} {t : TypeId} {fs : Array Field} {cs : List Value} (h : Opn P W n t cs) (ht : P.underlying t = some (.struct fs)) :
  ∃ n', n = n' + 1 ∧ cs.length = P.cellsOf t ∧ ∀ (i : Nat) (f : Field), fs[i]? = some f → Opn P W n' f.type ((cs.drop f.offset).take (P.cellsOf f.type)) := by
 cases n with
 | zero => exact h.elim
 | succ n =>
  unfold Opn at h
  rw [ht] at h
  exact ⟨n, rfl, h⟩
theorem flat_u8 : ∀ L : List UInt8, L.flatMap (fun b : UInt8 => [u8 b]) = u8s L
 | [] => rfl
 | b :: L => by rw [List.flatMap_cons, flat_u8 L]; rfl
theorem good_bytes {n : Nat} {t e : TypeId} {cs : List Value} (h : Opn P W n t cs) (ht : P.underlying t = some (.slice e)) (he : P.underlying e = some (.int .u8)) (ce : P.cellsOf e = 1) (be : P.bytesOf e = 1) :
  ∃ (a : Option Addr) (cap : Nat) (l : List UInt8), cs = [.slice a l.length cap] ∧ Rd W W.heap.size a (u8s l) ∧ l.length ≤ cap ∧ cap ≤ 140737488351232 := by
 obtain ⟨n', a, len, cap, rfl, rfl⟩ := good_slice h ht
 obtain ⟨L, rfl, hr, _, h1, h2⟩ := open_list h ht ce (by decide) (fun b : UInt8 => [u8 b]) (fun _ => True) (fun _ => rfl) (fun cs hg => by
  obtain ⟨x, rfl, hx⟩ := good_int hg he
  exact ⟨toB x, by rw [u8_toB hx], trivial⟩)
 refine ⟨a, cap, L, rfl, ?_, h1, by rw [be] at h2; omega⟩
 rwa [flat_u8] at hr
theorem good_at {n k : Nat} {fs : Array Field} {cs : List Value} (hf : ∀ (i : Nat) (f : Field), fs[i]? = some f → Opn P W n f.type ((cs.drop f.offset).take (P.cellsOf f.type))) (i : Nat) (f : Field) (hi : fs[i]? = some f) (hc : P.cellsOf f.type = k) :
  Opn P W n f.type ((cs.drop f.offset).take k) := hc ▸ hf i f hi
theorem good_arg {ts : List TypeId} {ds : List (DataW H)} (hsz : (DataW.weightsEach P ts ds).all (· ≤ reachBytes) = true) {j : Nat} {t : TypeId} {d : DataW H} (hj : ts[j]? = some t) (hd : ds[j]? = some d) {v : Value} {ps : List MemPlace}
  (h : DataW.Trod enc P W 0 (fun _ => true) true t v d ps) : ∃ n, Opn P W n t v.cells.toList := by
 obtain ⟨n, h⟩ := h
 exact ⟨n, good_of_trod h fun m hm => of_decide_eq_true (List.all_eq_true.1 hsz m (weightsEach_mem hj hd m hm))⟩
end
end Go.Mer
namespace Go.Proofs.YtgnkmjeoaoongaaGreatDoor
open Go.RowKit Go.Mer
def I64 (x : Int) : Prop := -9223372036854775808 ≤ x ∧ x ≤ 9223372036854775807
section
variable {W : World}
theorem ca_int : Tryz.prog.cellsOf 3 = 1 := by kernel_rfl
theorem ca_bool : Tryz.prog.cellsOf 4 = 1 := by kernel_rfl
theorem ca_str : Tryz.prog.cellsOf 9 = 1 := by kernel_rfl
theorem ca_bytes : Tryz.prog.cellsOf 42 = 1 := by kernel_rfl
theorem ca_stamp : Tryz.prog.cellsOf 25 = 2 := by kernel_rfl
theorem ca_ver : Tryz.prog.cellsOf 44 = 6 := by kernel_rfl
theorem ca_rec : Tryz.prog.cellsOf 46 = 9 := by kernel_rfl
theorem ba_byte : Tryz.prog.bytesOf 5 = 1 := by kernel_rfl
theorem ca_byte : Tryz.prog.cellsOf 5 = 1 := by kernel_rfl
theorem ga_int {n : Nat} {a : Value} (h : Opn Tryz.prog W n 3 [a]) : ∃ x : Int, a = .int .i64 x ∧ I64 x := by
 obtain ⟨x, e, h1⟩ := good_i64 h Tryz.underlying3
 injection e with e
 exact ⟨x, e, h1⟩
theorem ga_bool {n : Nat} {a : Value} (h : Opn Tryz.prog W n 4 [a]) : ∃ x : Bool, a = .bool x := by
 obtain ⟨x, e⟩ := good_bool h Tryz.underlying4
 injection e with e
 exact ⟨x, e⟩
theorem ga_str {n : Nat} {a : Value} (h : Opn Tryz.prog W n 9 [a]) : ∃ s : ByteArray, a = .string s ∧ s.size ≤ 140737488351232 := by
 obtain ⟨x, e, h1⟩ := good_string h Tryz.underlying9
 injection e with e
 exact ⟨x, e, h1⟩
theorem ga_bytes {n : Nat} {a : Value} (h : Opn Tryz.prog W n 42 [a]) : ∃ (b : Option Addr) (cap : Nat) (l : List UInt8), a = .slice b l.length cap ∧ Rd W W.heap.size b (u8s l) ∧ l.length ≤ cap ∧ cap ≤ 140737488351232 := by
 obtain ⟨b, cap, l, e, h1⟩ := good_bytes h Tryz.underlying42 Tryz.underlying5 ca_byte ba_byte
 injection e with e
 exact ⟨b, cap, l, e, h1⟩
set_option maxRecDepth 100000 in
theorem good_stamp {n : Nat} {cs : List Value} (h : Opn Tryz.prog W n 25 cs) : ∃ x y : Int, cs = [.int .i64 x, .int .i64 y] ∧ I64 x ∧ I64 y := by
 obtain ⟨n, rfl, hl, hf⟩ := good_struct h Tryz.underlying25
 rw [ca_stamp] at hl
 match cs, hl with
 | [a0, a1], _ =>
  obtain ⟨x, rfl, h0⟩ := ga_int (good_at hf 0 _ rfl ca_int)
  obtain ⟨y, rfl, h1⟩ := ga_int (good_at hf 1 _ rfl ca_int)
  exact ⟨x, y, rfl, h0, h1⟩
structure VerArg (W : World) (x : VerR) : Prop where
 m : I64 x.v.m
 c : I64 x.v.c
 o : I64 x.v.o
 ttl : I64 x.v.ttl
 rd : x.rd W
 cap : x.cap ≤ 140737488351232
set_option maxRecDepth 100000 in
theorem good_ver {n : Nat} {cs : List Value} (h : Opn Tryz.prog W n 44 cs) : ∃ x : VerR, cs = verC x ∧ VerArg W x := by
 obtain ⟨n, rfl, hl, hf⟩ := good_struct h Tryz.underlying44
 rw [ca_ver] at hl
 match cs, hl with
 | [a0, a1, a2, a3, a4, a5], _ =>
  obtain ⟨m, c, e01, hm, hc⟩ := good_stamp (good_at hf 0 _ rfl ca_stamp)
  have e01' : [a0, a1] = [.int .i64 m, .int .i64 c] := e01
  injection e01' with e0 e1
  injection e1 with e1
  subst e0; subst e1
  obtain ⟨o, rfl, ho⟩ := ga_int (good_at hf 1 _ rfl ca_int)
  obtain ⟨b, cap, l, rfl, h1, h2, h3⟩ := ga_bytes (good_at hf 2 _ rfl ca_bytes)
  obtain ⟨g, rfl⟩ := ga_bool (good_at hf 3 _ rfl ca_bool)
  obtain ⟨t, rfl, ht⟩ := ga_int (good_at hf 4 _ rfl ca_int)
  exact ⟨⟨⟨m, c, o, l, g, t⟩, b, cap⟩, rfl, hm, hc, ho, ht, ⟨h1, h2, by simp only [maxLen]; omega⟩, h3⟩
structure RecArg (W : World) (x : RecR) : Prop where
 o : I64 x.r.o
 seq : I64 x.r.seq
 key : x.r.key.size ≤ 140737488351232
 ver : VerArg W x.ver
set_option maxRecDepth 100000 in
theorem good_rec {n : Nat} {cs : List Value} (h : Opn Tryz.prog W n 46 cs) : ∃ x : RecR, cs = recC x ∧ RecArg W x := by
 obtain ⟨n, rfl, hl, hf⟩ := good_struct h Tryz.underlying46
 rw [ca_rec] at hl
 match cs, hl with
 | [a0, a1, a2, a3, a4, a5, a6, a7, a8], _ =>
  obtain ⟨o, rfl, ho⟩ := ga_int (good_at hf 0 _ rfl ca_int)
  obtain ⟨s, rfl, hs⟩ := ga_int (good_at hf 1 _ rfl ca_int)
  obtain ⟨k, rfl, hk⟩ := ga_str (good_at hf 2 _ rfl ca_str)
  obtain ⟨x, e, hx⟩ := good_ver (good_at hf 3 _ rfl ca_ver)
  have e' : [a3, a4, a5, a6, a7, a8] = verC x := e
  unfold verC at e'
  injection e' with e3 e'
  injection e' with e4 e'
  injection e' with e5 e'
  injection e' with e6 e'
  injection e' with e7 e'
  injection e' with e8 e'
  subst e3; subst e4; subst e5; subst e6; subst e7; subst e8
  exact ⟨⟨⟨o, s, k, x.v⟩, x.a, x.cap⟩, rfl, ho, hs, hk, hx⟩
end
end Go.Proofs.YtgnkmjeoaoongaaGreatDoor
namespace Go.Proofs.YtgnkmjeoaoongaaGreatDoor
open Go.ChangeShapes Go.WideShapes Go.ChangeAt Go.RowKit Go.Mer
theorem Tryz.own : ownKnob Tryz.prog.godebug = none := by kernel_rfl
theorem Tryz.laidOut : laidOutB Tryz.prog = true := by kernel_rfl
def Lit64 (x : Int) : Prop := -9223372036854775808 ≤ x ∧ x ≤ 9223372036854775807
section
variable {H : Type} {enc : TypeId × Value → H} {W : World} {ts : List TypeId} {ds : List (DataW H)}
set_option maxRecDepth 100000 in
theorem open_i64 {r : Reach} {b0 : Nat} (hsz : (DataW.weightsEach Tryz.prog ts ds).all (· ≤ reachBytes) = true) {j : Nat} {d : DataW H} (hj : ts[j]? = some 3) (hd : ds[j]? = some d) {v : Value} {p : List MemPlace} (hv : Value.okWide Tryz.prog W r b0 3 v)
  (h : DataW.Trod enc Tryz.prog W 0 (fun _ => true) true 3 v d p) : ∃ x : Int, v = .int .i64 x ∧ Lit64 x := by
 obtain ⟨n, hg⟩ := good_arg hsz hj hd h
 obtain ⟨x, rfl, rfl, rfl, _⟩ := open_int Tryz.underlying3 hv h
 obtain ⟨y, e1, h1⟩ := good_i64 hg Tryz.underlying3
 have e1' : [Value.int .i64 x] = [.int .i64 y] := e1
 injection e1' with e1'
 injection e1' with _ e1'
 subst e1'
 exact ⟨x, rfl, h1⟩
end
end Go.Proofs.YtgnkmjeoaoongaaGreatDoor

