/-
  disk's law DiskNames, walked: it answers true.
-/
import Derived.Test.YtenidddbjobblaaDiskList
import Derived.Test.YtenidddbjobblaaBytes
namespace Go.Proofs.Ytenidddbjobblaa
open Go.RowKit Go.Mer

set_option maxHeartbeats 400000 in
theorem texts_any (a b : Option Addr) (c d B B' : Nat) (xs ys : List ByteArray) (w : World) (hx : Rd w B a (xs.map Value.string)) (hy : Rd w B' b (ys.map Value.string)) (hm : xs.length ≤ 140737488355328) :
    Calls Try.prog 20 #[.slice a xs.length c, .slice b ys.length d] w fun e w' => e = .returned (.bool (decide (xs = ys))) ∧ ∃ n, w' = w.drewN n := by
  by_cases hl : xs.length = ys.length
  · have HL := Lib.hid hl
    rw [← hl]
    clear hl
    have HX := Lib.hid hx
    have HY := Lib.hid hy
    clear hx hy
    go_enter Try.func20, Try.ntmps20
    go_wp2_with fail
    go_loopg [5] xs.length (fun g i wr => ∃ k : Nat, k ≤ xs.length ∧ g = xs.length - k ∧ i = .int .i64 k ∧ Hid (∃ n, wr = w.drewN n) ∧ Hid (xs.take k = ys.take k))
    case atStart => exact ⟨0, Nat.zero_le _, rfl, rfl, ⟨0, rfl⟩, rfl⟩
    case round =>
      obtain ⟨k, hk, rfl, rfl, hw, ht⟩ := hrel
      by_cases hlt : k < xs.length
      · have hlt2 : k < ys.length := by have := HL.out; omega
        have hxw : Rd wr B a (xs.map Value.string) := by obtain ⟨n, rfl⟩ := hw.out; exact HX.out
        have hyw : Rd wr B' b (ys.map Value.string) := by obtain ⟨n, rfl⟩ := hw.out; exact HY.out
        obtain ⟨g, off, rfl, hg, hB, hc⟩ := hxw.at_ (i := k) (u := .string xs[k]) (by simp [hlt])
        obtain ⟨g', off', rfl, hg', hB', hc'⟩ := hyw.at_ (i := k) (u := .string ys[k]) (by simp [hlt2])
        have hgl : g < wr.heap.size := by omega
        have hgl' : g' < wr.heap.size := by omega
        have hcn : ∀ n, (wr.drewN n).cell? ⟨g, off + k, none⟩ = some (.string xs[k]) := fun _ => hc
        have hcn' : ∀ n, (wr.drewN n).cell? ⟨g', off' + k, none⟩ = some (.string ys[k]) := fun _ => hc'
        by_cases he : xs[k] = ys[k]
        · rw [← he] at hcn'
          have htk : Hid (xs.take (k + 1) = ys.take (k + 1)) := by
            show _ = _
            rw [List.take_succ_eq_append_getElem hlt, List.take_succ_eq_append_getElem hlt2, ht.out, he]
          clear he hxw hyw hc hc'
          go_wp2_with fail
          refine wp_region_ord [0,0,0,1,0,0,0,1,0] [0,1,2,4,5,6,3,7,8] (by kernel_rfl) (by kernel_rfl) ?_
          repeat (first
            | (apply wpOrd_skip rfl (by decide) rfl; (focus (go_simp; rfl)))
            | (apply wpOrd_pure rfl rfl rfl; (focus (intro _ _; go_simp; (try go_ints); rfl)); (focus (go_simp; rfl)))
            | (apply wpOrd_read rfl rfl rfl; (focus (intro _; go_simp; (try go_ints); rfl)); (focus (go_simp; rfl))))
          refine wpOrd_nil (fun nq => ?_)
          go_wp2_with fail
          go_roundg (xs.length - (k + 1))
          case measure => omega
          case rel => exact ⟨k + 1, by omega, rfl, by go_num, by obtain ⟨n, e⟩ := hw.out; exact ⟨n + nq, by rw [e, World.drewN_drewN]⟩, htk⟩
        · have hne : (xs[k].toList == ys[k].toList) = false := by rw [← beq_toListBytes]; exact beq_false_of_ne he
          have hXY : decide (xs = ys) = false := by
            simp only [decide_eq_false_iff_not]
            rintro rfl
            exact he rfl
          have HXY := Lib.hid hXY
          clear he hxw hyw hc hc' hXY
          go_wp2_with fail
          refine wp_region_ord [0,0,0,1,0,0,0,1,0] [0,1,2,4,5,6,3,7,8] (by kernel_rfl) (by kernel_rfl) ?_
          repeat (first
            | (apply wpOrd_skip rfl (by decide) rfl; (focus (go_simp; rfl)))
            | (apply wpOrd_pure rfl rfl rfl; (focus (intro _ _; go_simp; (try go_ints); rfl)); (focus (go_simp; rfl)))
            | (apply wpOrd_read rfl rfl rfl; (focus (intro _; go_simp; (try go_ints); rfl)); (focus (go_simp; rfl))))
          refine wpOrd_nil (fun nq => ?_)
          go_wp2_with fail
          go_ret
          exact ⟨(by rw [HXY.out]; try rfl), by obtain ⟨n, e⟩ := hw.out; exact ⟨n + nq, by rw [e, World.drewN_drewN]⟩⟩
      · have hXY : decide (xs = ys) = true := by
          have h1 := ht.out
          rw [List.take_of_length_le (by omega), List.take_of_length_le (by have := HL.out; omega)] at h1
          simp [h1]
        have HXY := Lib.hid hXY
        clear hXY
        go_wp2_with fail
        go_ret
        exact ⟨(by rw [HXY.out]; try rfl), hw.out⟩
  · have hXY : decide (xs = ys) = false := by
      simp only [decide_eq_false_iff_not]
      rintro rfl
      exact hl rfl
    have HXY := Lib.hid hXY
    have hne : ¬ ((xs.length : Int) = (ys.length : Int)) := by omega
    clear hx hy hl hXY
    go_enter Try.func20, Try.ntmps20
    go_wp2_with fail
    go_ret
    exact ⟨(by rw [HXY.out]; try rfl), 0, rfl⟩


/-! ### The plain law -/
def nX : ByteArray := ⟨#[120]⟩
def nY : ByteArray := ⟨#[121]⟩
def nZ : ByteArray := ⟨#[122]⟩
def big : Nat := 1048576
theorem write_fits' {s : DSt} {n : ByteArray} {p : List UInt8} (hf : s.fuse = none) (hn : nameOk n = true) (hl : s.files.length < 4096) (hr : totF s.files + p.length ≤ s.room) :
    wrS s n p = (0, ⟨s.room, none, wrFiles s.files n p⟩) := by
  have hc : wrCode s n p = 0 := by
    unfold wrCode
    rw [if_neg]
    rintro (h | ⟨_, h⟩) <;> omega
  have hn' : [n].all nameOk = true := by simpa using hn
  unfold wrS five
  rw [if_neg (by rw [hf]; simp), if_pos hn', hc, if_pos rfl, hf]
  rfl
theorem st1 (a : List UInt8) (h : a.length ≤ 1048576) : wrS ⟨1048576, none, []⟩ ⟨#[120]⟩ a = (0, ⟨1048576, none, [(⟨#[120]⟩, ⟨a, 0⟩)]⟩) := by
  rw [write_fits' rfl rfl (by simp) (by simpa [totF] using h)]
  rfl
theorem st2 (a : List UInt8) : syS ⟨1048576, none, [(⟨#[120]⟩, ⟨a, 0⟩)]⟩ ⟨#[120]⟩ = (0, ⟨1048576, none, [(⟨#[120]⟩, ⟨a, a.length⟩)]⟩) := rfl
theorem st3 (a b : List UInt8) (h : a.length + b.length ≤ 1048576) : wrS ⟨1048576, none, [(⟨#[120]⟩, ⟨a, a.length⟩)]⟩ ⟨#[120]⟩ b = (0, ⟨1048576, none, [(⟨#[120]⟩, ⟨a ++ b, a.length⟩)]⟩) := by
  rw [write_fits' rfl rfl (by simp) (by simpa [totF] using h)]
  rfl
theorem st4 (x c : List UInt8) (l : Nat) (h : x.length + c.length ≤ 1048576) : wrS ⟨1048576, none, [(⟨#[120]⟩, ⟨x, l⟩)]⟩ ⟨#[121]⟩ c = (0, ⟨1048576, none, [(⟨#[120]⟩, ⟨x, l⟩), (⟨#[121]⟩, ⟨c, 0⟩)]⟩) := by
  rw [write_fits' rfl rfl (by simp) (by simpa [totF] using h)]
  rfl
theorem st5 (x c : List UInt8) (l : Nat) : syS ⟨1048576, none, [(⟨#[120]⟩, ⟨x, l⟩), (⟨#[121]⟩, ⟨c, 0⟩)]⟩ ⟨#[120]⟩ = (0, ⟨1048576, none, [(⟨#[120]⟩, ⟨x, x.length⟩), (⟨#[121]⟩, ⟨c, 0⟩)]⟩) := rfl
theorem st6 (x c : List UInt8) (l : Nat) : mvS ⟨1048576, none, [(⟨#[120]⟩, ⟨x, l⟩), (⟨#[121]⟩, ⟨c, 0⟩)]⟩ ⟨#[120]⟩ ⟨#[121]⟩ = (0, ⟨1048576, none, [(⟨#[121]⟩, ⟨x, l⟩)]⟩) := rfl
theorem st7 (x : List UInt8) (l : Nat) : mvS ⟨1048576, none, [(⟨#[121]⟩, ⟨x, l⟩)]⟩ ⟨#[120]⟩ ⟨#[122]⟩ = (7, ⟨1048576, none, [(⟨#[121]⟩, ⟨x, l⟩)]⟩) := rfl
theorem torn_none (l : List UInt8) (a b : Nat) (t : UInt8) (h : b ≤ a) : torn l a b t = l := by
  apply List.ext_getElem?
  intro i
  simp only [torn, List.getElem?_mapIdx]
  cases l[i]? with
  | none => rfl
  | some x => simp; omega
theorem st8 (x : List UInt8) (l : Nat) : rdS (crS ⟨1048576, none, [(⟨#[121]⟩, ⟨x, l⟩)]⟩ 0 0).files ⟨#[121]⟩ = (x.take l, 0) := by
  have h : stays 0 ⟨x, l⟩ = l := by simp [stays]
  show ((crF 0 0 ⟨x, l⟩).data, (0 : Int)) = _
  unfold crF
  rw [h, torn_none _ _ _ _ (Nat.le_max_left _ _)]
theorem names_one {x : List UInt8} {l : Nat} {ss : List (List UInt8)} (h : ss.Perm ((⟨1048576, none, [(⟨#[121]⟩, ⟨x, l⟩)]⟩ : DSt).files.map (·.1.data.toList))) : namesOf ss = [⟨#[121]⟩] := by
  have : ss = [[121]] := List.perm_singleton.1 h
  subst this
  simp [namesOf]

set_option maxRecDepth 100000 in
set_option maxHeartbeats 1000000 in
theorem names_any (w : World) (a b c : List UInt8) (pa pb pc : Option Addr) (ca cb cc : Nat) (hal : a.length ≤ 140737488351232) (hbl : b.length ≤ 140737488351232) (hcl : c.length ≤ 140737488351232) (sync : Bool)
    (ha : Rd w w.heap.size pa (u8s a)) (hb : Rd w w.heap.size pb (u8s b)) (hc : Rd w w.heap.size pc (u8s c)) :
    Calls Try.prog 6 #[.slice pa a.length ca, .slice pb b.length cb, .slice pc c.length cc, .bool sync] w fun e w' => e = .returned (.bool true) ∧ Kp No w w' := by
  have HA := Lib.hid ha
  have HB := Lib.hid hb
  have HC := Lib.hid hc
  clear ha hb hc
  by_cases hn : a.length + b.length + c.length ≤ 8000
  · have hdec : decide ((8000 : Int) < (a.length : Int) + (b.length : Int) + (c.length : Int)) = false := by simp only [decide_eq_false_iff_not]; omega
    have hs1 := Lib.hid (st1 a (by omega))
    have hs3 := Lib.hid (st3 a b (by omega))
    have hs4 := Lib.hid (st4 (a ++ b) c a.length (by rw [List.length_append]; omega))
    cases sync
    · go_enter Try.func6, Try.ntmps6
      go_wp2_with fail
      refine (new_any 1048576 w (by omega)).mono ?_
      rintro e W1 ⟨rfl, hk1, F1, hD1, hF1⟩
      have M1 : Mine w W1 (w.heap.size + 1) ⟨1048576, none, []⟩ F1 := ⟨hk1, hD1, hF1⟩
      clear hk1 hD1 hF1
      obtain ⟨d, hd⟩ : ∃ d, d = w.heap.size + 1 := ⟨_, rfl⟩
      rw [← hd] at M1 ⊢
      clear hd
      go_wp2_with fail
      refine (Write_any W1 _ _ _ M1.disk ⟨#[120]⟩ pa ca a ((HA.out.keep M1.kp fun _ _ x => x).mono M1.kp.size (Nat.le_refl _)) (by omega)).mono ?_
      intro e W2 h
      obtain ⟨rfl, F2, M2, _, _⟩ := M1.step h (hs1.out)
      clear h M1
      go_wp2_with fail
      refine (Sync_any W2 _ _ _ M2.disk ⟨#[120]⟩).mono ?_
      intro e W3 h
      obtain ⟨rfl, F3, M3, _, _⟩ := M2.step h (st2 a)
      clear h M2
      go_wp2_with fail
      refine (Write_any W3 _ _ _ M3.disk ⟨#[120]⟩ pb cb b ((HB.out.keep M3.kp fun _ _ x => x).mono M3.kp.size (Nat.le_refl _)) (by omega)).mono ?_
      intro e W4 h
      obtain ⟨rfl, F4, M4, _, _⟩ := M3.step h (hs3.out)
      clear h M3
      go_wp2_with fail
      refine (Write_any W4 _ _ _ M4.disk ⟨#[121]⟩ pc cc c ((HC.out.keep M4.kp fun _ _ x => x).mono M4.kp.size (Nat.le_refl _)) (by omega)).mono ?_
      intro e W5 h
      obtain ⟨rfl, F5, M5, _, _⟩ := M4.step h (hs4.out)
      clear h M4
      go_wp2_with fail
      refine ((Rename_any W5 _ _ _ M5.disk ⟨#[120]⟩ ⟨#[121]⟩)).mono ?_
      intro e V1 h
      obtain ⟨rfl, G1, N1, _, _⟩ := M5.step h (st6 (a ++ b) c a.length)
      clear h M5
      go_wp2_with fail
      refine ((Names_any V1 _ _ _ N1.disk (fun p hp => by simp only [List.mem_singleton] at hp; subst hp; show (1 : Nat) ≤ maxLen; decide))).mono ?_
      rintro e V2 ⟨ss, an, cn, rfl, hp, hrd, hk⟩
      have N2 := N1.no hk
      rw [names_one hp] at hrd ⊢
      clear hp hk N1
      go_wp2_with fail
      obtain ⟨V3, hV3⟩ : ∃ W, W = V2.alloc (.cells #[.string ⟨#[121]⟩] 9) := ⟨_, rfl⟩
      have k3 : Kp No V2 V3 := by rw [hV3]; exact (Kp.refl _ _).alloc _
      have r3 : Rd V3 V3.heap.size (some ⟨V2.heap.size, 0, none⟩) ([(⟨#[121]⟩ : ByteArray)].map Value.string) := by rw [hV3]; exact Rd.row (off := 0) (n := 1) (heap_alloc_new V2 _) (by simp) (by simp) (Nat.le_refl _)
      have ht := texts_any an (some ⟨V2.heap.size, 0, none⟩) cn 1 _ _ [⟨#[121]⟩] [⟨#[121]⟩] V3 (hrd.keep k3 fun _ _ x => x) r3 (by decide)
      rw [decide_eq_true rfl] at ht
      have HT := Lib.hid ht
      have N3 := N2.no k3
      rw [← hV3]
      clear hV3 k3 r3 ht hrd N2
      refine (HT.out).mono ?_
      rintro e V4 ⟨rfl, nt, rfl⟩
      have N4 := N3.no ((Kp.refl _ _).drewN nt)
      clear HT N3
      go_wp2_with fail
      refine (Rename_any (V3.drewN nt) _ _ _ N4.disk ⟨#[120]⟩ ⟨#[122]⟩).mono ?_
      intro e V5 h
      obtain ⟨rfl, G5, N5, _, _⟩ := N4.step h (st7 (a ++ b) a.length)
      clear h N4
      go_wp2_with fail
      refine (Crash_any V5 _ _ G5 N5.disk 0 (by decide) (by decide) 0).mono ?_
      rintro e V6 ⟨rfl, hD6, hK6⟩
      have N6 := N5.turn hK6 hD6
      clear hD6 hK6 N5
      go_wp2_with fail
      refine (Read_any V6 _ _ G5 N6.disk ⟨#[121]⟩).mono ?_
      intro e V7 h
      obtain ⟨a7, c7, rfl, ho7, hk7, hb7⟩ := h.out (st8 (a ++ b) a.length)
      skip
      have hT : (a ++ b).take a.length = a := List.take_left
      rw [hT] at ho7 hb7 ⊢
      have T7 := N6.two.cpy hk7 ho7 hb7
      clear h N6 ho7 hk7 hb7
      have hra := (HA.out.keep T7.mine.kp fun _ _ x => x).mono T7.mine.kp.size (Nat.le_refl _)
      obtain ⟨a8, c8, V8, hrun8, ho8, hk8, hb8⟩ := cpy_bytes V7 a pa ca hra (by omega)
      have T8 := (T7.no ((Kp.refl No V7))).fst hk8 ho8 hb8
      have HR8 := Lib.hid hrun8
      clear hra T7 hrun8 ho8 hk8 hb8
      go_wp2_with (at_builtin; refine wpList_append_run rfl rfl rfl rfl HR8.out ?_)
      obtain ⟨a9, ha9⟩ : ∃ x, x = a8 := ⟨_, rfl⟩
      obtain ⟨c9, hc9⟩ : ∃ x, x = c8 := ⟨_, rfl⟩
      obtain ⟨V9, hV9⟩ : ∃ x, x = V8 := ⟨_, rfl⟩
      rw [← ha9, ← hc9, ← hV9] at T8
      rw [← ha9, ← hc9, ← hV9]
      have T9 := T8
      clear T8 ha9 hc9 hV9 HR8
      have hsm := same_any a7 a9 c7 c9 _ _ a a V9 T9.o2.rd' T9.o1.rd' (by omega)
      rw [decide_eq_true rfl] at hsm
      have HSM := Lib.hid hsm
      have K9 := T9.mine.kp
      clear hsm T9
      refine (HSM.out).mono ?_
      rintro e V10 ⟨rfl, n10, rfl⟩
      go_wp2_with fail
      refine (known_any _).mono ?_
      rintro e V11 ⟨rfl, hk11⟩
      go_wp2_with fail
      go_ret
      exact ⟨rfl, (K9.drewN n10).trans_same hk11⟩
    · go_enter Try.func6, Try.ntmps6
      go_wp2_with fail
      refine (new_any 1048576 w (by omega)).mono ?_
      rintro e W1 ⟨rfl, hk1, F1, hD1, hF1⟩
      have M1 : Mine w W1 (w.heap.size + 1) ⟨1048576, none, []⟩ F1 := ⟨hk1, hD1, hF1⟩
      clear hk1 hD1 hF1
      obtain ⟨d, hd⟩ : ∃ d, d = w.heap.size + 1 := ⟨_, rfl⟩
      rw [← hd] at M1 ⊢
      clear hd
      go_wp2_with fail
      refine (Write_any W1 _ _ _ M1.disk ⟨#[120]⟩ pa ca a ((HA.out.keep M1.kp fun _ _ x => x).mono M1.kp.size (Nat.le_refl _)) (by omega)).mono ?_
      intro e W2 h
      obtain ⟨rfl, F2, M2, _, _⟩ := M1.step h (hs1.out)
      clear h M1
      go_wp2_with fail
      refine (Sync_any W2 _ _ _ M2.disk ⟨#[120]⟩).mono ?_
      intro e W3 h
      obtain ⟨rfl, F3, M3, _, _⟩ := M2.step h (st2 a)
      clear h M2
      go_wp2_with fail
      refine (Write_any W3 _ _ _ M3.disk ⟨#[120]⟩ pb cb b ((HB.out.keep M3.kp fun _ _ x => x).mono M3.kp.size (Nat.le_refl _)) (by omega)).mono ?_
      intro e W4 h
      obtain ⟨rfl, F4, M4, _, _⟩ := M3.step h (hs3.out)
      clear h M3
      go_wp2_with fail
      refine (Write_any W4 _ _ _ M4.disk ⟨#[121]⟩ pc cc c ((HC.out.keep M4.kp fun _ _ x => x).mono M4.kp.size (Nat.le_refl _)) (by omega)).mono ?_
      intro e W5 h
      obtain ⟨rfl, F5, M5, _, _⟩ := M4.step h (hs4.out)
      clear h M4
      go_wp2_with fail
      refine (Sync_any W5 _ _ _ M5.disk ⟨#[120]⟩).mono ?_
      intro e W6 h
      obtain ⟨rfl, F6, M6, _, _⟩ := M5.step h (st5 (a ++ b) c a.length)
      clear h M5
      go_wp2_with fail
      refine ((Rename_any W6 _ _ _ M6.disk ⟨#[120]⟩ ⟨#[121]⟩)).mono ?_
      intro e V1 h
      obtain ⟨rfl, G1, N1, _, _⟩ := M6.step h (st6 (a ++ b) c (a ++ b).length)
      clear h M6
      go_wp2_with fail
      refine ((Names_any V1 _ _ _ N1.disk (fun p hp => by simp only [List.mem_singleton] at hp; subst hp; show (1 : Nat) ≤ maxLen; decide))).mono ?_
      rintro e V2 ⟨ss, an, cn, rfl, hp, hrd, hk⟩
      have N2 := N1.no hk
      rw [names_one hp] at hrd ⊢
      clear hp hk N1
      go_wp2_with fail
      obtain ⟨V3, hV3⟩ : ∃ W, W = V2.alloc (.cells #[.string ⟨#[121]⟩] 9) := ⟨_, rfl⟩
      have k3 : Kp No V2 V3 := by rw [hV3]; exact (Kp.refl _ _).alloc _
      have r3 : Rd V3 V3.heap.size (some ⟨V2.heap.size, 0, none⟩) ([(⟨#[121]⟩ : ByteArray)].map Value.string) := by rw [hV3]; exact Rd.row (off := 0) (n := 1) (heap_alloc_new V2 _) (by simp) (by simp) (Nat.le_refl _)
      have ht := texts_any an (some ⟨V2.heap.size, 0, none⟩) cn 1 _ _ [⟨#[121]⟩] [⟨#[121]⟩] V3 (hrd.keep k3 fun _ _ x => x) r3 (by decide)
      rw [decide_eq_true rfl] at ht
      have HT := Lib.hid ht
      have N3 := N2.no k3
      rw [← hV3]
      clear hV3 k3 r3 ht hrd N2
      refine (HT.out).mono ?_
      rintro e V4 ⟨rfl, nt, rfl⟩
      have N4 := N3.no ((Kp.refl _ _).drewN nt)
      clear HT N3
      go_wp2_with fail
      refine (Rename_any (V3.drewN nt) _ _ _ N4.disk ⟨#[120]⟩ ⟨#[122]⟩).mono ?_
      intro e V5 h
      obtain ⟨rfl, G5, N5, _, _⟩ := N4.step h (st7 (a ++ b) (a ++ b).length)
      clear h N4
      go_wp2_with fail
      refine (Crash_any V5 _ _ G5 N5.disk 0 (by decide) (by decide) 0).mono ?_
      rintro e V6 ⟨rfl, hD6, hK6⟩
      have N6 := N5.turn hK6 hD6
      clear hD6 hK6 N5
      go_wp2_with fail
      refine (Read_any V6 _ _ G5 N6.disk ⟨#[121]⟩).mono ?_
      intro e V7 h
      obtain ⟨a7, c7, rfl, ho7, hk7, hb7⟩ := h.out (st8 (a ++ b) (a ++ b).length)
      obtain ⟨X, hX⟩ : ∃ X, X = a ++ b := ⟨_, rfl⟩
      have HX := Lib.hid hX
      have hXl : X.length ≤ 8000 := by rw [hX, List.length_append]; omega
      clear hX
      have hT : (a ++ b).take (a ++ b).length = X := by rw [List.take_length, HX.out]
      rw [hT] at ho7 hb7 ⊢
      have T7 := N6.two.cpy hk7 ho7 hb7
      clear h N6 ho7 hk7 hb7
      have hra := (HA.out.keep T7.mine.kp fun _ _ x => x).mono T7.mine.kp.size (Nat.le_refl _)
      obtain ⟨a8, c8, V8, hrun8, ho8, hk8, hb8⟩ := cpy_bytes V7 a pa ca hra (by omega)
      have T8 := (T7.no ((Kp.refl No V7))).fst hk8 ho8 hb8
      have HR8 := Lib.hid hrun8
      clear hra T7 hrun8 ho8 hk8 hb8
      have hrb := (HB.out.keep T8.mine.kp fun _ _ x => x).mono T8.mine.kp.size (Nat.le_refl _)
      obtain ⟨a9, c9, V9, hrun9, ho9, hk9, hb9⟩ := app_bytes V8 _ a b T8.o1 pb cb hrb (by omega)
      rw [← HX.out] at hrun9 ho9 hb9
      have T9 := T8.app hk9 ho9 hb9
      have HR9 := Lib.hid hrun9
      clear hrb T8 hrun9 ho9 hk9 hb9
      go_wp2_with (first | (at_builtin; refine wpList_append_run rfl rfl rfl rfl HR8.out ?_; clear HR8) | (at_builtin; refine wpList_append_run rfl rfl rfl rfl HR9.out ?_))
      have hsm := same_any a7 a9 c7 c9 _ _ X X V9 T9.o2.rd' T9.o1.rd' (by omega)
      rw [decide_eq_true rfl] at hsm
      have HSM := Lib.hid hsm
      have K9 := T9.mine.kp
      clear hsm T9
      refine (HSM.out).mono ?_
      rintro e V10 ⟨rfl, n10, rfl⟩
      go_wp2_with fail
      refine (known_any _).mono ?_
      rintro e V11 ⟨rfl, hk11⟩
      go_wp2_with fail
      go_ret
      exact ⟨rfl, (K9.drewN n10).trans_same hk11⟩
  · have hdec : decide ((8000 : Int) < (a.length : Int) + (b.length : Int) + (c.length : Int)) = true := by simp only [decide_eq_true_eq]; omega
    go_enter Try.func6, Try.ntmps6
    go_wp2_with fail
    go_ret
    exact ⟨rfl, Kp.refl _ _⟩
end Go.Proofs.Ytenidddbjobblaa
