/-
  Whether a value may be read; whether nothing may be.
-/
import Derived.Test.YtojlccligmfcaaaCNew
import Derived.Laws.BytesString
namespace Go.Proofs.Ytojlccligmfcaaa
open Go.RowKit Go.Mer

theorem str_of (W : World) (B : Nat) (a : Option Addr) (cap : Nat) (l : List UInt8) (hr : Rd W B a (u8s l)) : (convert 33 9 (.slice a l.length cap)).run Try.prog W = .ok (.string ⟨l.toArray⟩) W := by
  rcases l with _ | ⟨x, l⟩
  · rw [run_convert_bytes_string W 33 9 5 a _ cap Try.underlying33 Try.underlying5 Try.underlying9]
    cases a <;> simp [Conv.bytesToString, loadCells]
    all_goals rfl
  · obtain ⟨g, off, rfl, _, _, hc⟩ := hr (by simp [u8s])
    exact run_convert_bytes_back (P := Try.prog) W 33 9 5 ⟨g, off, none⟩ cap (x :: l) Try.underlying33 Try.underlying5 Try.underlying9 (fun j hj => by
      rw [add_lit']
      exact hc j _ (by rw [u8s_get?, List.getElem?_eq_getElem hj]; rfl))
theorem str_beq (xs ys : List UInt8) : ((⟨xs.toArray⟩ : ByteArray).toList == (⟨ys.toArray⟩ : ByteArray).toList) = decide (xs = ys) := by
  rw [Go.ByteArray.toList_eq, Go.ByteArray.toList_eq]
  rw [Bool.eq_iff_iff]
  simp
theorem Equal_any (w : World) (a b : Option Addr) (c d : Nat) (xs ys : List UInt8) (hx : Rd w w.heap.size a (u8s xs)) (hy : Rd w w.heap.size b (u8s ys)) :
    Calls Try.prog 24 #[.slice a xs.length c, .slice b ys.length d] w fun e w' => e = .returned (.bool (decide (xs = ys))) ∧ w = w' := by
  have c1 := str_of w _ a c xs hx
  have c2 := str_of w _ b d ys hy
  have hbe := str_beq xs ys
  obtain ⟨X, hX⟩ : ∃ X : ByteArray, X = ⟨xs.toArray⟩ := ⟨_, rfl⟩
  obtain ⟨Y, hY⟩ : ∃ Y : ByteArray, Y = ⟨ys.toArray⟩ := ⟨_, rfl⟩
  obtain ⟨z, hz⟩ : ∃ z, z = decide (xs = ys) := ⟨_, rfl⟩
  rw [← hX] at c1 hbe
  rw [← hY] at c2 hbe
  rw [← hz] at hbe ⊢
  clear hX hY hz hx hy
  go_enter Try.func24, Try.ntmps24
  go_wp2_with fail
  go_ret
  exact ⟨rfl, rfl⟩
theorem foundC_any (w : World) (a : Option Addr) (c : Nat) (xs : List UInt8) (hx : Rd w w.heap.size a (u8s xs)) (B : Nat) (b : Option Addr) (d : Nat) (ys : List UInt8) (hB : w.cell? ⟨B, 0, none⟩ = some (.slice b ys.length d)) (hy : Rd w w.heap.size b (u8s ys)) :
    Calls Try.prog 23 #[.slice a xs.length c, .pointer (some ⟨B, 0, none⟩)] w fun e w' => e = .returned (.bool (decide (xs = ys))) ∧ w = w' := by
  have hcc := Equal_any w a b c d xs ys hx hy
  obtain ⟨z, hz⟩ : ∃ z, z = decide (xs = ys) := ⟨_, rfl⟩
  rw [← hz] at hcc ⊢
  have HC := Lib.hid hcc
  clear hcc hz hx hy
  go_enter Try.func23, Try.ntmps23
  go_wp2_with fail
  refine HC.out.mono ?_
  rintro e w' ⟨rfl, rfl⟩
  go_wp2_with fail
  go_ret
  exact ⟨rfl, rfl⟩
def IdxP (w : World) (L : List (List UInt8)) (ys : List UInt8) (e : Ending) (w' : World) : Prop := ∃ i : Int, e = .returned (.int .i64 i) ∧ decide (0 ≤ i) = decide (ys ∈ L) ∧ w = w'
theorem row_at {w : World} {a : Option Addr} {Vs : List Row} (h : Rd w w.heap.size a (Vs.map Row.val)) {k : Nat} (hk : k < Vs.length) : ∃ g off, a = some ⟨g, off, none⟩ ∧ w.cell? ⟨g, off + k, none⟩ = some (.slice Vs[k].a Vs[k].data.length Vs[k].cap) := by
  obtain ⟨g, off, ha, _, _, hc⟩ := h.at_ (i := k) (u := Vs[k].val) (by simp [hk])
  exact ⟨g, off, ha, hc⟩
set_option maxHeartbeats 1000000 in
theorem Index_any (w : World) (a : Option Addr) (c : Nat) (Vs : List Row) (h : Rd w w.heap.size a (Vs.map Row.val)) (he : ∀ r ∈ Vs, Rd w w.heap.size r.a (u8s r.data)) (hl : Vs.length ≤ 100000)
    (B : Nat) (b : Option Addr) (d : Nat) (ys : List UInt8) (hB : w.cell? ⟨B, 0, none⟩ = some (.slice b ys.length d)) (hy : Rd w w.heap.size b (u8s ys)) :
    Calls Try.prog 29 #[.slice a Vs.length c, .func (.func 23) #[] #[.pointer (some ⟨B, 0, none⟩)]] w (IdxP w (Vs.map (·.data)) ys) := by
  have HA := Lib.hid h
  have HE := Lib.hid he
  have HY := Lib.hid hy
  have HB := Lib.hid hB
  clear h he hy hB
  go_enter Try.func29, Try.ntmps29
  go_wp2_with fail
  go_loop [8] (fun i => ∃ k : Nat, k ≤ Vs.length ∧ i = .int .i64 (k : Int) ∧ Hid (ys ∉ (Vs.take k).map (·.data))) (fun i => Vs.length - (intOf i).toNat)
  case atStart => exact ⟨0, Nat.zero_le _, rfl, Lib.hid (by simp)⟩
  case round =>
    obtain ⟨k, hk, rfl, HN⟩ := hrel
    by_cases hlt : k < Vs.length
    · obtain ⟨g, off, rfl, l0⟩ := row_at HA.out hlt
      have hr := HE.out _ (List.getElem_mem hlt)
      have HT := Lib.hid (List.take_succ_eq_append_getElem hlt)
      have HM := Lib.hid (List.getElem_mem hlt)
      obtain ⟨r, hr'⟩ : ∃ r, r = Vs[k] := ⟨_, rfl⟩
      rw [← hr'] at l0 hr HT HM
      have hcc := foundC_any w r.a r.cap r.data hr B b d ys HB.out HY.out
      clear hr hr'
      by_cases hxy : r.data = ys
      · rw [decide_eq_true hxy] at hcc
        have HXY := Lib.hid hxy
        have HC := Lib.hid hcc
        clear hcc hxy
        go_wp2_with fail
        refine HC.out.mono ?_
        rintro e w' ⟨rfl, rfl⟩
        go_wp2_with fail
        go_ret
        exact ⟨(k : Int), rfl, (by rw [decide_eq_true (by omega), decide_eq_true (List.mem_map.2 ⟨r, HM.out, HXY.out⟩)]), rfl⟩
      · rw [decide_eq_false hxy] at hcc
        have HC := Lib.hid hcc
        have HN2 := Lib.hid (show ys ∉ (Vs.take (k + 1)).map (·.data) by
          rw [HT.out, List.map_append, List.mem_append]
          rintro (h | h)
          · exact HN.out h
          · simp only [List.map_cons, List.map_nil, List.mem_singleton] at h
            exact hxy h.symm)
        clear hcc hxy
        go_wp2_with fail
        refine HC.out.mono ?_
        rintro e w' ⟨rfl, rfl⟩
        go_wp2_with fail
        go_round
        case rel => exact ⟨k + 1, by omega, by go_num, HN2⟩
        case measure => simp [intOf]; omega
    · obtain rfl : k = Vs.length := by omega
      clear hlt
      go_wp2_with fail
      go_ret
      exact ⟨-1, rfl, (by have h := HN.out; rw [List.take_length] at h; rw [decide_eq_false (by omega), decide_eq_false h]), rfl⟩
theorem Contains_any (w : World) (a : Option Addr) (c : Nat) (Vs : List Row) (h : Rd w w.heap.size a (Vs.map Row.val)) (he : ∀ r ∈ Vs, Rd w w.heap.size r.a (u8s r.data)) (hl : Vs.length ≤ 100000)
    (B : Nat) (b : Option Addr) (d : Nat) (ys : List UInt8) (hB : w.cell? ⟨B, 0, none⟩ = some (.slice b ys.length d)) (hy : Rd w w.heap.size b (u8s ys)) :
    Calls Try.prog 22 #[.slice a Vs.length c, .func (.func 23) #[] #[.pointer (some ⟨B, 0, none⟩)]] w fun e w' => e = .returned (.bool (decide (ys ∈ Vs.map (·.data)))) ∧ w = w' := by
  have HC := Lib.hid (Index_any w a c Vs h he hl B b d ys hB hy)
  obtain ⟨z, hz⟩ : ∃ z, z = decide (ys ∈ Vs.map (·.data)) := ⟨_, rfl⟩
  rw [← hz]
  have HZ := Lib.hid hz
  clear h he hB hy hz
  go_enter Try.func22, Try.ntmps22
  go_wp2_with fail
  refine HC.out.mono ?_
  rintro e w' ⟨i, rfl, hi, rfl⟩
  have HI := Lib.hid hi
  clear hi
  go_wp2_with fail
  go_ret
  exact ⟨by rw [HZ.out, ← HI.out]; rfl, rfl⟩
theorem nw_len (key : ByteArray) (t1 t2 : Int) : ∀ (R : List WrP) (s : Option WrP × Bool × List (List UInt8)), (R.foldl (nwStep key t1 t2) s).2.2.length ≤ s.2.2.length + R.length
  | [], s => by simp
  | w :: R, s => by
    rw [List.foldl_cons]
    have h1 := nw_len key t1 t2 R (nwStep key t1 t2 s w)
    have h2 : (nwStep key t1 t2 s w).2.2.length ≤ s.2.2.length + 1 := by
      unfold nwStep
      repeat' split
      all_goals simp
    simp only [List.length_cons]
    omega
theorem newest_len (key : ByteArray) (t1 t2 : Int) (R : List WrP) : (newestF key t1 t2 R).1.length ≤ R.length + 1 := by
  have h := nw_len key t1 t2 R (none, false, [])
  unfold newestF nwState
  generalize hs : R.foldl (nwStep key t1 t2) (none, false, []) = s at h ⊢
  obtain ⟨b, n, u⟩ := s
  cases b with
  | none => simp at h ⊢; omega
  | some v =>
    simp only
    split <;> simp at h ⊢ <;> omega
def foundF (key : ByteArray) (t1 t2 : Int) (R : List WrP) (ys : List UInt8) : Bool := decide (ys ∈ (newestF key t1 t2 R).1)
def noneF (key : ByteArray) (t1 t2 : Int) (R : List WrP) : Bool := (newestF key t1 t2 R).2
theorem none_any (w : World) (a : Option Addr) (cap : Nat) (R : List WrR) (key : ByteArray) (t1 t2 : Int) (h : WrsAt w a R) (hl : R.length ≤ 1000) (hv : ∀ r ∈ R, r.p.val.length ≤ 140737488355328) :
    Calls Try.prog 17 #[.slice a R.length cap, .string key, stv t1 t2] w fun e w' => e = .returned (.bool (noneF key t1 t2 (R.map (·.p)))) ∧ Kp No w w' := by
  have h1 : Kp No w (w.alloc (.cells #[.int .i64 t1, .int .i64 t2] 32)) := (Kp.refl _ _).alloc _
  have HC := Lib.hid (Newest_any _ a cap R key t1 t2 (h.keep h1) hl hv)
  obtain ⟨F, hF⟩ : ∃ F, F = newestF key t1 t2 (R.map (·.p)) := ⟨_, rfl⟩
  unfold noneF
  rw [← hF] at HC ⊢
  have H1 := Lib.hid h1
  clear h hv hF h1
  go_enter Try.func17, Try.ntmps17
  go_wp2_with fail
  refine HC.out.mono ?_
  rintro e w' ⟨b, c, Vs, rfl, _, _, _, hk⟩
  have HK := Lib.hid hk
  clear hk
  go_wp2_with fail
  go_ret
  exact ⟨rfl, H1.out.trans_same HK.out⟩
set_option maxHeartbeats 1000000 in
theorem found_any (w : World) (a : Option Addr) (cap : Nat) (R : List WrR) (key : ByteArray) (t1 t2 : Int) (h : WrsAt w a R) (hl : R.length ≤ 1000) (hv : ∀ r ∈ R, r.p.val.length ≤ 140737488355328) (b : Option Addr) (d : Nat) (ys : List UInt8) (hy : Rd w w.heap.size b (u8s ys)) :
    Calls Try.prog 16 #[.slice a R.length cap, .string key, stv t1 t2, .slice b ys.length d] w fun e w' => e = .returned (.bool (foundF key t1 t2 (R.map (·.p)) ys)) ∧ Kp No w w' := by
  obtain ⟨W1, hW1⟩ : ∃ W1, W1 = (w.alloc (.cells #[.int .i64 t1, .int .i64 t2] 32)).alloc (.cells #[.slice b ys.length d] 33) := ⟨_, rfl⟩
  have h1 : Kp No w W1 := by rw [hW1]; exact ((Kp.refl _ _).alloc _).alloc _
  have b2 : W1.heap[w.heap.size + 1]? = some (.cells #[.slice b ys.length d] 33 (0, 0)) := by rw [hW1]; exact (congrArg (fun k => ((w.alloc _).alloc _).heap[k]?) (by simp)).trans (heap_alloc_new (w.alloc _) _)
  have HC := Lib.hid (Newest_any _ a cap R key t1 t2 (h.keep h1) hl hv)
  have hlen := newest_len key t1 t2 (R.map (·.p))
  obtain ⟨F, hF⟩ : ∃ F, F = newestF key t1 t2 (R.map (·.p)) := ⟨_, rfl⟩
  unfold foundF
  rw [← hF] at HC hlen ⊢
  rw [List.length_map] at hlen
  have H1 := Lib.hid h1
  have HY := Lib.hid (hy.kp h1)
  have HB := Lib.hid b2
  have HW1 := Lib.hid hW1
  have HLen := Lib.hid hlen
  clear h hv hF h1 b2 hW1 hlen hy
  go_enter Try.func16, Try.ntmps16
  go_wp2_with fail
  rw [← HW1.out]
  refine HC.out.mono ?_
  rintro e w2 ⟨p, c, Vs, rfl, hd, hr, he, hk⟩
  have hcc := Contains_any w2 p c Vs hr he (by have h1 := HLen.out; rw [← hd, List.length_map] at h1; omega) (w.heap.size + 1) b d ys (by rw [cell_at (hk.get HB.out fun x => x)]; rfl) (HY.out.kp hk)
  rw [hd] at hcc
  have HCC := Lib.hid hcc
  have HK := Lib.hid hk
  clear hk hd hr he hcc
  go_wp2_with fail
  refine HCC.out.mono ?_
  rintro e w3 ⟨rfl, rfl⟩
  go_wp2_with fail
  go_ret
  exact ⟨rfl, H1.out.trans_same HK.out⟩
end Go.Proofs.Ytojlccligmfcaaa
