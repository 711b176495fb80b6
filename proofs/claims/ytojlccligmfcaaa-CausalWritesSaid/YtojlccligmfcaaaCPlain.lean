/-
  Events, as the document has them: plain.
-/
import Derived.Test.YtojlccligmfcaaaCaus
import Derived.Test.YtojlccligmfcaaaWide
import Derived.WalkKit
import Derived.WalkSpells
import Derived.WalkLawsBesides
import Derived.Deep.Cut
namespace Go.Proofs.Ytojlccligmfcaaa
open Go.RowKit Go.Mer

/-- While events are gathered in a slice of one's own. -/
def ERel (w0 wr : World) (v : Value) (n : Nat) (Q : List EvR) : Prop :=
  n = Q.length ∧ Own wr 59 18 v n (Q.flatMap EvR.cells) ∧ (∀ g, v.ownBlock = some g → w0.heap.size ≤ g) ∧ Kp No w0 wr
theorem ERel.nil (w : World) : ERel w w (.slice none 0 0) 0 [] := ⟨rfl, by simpa using Own.nil w 59 18, fun g h => by simp [Value.ownBlock] at h, Kp.refl _ _⟩
theorem ERel.keep {w0 wr W : World} {v : Value} {n : Nat} {Q : List EvR} (h : ERel w0 wr v n Q) (hk : Kp No wr W) : ERel w0 W v n Q := ⟨h.1, h.2.1.keep hk fun _ _ x => x, h.2.2.1, h.2.2.2.trans_same hk⟩
theorem infoREvent : (Try.prog.info? 59).map (fun i => ((i.zero.map fun z => z.cells.size), i.size, i.bytes)) = some (some 18, 18, 208) := by kernel_rfl
/-- append(v, a literal of one event). -/
theorem ERel.app {w0 W : World} {v : Value} {n : Nat} {Q : List EvR} (h : ERel w0 W v n Q) (x : EvR) (hn : n ≤ 1000) (cs : Array Value) (hcs : cs.toList = x.cells) {g : Nat} (hg : W.heap[g]? = some (.cells cs 59 (0, 0))) :
    ∃ a' c' W', (Builtin.append_ #[28, 28] 28 #[v, .slice (some ⟨g, 0, none⟩) 1 1]).run Try.prog W = .ok (.slice a' (n + 1) c') W' ∧ ERel w0 W' (.slice a' (n + 1) c') (n + 1) (Q ++ [x]) := by
  obtain ⟨rfl, h3, h4, h6⟩ := h
  obtain ⟨i0, hi, hz⟩ := Option.map_eq_some_iff.1 infoREvent
  injection hz with hz0 hz
  injection hz with hz1 hz2
  obtain ⟨z, hz, hz3⟩ := Option.map_eq_some_iff.1 hz0
  have hsrc : Src W 18 (.slice (some ⟨g, 0, none⟩) 1 1) 1 x.cells :=
    ⟨by rw [x.cells_len], some ⟨g, 0, none⟩, 1, rfl, Rd.row (n := 18) hg (by rw [List.drop_zero, hcs]; exact List.take_of_length_le (by rw [x.cells_len]; omega)) (get_lt hg) (Nat.le_refl _)⟩
  obtain ⟨v', w', hrun, ho, hkp, hblk⟩ := run_append_Own (P := Try.prog) 28 28 28 59 i0 z 18 208 Try.underlying28 ⟨_, Try.underlying28⟩ hi hz hz1 hz2 hz3 v Q.length _ h3 (.slice (some ⟨g, 0, none⟩) 1 1) 1 x.cells hsrc x.cells_one (by unfold maxLen; omega) (by omega)
  obtain ⟨_, a', c', rfl, _⟩ := id ho
  refine ⟨a', c', w', hrun, by simp, by rw [List.flatMap_append]; simpa using ho, fun g' hg' => ?_, h6.trans hkp fun i hi hs => by
    have := h4 i hs
    omega⟩
  rcases hblk with hb | ⟨g2, hb, hb2⟩
  · exact h4 g' (hb.symm.trans hg')
  · obtain rfl := Option.some.inj (hb.symm.trans hg')
    have h7 := h6.size
    omega
def PlainP (w : World) (L : List EvR) (e : Ending) (w' : World) : Prop := ∃ (b : Option Addr) (cap : Nat), e = .returned (.slice b L.length cap) ∧ EvsAt w' b L ∧ Kp No w w'
set_option maxRecDepth 100000 in
set_option maxHeartbeats 4000000 in
theorem plain_any (w : World) (a : Option Addr) (cap : Nat) (L : List EvR) (h : EvsAt w a L) (hl : L.length ≤ 1000) :
    Calls Try.prog 9 #[.slice a L.length cap] w (PlainP w L) := by
  have HA := Lib.hid h
  clear h
  go_enter Try.func9, Try.ntmps9
  go_wp2_with fail
  rename World => w0
  go_loopw [3, 4] (fun s i wr => ∃ (k : Nat) (a' : Option Addr) (c' : Nat), k ≤ L.length ∧ i = .int .i64 (k : Int) ∧ s = .slice a' k c' ∧ Hid (ERel w0 wr (.slice a' k c') k (L.take k))) (fun _ i _ => L.length - (intOf i).toNat)
  case atStart => exact ⟨0, none, 0, Nat.zero_le _, rfl, rfl, Lib.hid (ERel.nil w0)⟩
  case round =>
    obtain ⟨k, ao, co, hk, rfl, rfl, HR⟩ := hrel
    have HKP := Lib.hid HR.out.2.2.2
    by_cases hlt : k < L.length
    · obtain ⟨g, off, rfl, l0⟩ := rd_chunk (f := EvR.cells) (c := 18) EvR.cells_len (by decide) HA.out.top hlt
      have HE := Lib.hid (List.take_succ_eq_append_getElem hlt)
      obtain ⟨x, hx⟩ : ∃ x, x = L[k] := ⟨_, rfl⟩
      rw [← hx] at l0 HE
      obtain ⟨who, ⟨kind, node, n, m, by_, s1, s2, key, to, va, vcap, val⟩, ⟨err, an, q1, q2, found, aa, acap, aval, pa, pcap, pairs⟩⟩ := x
      obtain ⟨W1, hW1⟩ : ∃ W, W = wr.alloc (.cells #[.int .i64 err, .int .i64 an, .int .i64 q1, .int .i64 q2, .bool found, .slice aa aval.length acap, .slice pa pairs.length pcap] 45) := ⟨_, rfl⟩
      have k1 : Kp No wr W1 := by rw [hW1]; exact (Kp.refl _ _).alloc _
      have b1 : W1.heap[wr.heap.size]? = some (.cells #[.int .i64 err, .int .i64 an, .int .i64 q1, .int .i64 q2, .bool found, .slice aa aval.length acap, .slice pa pairs.length pcap] 45 (0, 0)) := by rw [hW1]; exact heap_alloc_new wr _
      have R1 : Hid (wr.rangeAt g (off + k * 18 + 11) [.int .i64 err, .int .i64 an, .int .i64 q1, .int .i64 q2, .bool found, .slice aa aval.length acap, .slice pa pairs.length pcap]) := Lib.hid fun j v hv => by
        rw [Nat.add_assoc]
        refine l0 wr HKP.out (11 + j) v ?_
        rw [Nat.add_comm]
        exact hv
      have R2 : Hid (∀ n', (W1.drewN n').rangeAt g (off + k * 18 + 1) [.int .i64 kind, .int .i64 node, .int .i64 n, .int .i64 m, .int .u8 by_, .int .i64 s1, .int .i64 s2, .string key, .string to, .slice va val.length vcap]) := Lib.hid fun n' j v hv => by
        rw [Nat.add_assoc]
        refine l0 (W1.drewN n') ((HKP.out.trans_same k1).drewN n') (1 + j) v ?_
        rw [Nat.add_comm]
        have hj : j < 10 := (List.getElem?_eq_some_iff.1 hv).1
        show ([.int .i64 kind, .int .i64 node, .int .i64 n, .int .i64 m, .int .u8 by_, .int .i64 s1, .int .i64 s2, .string key, .string to, .slice va val.length vcap] ++ _ : List Value)[j]? = _
        rw [List.getElem?_append_left (by simpa using hj)]
        exact hv
      have t0 := l0 W1 (HKP.out.trans_same k1) 0 _ rfl
      rw [Nat.add_zero] at t0
      have d0 : W1.cell? ⟨wr.heap.size, 0, none⟩ = some (.int .i64 err) := by rw [cell_at b1]; rfl
      have d1 : W1.cell? ⟨wr.heap.size, 1, none⟩ = some (.int .i64 an) := by rw [cell_at b1]; rfl
      have d2 : W1.cell? ⟨wr.heap.size, 2, none⟩ = some (.int .i64 q1) := by rw [cell_at b1]; rfl
      have d3 : W1.cell? ⟨wr.heap.size, 3, none⟩ = some (.int .i64 q2) := by rw [cell_at b1]; rfl
      have d4 : W1.cell? ⟨wr.heap.size, 4, none⟩ = some (.bool found) := by rw [cell_at b1]; rfl
      have d5 : W1.cell? ⟨wr.heap.size, 5, none⟩ = some (.slice aa aval.length acap) := by rw [cell_at b1]; rfl
      have d6 : W1.cell? ⟨wr.heap.size, 6, none⟩ = some (.slice pa pairs.length pcap) := by rw [cell_at b1]; rfl
      have HR1 := Lib.hid (HR.out.keep k1)
      have HW1 := Lib.hid hW1
      clear l0 hx k1 b1 hW1
      go_upto_region 6 with (first
        | (refine wpList_load_w rfl 45 _ rfl g (off + k * 18 + 11) rfl _ _ R1 Try.underlying45 rfl (by kernel_rfl) ?_)
        | (refine wpList_store_w rfl 45 _ _ rfl wr.heap.size (by rfl) _ _ _ rfl rfl (by kernel_rfl) (by rfl) (by rfl) ?_))
      rw [← HW1.out]
      go_simp
      refine wp_region_ord [0,0,0,0,0,1,0,0,0,0,1,0,1,0,1,0,1,0,1,0,1,0,1,0,0,2,2,0] [0,1,2,3,4,6,7,8,9,11,13,15,17,19,21,5,10,12,14,16,18,20,22,23,24,25,26,27] (by kernel_rfl) (by kernel_rfl) ?_
      repeat (first
        | (apply wpOrd_skip rfl (by decide) rfl; (focus (go_simp; rfl)))
        | (apply wpOrd_pure rfl rfl rfl; (focus (intro _ _; go_simp; (try go_ints); rfl)); (focus (go_simp; rfl)))
        | (apply wpOrd_read rfl rfl rfl; (focus (intro _; go_simp; (try go_ints); rfl)); (focus (go_simp; rfl))))
      refine wpOrd_read rfl rfl rfl (v := .agg #[.int .i64 kind, .int .i64 node, .int .i64 n, .int .i64 m, .int .u8 by_, .int .i64 s1, .int .i64 s2, .string key, .string to, .slice va val.length vcap]) (fun n' => exec_load_w 41 _ rfl g (off + k * 18 + 1) rfl _ _ (R2.out n') Try.underlying41 rfl (by kernel_rfl)) rfl ?_
      repeat (first
        | (apply wpOrd_skip rfl (by decide) rfl; (focus (go_simp; rfl)))
        | (apply wpOrd_pure rfl rfl rfl; (focus (intro _ _; go_simp; (try go_ints); rfl)); (focus (go_simp; rfl)))
        | (apply wpOrd_read rfl rfl rfl; (focus (intro _; go_simp; (try go_ints); rfl)); (focus (go_simp; rfl))))
      refine wpOrd_eff rfl rfl (fun n1 => ?_)
      go_wp2_with fail
      obtain ⟨W2, hW2⟩ : ∃ W, W = (W1.drewN n1).alloc (.cells #[.int .i64 who, .int .i64 kind, .int .i64 node, .int .i64 n, .int .i64 m, .int .u8 by_, .int .i64 s1, .int .i64 s2, .string key, .string to, .slice va val.length vcap, .int .i64 err, .int .i64 an, .int .i64 q1, .int .i64 q2, .bool found, .slice aa aval.length acap, .slice pa pairs.length pcap] 59) := ⟨_, rfl⟩
      have k2 : Kp No W1 W2 := by rw [hW2]; exact ((Kp.refl _ _).drewN _).alloc _
      have b2 : W2.heap[W1.heap.size]? = some (.cells #[.int .i64 who, .int .i64 kind, .int .i64 node, .int .i64 n, .int .i64 m, .int .u8 by_, .int .i64 s1, .int .i64 s2, .string key, .string to, .slice va val.length vcap, .int .i64 err, .int .i64 an, .int .i64 q1, .int .i64 q2, .bool found, .slice aa aval.length acap, .slice pa pairs.length pcap] 59 (0, 0)) := by rw [hW2]; exact heap_alloc_new (W1.drewN n1) _
      rw [← hW2]
      refine wpOrd_eff rfl rfl (fun n2 => ?_)
      obtain ⟨a5, c5, W5, hrun, hw5⟩ := ((HR1.out.keep k2).keep ((Kp.refl No _).drewN n2)).app ⟨who, ⟨kind, node, n, m, by_, s1, s2, key, to, va, vcap, val⟩, ⟨err, an, q1, q2, found, aa, acap, aval, pa, pcap, pairs⟩⟩ (by omega) #[.int .i64 who, .int .i64 kind, .int .i64 node, .int .i64 n, .int .i64 m, .int .u8 by_, .int .i64 s1, .int .i64 s2, .string key, .string to, .slice va val.length vcap, .int .i64 err, .int .i64 an, .int .i64 q1, .int .i64 q2, .bool found, .slice aa aval.length acap, .slice pa pairs.length pcap] rfl (show (W2.drewN n2).heap[W1.heap.size]? = _ from b2)
      rw [← HE.out] at hw5
      have HX := Lib.hid hrun
      have HW5 := Lib.hid hw5
      clear hrun hw5 hW2 k2 b2 d0 d1 d2 d3 d4 d5 d6 t0
      refine wpList_append_run rfl rfl rfl rfl HX.out (wpList_nil ⟨rfl, trivial, ?_⟩)
      repeat (first
        | (apply wpOrd_skip rfl (by decide) rfl; (focus (go_simp; rfl)))
        | (apply wpOrd_pure rfl rfl rfl; (focus (intro _ _; go_simp; (try go_ints); rfl)); (focus (go_simp; rfl)))
        | (apply wpOrd_read rfl rfl rfl; (focus (intro _; go_simp; (try go_ints); rfl)); (focus (go_simp; rfl))))
      refine wpOrd_nil (fun nq => ?_)
      have HW6 := Lib.hid (HW5.out.keep ((Kp.refl No _).drewN nq))
      go_wp2_with fail
      go_roundw
      case rel => exact ⟨k + 1, a5, c5, by omega, by go_num, rfl, HW6⟩
      case measure => simp [intOf]; omega
    · obtain rfl : k = L.length := by omega
      have hd := HR.out
      rw [List.take_length] at hd
      have HD := Lib.hid hd
      clear hlt hd
      go_wp2_with fail
      go_ret
      obtain ⟨h1, h2, h3, h4⟩ := HD.out
      exact ⟨ao, co, rfl, ⟨h2.rd', fun x hx => (HA.out.each x hx).keep h4⟩, h4⟩
end Go.Proofs.Ytojlccligmfcaaa
