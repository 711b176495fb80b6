/-
  Two writes that are the same: written.
-/
import Derived.Test.YtojlccligmfcaaaCWrites
import Derived.Test.YtojlccligmfcaaaSame
import Derived.Deep.CutRange
namespace Go.Proofs.Ytojlccligmfcaaa
open Go.RowKit Go.Mer

set_option maxRecDepth 100000 in
set_option maxHeartbeats 4000000 in
theorem written_any (w : World) (r q : WrR) (hp : r.p = q.p) (h1 : Rd w w.heap.size r.a (u8s r.p.val)) (h2 : Rd w w.heap.size q.a (u8s q.p.val)) (hl : r.p.val.length ≤ 140737488355328) :
    Calls Try.prog 10 #[.agg r.cells.toArray, .agg q.cells.toArray] w fun e w' => e = .returned (.bool true) ∧ Kp No w w' := by
  obtain ⟨⟨who, key, m, cn, origin, val, gone, ttl, unsure⟩, a, c⟩ := r
  obtain ⟨_, b, d⟩ := q
  obtain rfl := hp
  simp only at h1 h2 hl
  obtain ⟨W1, hW1⟩ : ∃ W, W = (w.alloc (.cells #[.int .i64 who, .string key, .int .i64 m, .int .i64 cn, .int .i64 origin, .slice a val.length c, .bool gone, .int .i64 ttl, .bool unsure] 37)).alloc (.cells #[.int .i64 who, .string key, .int .i64 m, .int .i64 cn, .int .i64 origin, .slice b val.length d, .bool gone, .int .i64 ttl, .bool unsure] 38) := ⟨_, rfl⟩
  have k1 : Kp No w W1 := by rw [hW1]; exact ((Kp.refl _ _).alloc _).alloc _
  have b1 : W1.heap[w.heap.size]? = some (.cells #[.int .i64 who, .string key, .int .i64 m, .int .i64 cn, .int .i64 origin, .slice a val.length c, .bool gone, .int .i64 ttl, .bool unsure] 37 (0, 0)) := by rw [hW1]; exact alloc_far (heap_alloc_new w _) _
  have b2 : W1.heap[w.heap.size + 1]? = some (.cells #[.int .i64 who, .string key, .int .i64 m, .int .i64 cn, .int .i64 origin, .slice b val.length d, .bool gone, .int .i64 ttl, .bool unsure] 38 (0, 0)) := by rw [hW1]; exact (congrArg (fun k => ((w.alloc _).alloc _).heap[k]?) (by simp)).trans (heap_alloc_new (w.alloc _) _)
  have HS := Lib.hid (same_any a b c d W1.heap.size W1.heap.size val val W1 (h1.kp k1) (h2.kp k1) hl)
  obtain ⟨c0, c1, c2, c3, c4, c5, c6, c7, c8⟩ := wr_cells b1
  obtain ⟨d0, d1, d2, d3, d4, d5, d6, d7, d8⟩ := wr_cells b2
  have hs2 : w.heap.size + 1 < W1.heap.size := get_lt b2
  have hs1 : w.heap.size < W1.heap.size := by omega
  have HW1 := Lib.hid hW1
  have HB1 := Lib.hid b1
  have HB2 := Lib.hid b2
  have HK1 := Lib.hid k1
  clear hW1 b1 b2 k1 h1 h2
  show Calls Try.prog 10 #[.agg #[.int .i64 who, .string key, .int .i64 m, .int .i64 cn, .int .i64 origin, .slice a val.length c, .bool gone, .int .i64 ttl, .bool unsure], .agg #[.int .i64 who, .string key, .int .i64 m, .int .i64 cn, .int .i64 origin, .slice b val.length d, .bool gone, .int .i64 ttl, .bool unsure]] w _
  go_enter Try.func10, Try.ntmps10
  go_upto_region 1 with fail
  rw [← HW1.out]
  go_wp2_with fail
  refine HS.out.mono ?_
  rintro e w2 ⟨rfl, n2, rfl⟩
  have hk2 : Kp No W1 (W1.drewN n2) := (Kp.refl _ _).drewN _
  have HK2 := Lib.hid (HK1.out.trans_same hk2)
  obtain ⟨W2, hW2⟩ : ∃ W, W = W1.drewN n2 := ⟨_, rfl⟩
  rw [← hW2] at HK2 hk2 ⊢
  have hs2' : w.heap.size + 1 < W2.heap.size := get_lt (hk2.get HB2.out fun x => x)
  have hs1' : w.heap.size < W2.heap.size := by omega
  clear c0 c1 c2 c3 c4 c5 c6 c7 c8 d0 d1 d2 d3 d4 d5 d6 d7 d8
  obtain ⟨c0, c1, c2, c3, c4, c5, c6, c7, c8⟩ := wr_cells (hk2.get HB1.out fun x => x)
  obtain ⟨d0, d1, d2, d3, d4, d5, d6, d7, d8⟩ := wr_cells (hk2.get HB2.out fun x => x)
  clear hk2 hW2
  simp only [decide_true]
  go_wp2_with fail
  go_ret
  exact ⟨rfl, HK2.out⟩
end Go.Proofs.Ytojlccligmfcaaa
