/-
  A step, in both.
-/
import Derived.Test.YtenidddbjobblaaDoe
import Derived.Test.YtenidddbjobblaaPSteps
import Derived.Test.YtenidddbjobblaaRD4
import Derived.Test.YtenidddbjobblaaRSync
import Derived.Test.YtenidddbjobblaaRWrite
import Derived.Test.YtenidddbjobblaaRCut
import Derived.Test.YtenidddbjobblaaRRem
import Derived.Test.YtenidddbjobblaaRRename
import Derived.Test.YtenidddbjobblaaRCrash
import Derived.Test.YtenidddbjobblaaRRead
import Derived.Deep.CutRange
namespace Go.Proofs.Ytenidddbjobblaa
open Go.RowKit Go.Mer

def NmOk (s : DSt) : Prop := ∀ p ∈ s.files, p.1.size ≤ 140737488351232
theorem gset_key {β : Type} {l : List (ByteArray × β)} {k : ByteArray} {v : β} {p : ByteArray × β} (h : p ∈ gset l k v) : p.1 = k ∨ ∃ q ∈ l, q.1 = p.1 := by
  unfold gset at h
  split at h
  · obtain ⟨q, hq, rfl⟩ := List.mem_map.1 h
    split
    · exact .inl rfl
    · exact .inr ⟨q, hq, rfl⟩
  · rcases List.mem_append.1 h with h | h
    · exact .inr ⟨p, h, rfl⟩
    · obtain rfl := List.mem_singleton.1 h
      exact .inl rfl
theorem NmOk.five_ {s : DSt} (h : NmOk s) {ns : List ByteArray} {c : Int} {fs : Files} (hf : ∀ p ∈ fs, p.1.size ≤ 140737488351232) : NmOk (five s ns c fs).2 := by
  unfold five
  split
  · exact h
  · split
    · split
      · exact hf
      · exact h
    · exact h
theorem NmOk.gset_ {s : DSt} (h : NmOk s) {k : ByteArray} (hk : k.size ≤ 140737488351232) {l : Files} (hl : ∀ p ∈ l, ∃ q ∈ s.files, q.1 = p.1) {v : FileS} : ∀ p ∈ gset l k v, p.1.size ≤ 140737488351232 := fun p hp => by
  rcases gset_key hp with h1 | ⟨q, hq, h1⟩
  · rw [h1]; exact hk
  · obtain ⟨q2, hq2, h2⟩ := hl q hq
    rw [← h1, ← h2]
    exact h q2 hq2
theorem nm_wr {s : DSt} (h : NmOk s) {a : ByteArray} (ha : a.size ≤ 140737488351232) (b : List UInt8) : NmOk (wrS s a b).2 := by
  refine h.five_ ?_
  unfold wrFiles
  split
  · exact h.gset_ ha fun p hp => ⟨p, hp, rfl⟩
  · exact h.gset_ ha fun p hp => ⟨p, hp, rfl⟩
theorem nm_sy {s : DSt} (h : NmOk s) {a : ByteArray} (ha : a.size ≤ 140737488351232) : NmOk (syS s a).2 := by
  refine h.five_ ?_
  unfold syFiles
  split
  · exact h.gset_ ha fun p hp => ⟨p, hp, rfl⟩
  · exact h
theorem nm_cu {s : DSt} (h : NmOk s) {a : ByteArray} (ha : a.size ≤ 140737488351232) (n : Int) : NmOk (cuS s a n).2 := by
  refine h.five_ ?_
  unfold cuFiles
  split
  · exact h.gset_ ha fun p hp => ⟨p, hp, rfl⟩
  · exact h
theorem nm_mv {s : DSt} (h : NmOk s) {a b : ByteArray} (hb : b.size ≤ 140737488351232) : NmOk (mvS s a b).2 := by
  refine h.five_ ?_
  unfold mvFiles
  split
  · exact h.gset_ hb fun p hp => ⟨p, (List.mem_filter.1 hp).1, rfl⟩
  · exact h
theorem nm_rm {s : DSt} (h : NmOk s) (a : ByteArray) : NmOk (rmS s a).2 := h.five_ fun p hp => h p (List.mem_filter.1 hp).1
theorem nm_cr {s : DSt} (h : NmOk s) (k : Int) (t : UInt8) : NmOk (crS s k t) := fun p hp => by
  obtain ⟨q, hq, rfl⟩ := List.mem_map.1 hp
  exact h q hq
theorem Bo.other {w W W' : World} {d r : Nat} {sd sr : DSt} {F G S : Nat → Prop} (h : Bo w W d r sd sr F G) (hk : Kp S W W') (hS : ∀ k, S k → ¬ F k ∧ ¬ G k ∧ w.heap.size ≤ k) : Bo w W' d r sd sr F G :=
  ⟨h.kp.trans hk fun i hi hs => by have := (hS i hs).2.2; omega, h.dk.keep hk fun k hF hs => (hS k hs).1 hF, h.rk.keep hk fun k hG hs => (hS k hs).2.1 hG, h.dis, h.fn, h.gn⟩
theorem rd_small {W : World} {d : Nat} {s : DSt} {F : Nat → Prop} (h : DiskAt W d s F) (name : ByteArray) : (rdS s.files name).1.length ≤ 1073741824 := by
  obtain ⟨m, fu, le, L, hC, _, hs, _⟩ := h
  unfold rdS
  cases hg : gget s.files name with
  | none => simp
  | some y =>
    simp only
    have h1 := mem_len (gget_mem hg)
    rw [hs] at h1
    have h2 := hC.fits
    have h3 := hC.roomy
    simp only at h1
    omega
def DoesP (w0 : World) (d r : Nat) (e : Ending) (W' : World) : Prop := ∃ s' F' G', e = .returned (.bool true) ∧ NmOk s' ∧ Bo w0 W' d r s' s' F' G'
set_option maxRecDepth 100000 in
set_option maxHeartbeats 4000000 in
theorem does_any (w0 W : World) (d r : Nat) (s : DSt) (F G : Nat → Prop) (hB : Bo w0 W d r s s F G) (hNm : NmOk s) (x : StR) (hx : x.At W) (hxb : x.b.length ≤ 8000) (hxo : 0 < (u8s x.b).length → ∀ k o, x.ba = some ⟨k, o, none⟩ → k < w0.heap.size) :
    Calls Try.prog 26 #[.pointer (some ⟨d, 0, none⟩), .pointer (some ⟨r, 0, none⟩), .agg x.cells.toArray] W (DoesP w0 d r) := by
  show Calls Try.prog 26 #[.pointer (some ⟨d, 0, none⟩), .pointer (some ⟨r, 0, none⟩), .agg
    #[.int .i64 x.kind, .int .i64 x.n, .string x.a, .string x.to_, .slice x.ba x.b.length x.bcap, .int .u8 (x.tear.toNat : Int)]
    ] W (DoesP w0 d r)
  obtain ⟨q, hq⟩ : ∃ q, q = W.heap.size := ⟨_, rfl⟩
  obtain ⟨W1, hW1⟩ : ∃ V, V = W.alloc (.cells
    #[.int .i64 x.kind, .int .i64 x.n, .string x.a, .string x.to_, .slice x.ba x.b.length x.bcap, .int .u8 (x.tear.toNat : Int)]
    50) := ⟨_, rfl⟩
  have k1 : Kp No W W1 := by rw [hW1]; exact (Kp.refl _ _).alloc _
  have hq1 : W1.heap[q]? = some (.cells
    #[.int .i64 x.kind, .int .i64 x.n, .string x.a, .string x.to_, .slice x.ba x.b.length x.bcap, .int .u8 (x.tear.toNat : Int)]
    50 (0, 0)) := by rw [hW1, hq]; exact heap_alloc_new W _
  have HQ1 := Lib.hid hq1
  have HB1 := Lib.hid (hB.no k1)
  have HFq := Lib.hid (show ¬ F q from fun h => by have := hB.dk.lt q h; omega)
  have HGq := Lib.hid (show ¬ G q from fun h => by have := hB.rk.lt q h; omega)
  have HX := Lib.hid (hx.kp k1)
  have HDin := Lib.hid (show F d by obtain ⟨m, fu, le, L, _, _, _, h4, _⟩ := hB.dk; exact h4 d (.inl rfl))
  have HXO := Lib.hid hxo
  have HNM := Lib.hid hNm
  have HZ := Lib.hid hx
  have HSZ := Lib.hid (show W1.heap.size = q + 1 by rw [hW1, hq]; simp)
  have HW1 := Lib.hid hW1
  have hql : q < W1.heap.size := get_lt hq1
  have u0 : ∀ V : World, V.heap[q]? = some (.cells
    #[.int .i64 x.kind, .int .i64 x.n, .string x.a, .string x.to_, .slice x.ba x.b.length x.bcap, .int .u8 (x.tear.toNat : Int)]
    50 (0, 0)) → V.cell? ⟨q, 0, none⟩ = some (.int .i64 x.kind) := fun V h => by rw [cell_at h]; rfl
  have u1 : ∀ V : World, V.heap[q]? = some (.cells
    #[.int .i64 x.kind, .int .i64 x.n, .string x.a, .string x.to_, .slice x.ba x.b.length x.bcap, .int .u8 (x.tear.toNat : Int)]
    50 (0, 0)) → V.cell? ⟨q, 1, none⟩ = some (.int .i64 x.n) := fun V h => by rw [cell_at h]; rfl
  have u2 : ∀ V : World, V.heap[q]? = some (.cells
    #[.int .i64 x.kind, .int .i64 x.n, .string x.a, .string x.to_, .slice x.ba x.b.length x.bcap, .int .u8 (x.tear.toNat : Int)]
    50 (0, 0)) → V.cell? ⟨q, 2, none⟩ = some (.string x.a) := fun V h => by rw [cell_at h]; rfl
  have u3 : ∀ V : World, V.heap[q]? = some (.cells
    #[.int .i64 x.kind, .int .i64 x.n, .string x.a, .string x.to_, .slice x.ba x.b.length x.bcap, .int .u8 (x.tear.toNat : Int)]
    50 (0, 0)) → V.cell? ⟨q, 3, none⟩ = some (.string x.to_) := fun V h => by rw [cell_at h]; rfl
  have u4 : ∀ V : World, V.heap[q]? = some (.cells
    #[.int .i64 x.kind, .int .i64 x.n, .string x.a, .string x.to_, .slice x.ba x.b.length x.bcap, .int .u8 (x.tear.toNat : Int)]
    50 (0, 0)) → V.cell? ⟨q, 4, none⟩ = some (.slice x.ba x.b.length x.bcap) := fun V h => by rw [cell_at h]; rfl
  have u5 : ∀ V : World, V.heap[q]? = some (.cells
    #[.int .i64 x.kind, .int .i64 x.n, .string x.a, .string x.to_, .slice x.ba x.b.length x.bcap, .int .u8 (x.tear.toNat : Int)]
    50 (0, 0)) → V.cell? ⟨q, 5, none⟩ = some (.int .u8 (x.tear.toNat : Int)) := fun V h => by rw [cell_at h]; rfl
  have c0 := u0 W1 hq1
  clear hW1 k1 hq1 hB hx hxo hNm
  go_enter Try.func26, Try.ntmps26
  go_upto_region 1 with fail
  rw [← HW1.out, ← hq]
  clear HW1 hq
  have h8 : x.kind = 1 ∨ x.kind = 2 ∨ x.kind = 3 ∨ x.kind = 4 ∨ x.kind = 5 ∨ x.kind = 6 ∨ x.kind = 7 ∨ (x.kind ≠ 1 ∧ x.kind ≠ 2 ∧ x.kind ≠ 3 ∧ x.kind ≠ 4 ∧ x.kind ≠ 5 ∧ x.kind ≠ 6 ∧ x.kind ≠ 7) := by omega
  rcases h8 with hk | hk | hk | hk | hk | hk | hk | ⟨n1, n2, n3, n4, n5, n6, n7⟩
  · rw [hk] at c0
    obtain ⟨⟨cd, s'⟩, hcd⟩ : ∃ p : Int × DSt, p = wrS s x.a x.b := ⟨_, rfl⟩
    have HNM2 := Lib.hid (show NmOk s' by have := nm_wr HNM.out HZ.out.za x.b; rw [← hcd] at this; exact this)
    have HCD := Lib.hid hcd
    clear hcd
    have d4 := u4 W1 HQ1.out
    have hro := roomy_any W1 x.b x.ba x.bcap HX.out.b (by omega)
    have HRO := Lib.hid hro
    clear hro
    go_upto_region 8 with fail
    go_wp2_with fail
    refine HRO.out.mono ?_
    rintro e w2 ⟨a', c', rfl, ho2, hc2, hk2, hf2⟩
    have HO2 := Lib.hid ho2
    have HQ2 := Lib.hid (hk2.get HQ1.out fun x => x)
    have HB2 := Lib.hid (HB1.out.no hk2)
    have HKW := Lib.hid (show ∀ g, (Value.slice a' (x.b.length + 1) c').ownBlock = some g → ¬ F g ∧ ¬ G g ∧ w0.heap.size ≤ g ∧ g < w2.heap.size from fun g hg => by
      have h1 := hf2 g hg
      have h2 := HB1.out.kp.size
      refine ⟨fun h => ?_, fun h => ?_, by omega, ho2.lt g hg⟩
      · have := HB1.out.dk.lt g h; omega
      · have := HB1.out.rk.lt g h; omega)
    have HX2 := Lib.hid (HX.out.kp hk2)
    clear ho2 hk2 hf2 HRO d4
    obtain ⟨n, hn⟩ : ∃ n, n = x.b.length := ⟨_, rfl⟩
    have u4' : ∀ V : World, V.heap[q]? = some (.cells
      #[.int .i64 x.kind, .int .i64 x.n, .string x.a, .string x.to_, .slice x.ba x.b.length x.bcap, .int .u8 (x.tear.toNat : Int)]
      50 (0, 0)) → V.cell? ⟨q, 4, none⟩ = some (.slice x.ba n x.bcap) := by rw [hn]; exact u4
    rw [← hn] at hc2 ⊢
    clear u4
    have HN := Lib.hid hn
    have hnb : n ≤ 8000 := by omega
    have hnc : n ≤ c' := by omega
    have hql2 : q < w2.heap.size := get_lt HQ2.out
    clear hn
    go_upto_region 9 with fail
    refine wp_region_held' (fun W => W.heap[q]? = some (.cells
      #[.int .i64 x.kind, .int .i64 x.n, .string x.a, .string x.to_, .slice x.ba x.b.length x.bcap, .int .u8 (x.tear.toNat : Int)]
      50 (0, 0))) [0,0,0,0,0,0,0,0,2,0,0,0,0,0,2,0,0,0,0,0,2,0,0] [0,1,2,3,4,5,6,7,9,10,11,12,13,8,14,15,16,17,18,19,20,21,22] (by kernel_rfl) (by kernel_rfl) (fun _ n h => h) HQ2.out ?_
    repeat (first
      | (apply wpOrd_skip rfl (by decide) rfl; (focus (go_simp; rfl)))
      | (apply wpOrd_pure rfl rfl rfl; (focus (intro _ _; go_simp; (try go_ints); rfl)); (focus (go_simp; rfl)))
      | (apply wpOrd_read rfl rfl rfl; (focus (intro _; go_simp; (try go_ints); rfl)); (focus (go_simp; rfl))))
    refine wpOrd_eff rfl rfl (fun n1 => ?_)
    have hB2 := HB2.out.no ((Kp.refl No w2).drewN n1)
    have hrd2 : Rd (w2.drewN n1) (w2.drewN n1).heap.size a' (u8s x.b) := by
      have h1 := HO2.out.rd'.take x.b.length
      rw [u8s_take, List.take_left] at h1
      exact h1
    have hd := Write_any (w2.drewN n1) d s F hB2.dk x.a a' c' x.b hrd2 (by omega)
    rw [← HCD.out, ← HN.out] at hd
    have HD := Lib.hid hd
    clear hd hrd2
    go_wp2_with fail
    refine HD.out.mono ?_
    rintro e w3 ⟨rfl, F3, hD3, hf3, hk3⟩
    have hB3 := hB2.disk hD3 hf3 hk3
    have HQ3 := Lib.hid (hk3.get (show (w2.drewN n1).heap[q]? = _ from HQ2.out) HFq.out)
    have HO3 := Lib.hid ((show Own (w2.drewN n1) _ _ _ _ _ from HO2.out).keep hk3 fun g hg hF => (HKW.out g hg).1 hF)
    have HF3 := Lib.hid (show ∀ g, (Value.slice a' (x.b.length + 1) c').ownBlock = some g → ¬ F3 g from fun g hg => foot_no hf3 (HKW.out g hg).2.2.2 (HKW.out g hg).1)
    have HX3 := Lib.hid (show Rd w3 w3.heap.size x.ba (u8s x.b) from (show Rd (w2.drewN n1) (w2.drewN n1).heap.size x.ba (u8s x.b) from HX2.out.b).keep_at hk3 fun h0 k o hk hF => by
      have h1 := HXO.out h0 k o hk
      have h2 := HB2.out.fn k hF
      omega)
    have HB3 := Lib.hid hB3
    have hs3 : w2.heap.size ≤ w3.heap.size := hk3.size
    clear hB2 HD hD3 hf3 hk3 hB3
    have hq3 := HQ3.out
    go_wp2_with fail
    repeat (first
      | (apply wpOrd_skip rfl (by decide) rfl; (focus (go_simp; rfl)))
      | (apply wpOrd_pure rfl rfl rfl; (focus (intro _ _; go_simp; (try go_ints); rfl)); (focus (go_simp; rfl)))
      | (apply wpOrd_read rfl rfl rfl; (focus (intro _; go_simp; (try go_ints); rfl)); (focus (go_simp; rfl))))
    refine wpOrd_eff rfl rfl (fun n2 => ?_)
    have hB3 := HB3.out.no ((Kp.refl No w3).drewN n2)
    have hr := rWrite_any (w3.drewN n2) r s G hB3.rk x.a x.ba x.bcap x.b HX3.out (by omega) (fun h0 k o hk hG => by
      have h1 := HXO.out h0 k o hk
      have h2 := HB3.out.gn k hG
      omega)
    rw [← HCD.out, ← HN.out] at hr
    have HR := Lib.hid hr
    clear hr hq3
    go_wp2_with fail
    refine HR.out.mono ?_
    rintro e w4 ⟨rfl, G4, hR4, hf4, hk4⟩
    have hB4 := hB3.ref hR4 hf4 hk4
    have HQ4 := Lib.hid (hk4.get (show (w3.drewN n2).heap[q]? = _ from HQ3.out) HGq.out)
    have HO4 := Lib.hid ((show Own (w3.drewN n2) _ _ _ _ _ from HO3.out).keep hk4 fun g hg hG => (HKW.out g hg).2.1 hG)
    have HG4 := Lib.hid (show ∀ g, (Value.slice a' (x.b.length + 1) c').ownBlock = some g → ¬ G4 g from fun g hg => foot_no hf4 (by have := (HKW.out g hg).2.2.2; show g < w3.heap.size; omega) (HKW.out g hg).2.1)
    have HX4 := Lib.hid (show Rd w4 w4.heap.size x.ba (u8s x.b) from (show Rd (w3.drewN n2) (w3.drewN n2).heap.size x.ba (u8s x.b) from HX3.out).keep_at hk4 fun h0 k o hk hG => by
      have h1 := HXO.out h0 k o hk
      have h2 := HB3.out.gn k hG
      omega)
    have HB4 := Lib.hid hB4
    clear hB3 HR hR4 hf4 hk4 hB4 hs3
    have hq4 := HQ4.out
    go_wp2_with fail
    repeat (first
      | (apply wpOrd_skip rfl (by decide) rfl; (focus (go_simp; rfl)))
      | (apply wpOrd_pure rfl rfl rfl; (focus (intro _ _; go_simp; (try go_ints); rfl)); (focus (go_simp; rfl)))
      | (apply wpOrd_read rfl rfl rfl; (focus (intro _; go_simp; (try go_ints); rfl)); (focus (go_simp; rfl))))
    refine wpOrd_eff rfl rfl (fun n3 => ?_)
    have hst := stands_any (w4.drewN n3) x.b a' x.ba c' x.bcap (HO4.out.drewN n3) HX4.out (by omega)
    rw [← HN.out] at hst
    have HST := Lib.hid hst
    clear hst hq4
    go_wp2_with fail
    refine HST.out.mono ?_
    rintro e w5 ⟨rfl, hk5⟩
    have hk5' : Kp No w4 w5 := hk5.of_drewN
    have HB5 := Lib.hid (HB4.out.no hk5')
    have HO5 := Lib.hid (HO4.out.keep hk5' fun _ _ x => x)
    have hq5 := hk5'.get HQ4.out fun x => x
    clear hk5 hk5' HST
    go_wp2_with fail
    repeat (first
      | (apply wpOrd_skip rfl (by decide) rfl; (focus (go_simp; rfl)))
      | (apply wpOrd_pure rfl rfl rfl; (focus (intro _ _; go_simp; (try go_ints); rfl)); (focus (go_simp; rfl)))
      | (apply wpOrd_read rfl rfl rfl; (focus (intro _; go_simp; (try go_ints); rfl)); (focus (go_simp; rfl))))
    refine wpOrd_nil (fun nq => ?_)
    obtain ⟨V, hV⟩ : ∃ V, V = w5.drewN nq := ⟨_, rfl⟩
    have hBV : Bo w0 V d r s' s' F3 G4 := by rw [hV]; exact HB5.out.no ((Kp.refl No w5).drewN nq)
    have hOV : Own V 5 1 (.slice a' (x.b.length + 1) c') (x.b.length + 1) (u8s (x.b ++ [171])) := by rw [hV]; exact HO5.out
    rw [← hV]
    have el : (x.b ++ [171]).length = x.b.length + 1 := by simp
    have hsp := spoil_any V (x.b ++ [171]) a' c' (by rw [el]; exact hOV) (by rw [el]; omega)
    rw [el] at hsp
    have HKS := Lib.hid (show ∀ k, (Value.slice a' (x.b.length + 1) c').ownBlock = some k → ¬ F3 k ∧ ¬ G4 k ∧ w0.heap.size ≤ k from fun k hk => ⟨HF3.out k hk, HG4.out k hk, (HKW.out k hk).2.2.1⟩)
    rw [← HN.out] at hsp HKS
    have HSP := Lib.hid hsp
    have HBV := Lib.hid hBV
    clear hV hBV hOV el hsp hq5
    go_wp2_with fail
    refine HSP.out.mono ?_
    rintro e w6 ⟨rfl, hk6⟩
    have HB6 := Lib.hid (HBV.out.other hk6 HKS.out)
    clear hk6 HSP
    go_wp2_with fail
    go_ret
    exact ⟨s', _, _, rfl, HNM2.out, HB6.out⟩
  · rw [hk] at c0
    obtain ⟨⟨cd, s'⟩, hcd⟩ : ∃ p : Int × DSt, p = syS s x.a := ⟨_, rfl⟩
    have HNM2 := Lib.hid (show NmOk s' by have := nm_sy HNM.out HZ.out.za; rw [← hcd] at this; exact this)
    have HCD := Lib.hid hcd
    clear hcd
    go_upto_region 13 with fail
    refine wp_region_held' (fun W => W.heap[q]? = some (.cells
      #[.int .i64 x.kind, .int .i64 x.n, .string x.a, .string x.to_, .slice x.ba x.b.length x.bcap, .int .u8 (x.tear.toNat : Int)]
      50 (0, 0))) [0,0,0,2,0,0,0,2,0,0] [0,1,2,4,5,6,3,7,8,9] (by kernel_rfl) (by kernel_rfl) (fun _ n h => h) HQ1.out ?_
    repeat (first
      | (apply wpOrd_skip rfl (by decide) rfl; (focus (go_simp; rfl)))
      | (apply wpOrd_pure rfl rfl rfl; (focus (intro _ _; go_simp; (try go_ints); rfl)); (focus (go_simp; rfl)))
      | (apply wpOrd_read rfl rfl rfl; (focus (intro _; go_simp; (try go_ints); rfl)); (focus (go_simp; rfl))))
    refine wpOrd_eff rfl rfl (fun n1 => ?_)
    have hB1 := HB1.out.no ((Kp.refl No W1).drewN n1)
    have hd := Sync_any (W1.drewN n1) d s F hB1.dk x.a
    rw [← HCD.out] at hd
    have HD := Lib.hid hd
    clear hd
    go_wp2_with fail
    refine HD.out.mono ?_
    rintro e w2 ⟨rfl, F2, hD2, hf2, hk2⟩
    have hB2 := hB1.disk hD2 hf2 hk2
    have hq2 := hk2.get (show (W1.drewN n1).heap[q]? = _ from HQ1.out) HFq.out
    have HB2 := Lib.hid hB2
    have HQ2 := Lib.hid hq2
    clear hB1 HD hD2 hf2 hk2 hB2
    go_wp2_with fail
    repeat (first
      | (apply wpOrd_skip rfl (by decide) rfl; (focus (go_simp; rfl)))
      | (apply wpOrd_pure rfl rfl rfl; (focus (intro _ _; go_simp; (try go_ints); rfl)); (focus (go_simp; rfl)))
      | (apply wpOrd_read rfl rfl rfl; (focus (intro _; go_simp; (try go_ints); rfl)); (focus (go_simp; rfl))))
    refine wpOrd_eff rfl rfl (fun n2 => ?_)
    have hB2 := HB2.out.no ((Kp.refl No w2).drewN n2)
    have hr := rSync_any (w2.drewN n2) r s G hB2.rk x.a
    rw [← HCD.out] at hr
    have HR := Lib.hid hr
    clear hr
    go_wp2_with fail
    refine HR.out.mono ?_
    rintro e w3 ⟨rfl, G3, hR3, hf3, hk3⟩
    have hB3 := hB2.ref hR3 hf3 hk3
    have hq3 := hk3.get (show (w2.drewN n2).heap[q]? = _ from HQ2.out) HGq.out
    have HB3 := Lib.hid hB3
    clear hB2 HR hR3 hf3 hk3 hB3
    go_wp2_with fail
    repeat (first
      | (apply wpOrd_skip rfl (by decide) rfl; (focus (go_simp; rfl)))
      | (apply wpOrd_pure rfl rfl rfl; (focus (intro _ _; go_simp; (try go_ints); rfl)); (focus (go_simp; rfl)))
      | (apply wpOrd_read rfl rfl rfl; (focus (intro _; go_simp; (try go_ints); rfl)); (focus (go_simp; rfl))))
    refine wpOrd_nil (fun nq => ?_)
    have HB4 := Lib.hid (HB3.out.no ((Kp.refl No w3).drewN nq))
    clear hq3
    go_wp2_with fail
    go_ret
    exact ⟨s', _, _, rfl, HNM2.out, HB4.out⟩
  · rw [hk] at c0
    obtain ⟨⟨cd, s'⟩, hcd⟩ : ∃ p : Int × DSt, p = cuS s x.a x.n := ⟨_, rfl⟩
    have HNM2 := Lib.hid (show NmOk s' by have := nm_cu HNM.out HZ.out.za x.n; rw [← hcd] at this; exact this)
    have HCD := Lib.hid hcd
    clear hcd
    go_upto_region 15 with fail
    refine wp_region_held' (fun W => W.heap[q]? = some (.cells
      #[.int .i64 x.kind, .int .i64 x.n, .string x.a, .string x.to_, .slice x.ba x.b.length x.bcap, .int .u8 (x.tear.toNat : Int)]
      50 (0, 0))) [0,0,0,0,0,2,0,0,0,0,0,2,0,0] [0,1,2,3,4,6,7,8,9,10,5,11,12,13] (by kernel_rfl) (by kernel_rfl) (fun _ n h => h) HQ1.out ?_
    repeat (first
      | (apply wpOrd_skip rfl (by decide) rfl; (focus (go_simp; rfl)))
      | (apply wpOrd_pure rfl rfl rfl; (focus (intro _ _; go_simp; (try go_ints); rfl)); (focus (go_simp; rfl)))
      | (apply wpOrd_read rfl rfl rfl; (focus (intro _; go_simp; (try go_ints); rfl)); (focus (go_simp; rfl))))
    refine wpOrd_eff rfl rfl (fun n1 => ?_)
    have hB1 := HB1.out.no ((Kp.refl No W1).drewN n1)
    have hd := Cut_any (W1.drewN n1) d s F hB1.dk x.a x.n
    rw [← HCD.out] at hd
    have HD := Lib.hid hd
    clear hd
    go_wp2_with fail
    refine HD.out.mono ?_
    rintro e w2 ⟨rfl, F2, hD2, hf2, hk2⟩
    have hB2 := hB1.disk hD2 hf2 hk2
    have hq2 := hk2.get (show (W1.drewN n1).heap[q]? = _ from HQ1.out) HFq.out
    have HB2 := Lib.hid hB2
    have HQ2 := Lib.hid hq2
    clear hB1 HD hD2 hf2 hk2 hB2
    go_wp2_with fail
    repeat (first
      | (apply wpOrd_skip rfl (by decide) rfl; (focus (go_simp; rfl)))
      | (apply wpOrd_pure rfl rfl rfl; (focus (intro _ _; go_simp; (try go_ints); rfl)); (focus (go_simp; rfl)))
      | (apply wpOrd_read rfl rfl rfl; (focus (intro _; go_simp; (try go_ints); rfl)); (focus (go_simp; rfl))))
    refine wpOrd_eff rfl rfl (fun n2 => ?_)
    have hB2 := HB2.out.no ((Kp.refl No w2).drewN n2)
    have hr := rCut_any (w2.drewN n2) r s G hB2.rk x.a x.n
    rw [← HCD.out] at hr
    have HR := Lib.hid hr
    clear hr
    go_wp2_with fail
    refine HR.out.mono ?_
    rintro e w3 ⟨rfl, G3, hR3, hf3, hk3⟩
    have hB3 := hB2.ref hR3 hf3 hk3
    have hq3 := hk3.get (show (w2.drewN n2).heap[q]? = _ from HQ2.out) HGq.out
    have HB3 := Lib.hid hB3
    clear hB2 HR hR3 hf3 hk3 hB3
    go_wp2_with fail
    repeat (first
      | (apply wpOrd_skip rfl (by decide) rfl; (focus (go_simp; rfl)))
      | (apply wpOrd_pure rfl rfl rfl; (focus (intro _ _; go_simp; (try go_ints); rfl)); (focus (go_simp; rfl)))
      | (apply wpOrd_read rfl rfl rfl; (focus (intro _; go_simp; (try go_ints); rfl)); (focus (go_simp; rfl))))
    refine wpOrd_nil (fun nq => ?_)
    have HB4 := Lib.hid (HB3.out.no ((Kp.refl No w3).drewN nq))
    clear hq3
    go_wp2_with fail
    go_ret
    exact ⟨s', _, _, rfl, HNM2.out, HB4.out⟩
  · rw [hk] at c0
    obtain ⟨⟨cd, s'⟩, hcd⟩ : ∃ p : Int × DSt, p = mvS s x.a x.to_ := ⟨_, rfl⟩
    have HNM2 := Lib.hid (show NmOk s' by have := nm_mv (a := x.a) HNM.out HZ.out.zt; rw [← hcd] at this; exact this)
    have HCD := Lib.hid hcd
    clear hcd
    go_upto_region 17 with fail
    refine wp_region_held' (fun W => W.heap[q]? = some (.cells
      #[.int .i64 x.kind, .int .i64 x.n, .string x.a, .string x.to_, .slice x.ba x.b.length x.bcap, .int .u8 (x.tear.toNat : Int)]
      50 (0, 0))) [0,0,0,0,0,2,0,0,0,0,0,2,0,0] [0,1,2,3,4,6,7,8,9,10,5,11,12,13] (by kernel_rfl) (by kernel_rfl) (fun _ n h => h) HQ1.out ?_
    repeat (first
      | (apply wpOrd_skip rfl (by decide) rfl; (focus (go_simp; rfl)))
      | (apply wpOrd_pure rfl rfl rfl; (focus (intro _ _; go_simp; (try go_ints); rfl)); (focus (go_simp; rfl)))
      | (apply wpOrd_read rfl rfl rfl; (focus (intro _; go_simp; (try go_ints); rfl)); (focus (go_simp; rfl))))
    refine wpOrd_eff rfl rfl (fun n1 => ?_)
    have hB1 := HB1.out.no ((Kp.refl No W1).drewN n1)
    have hd := Rename_any (W1.drewN n1) d s F hB1.dk x.a x.to_
    rw [← HCD.out] at hd
    have HD := Lib.hid hd
    clear hd
    go_wp2_with fail
    refine HD.out.mono ?_
    rintro e w2 ⟨rfl, F2, hD2, hf2, hk2⟩
    have hB2 := hB1.disk hD2 hf2 hk2
    have hq2 := hk2.get (show (W1.drewN n1).heap[q]? = _ from HQ1.out) HFq.out
    have HB2 := Lib.hid hB2
    have HQ2 := Lib.hid hq2
    clear hB1 HD hD2 hf2 hk2 hB2
    go_wp2_with fail
    repeat (first
      | (apply wpOrd_skip rfl (by decide) rfl; (focus (go_simp; rfl)))
      | (apply wpOrd_pure rfl rfl rfl; (focus (intro _ _; go_simp; (try go_ints); rfl)); (focus (go_simp; rfl)))
      | (apply wpOrd_read rfl rfl rfl; (focus (intro _; go_simp; (try go_ints); rfl)); (focus (go_simp; rfl))))
    refine wpOrd_eff rfl rfl (fun n2 => ?_)
    have hB2 := HB2.out.no ((Kp.refl No w2).drewN n2)
    have hr := rRename_any (w2.drewN n2) r s G hB2.rk x.a x.to_
    rw [← HCD.out] at hr
    have HR := Lib.hid hr
    clear hr
    go_wp2_with fail
    refine HR.out.mono ?_
    rintro e w3 ⟨rfl, G3, hR3, hf3, hk3⟩
    have hB3 := hB2.ref hR3 hf3 hk3
    have hq3 := hk3.get (show (w2.drewN n2).heap[q]? = _ from HQ2.out) HGq.out
    have HB3 := Lib.hid hB3
    clear hB2 HR hR3 hf3 hk3 hB3
    go_wp2_with fail
    repeat (first
      | (apply wpOrd_skip rfl (by decide) rfl; (focus (go_simp; rfl)))
      | (apply wpOrd_pure rfl rfl rfl; (focus (intro _ _; go_simp; (try go_ints); rfl)); (focus (go_simp; rfl)))
      | (apply wpOrd_read rfl rfl rfl; (focus (intro _; go_simp; (try go_ints); rfl)); (focus (go_simp; rfl))))
    refine wpOrd_nil (fun nq => ?_)
    have HB4 := Lib.hid (HB3.out.no ((Kp.refl No w3).drewN nq))
    clear hq3
    go_wp2_with fail
    go_ret
    exact ⟨s', _, _, rfl, HNM2.out, HB4.out⟩
  · rw [hk] at c0
    obtain ⟨⟨cd, s'⟩, hcd⟩ : ∃ p : Int × DSt, p = rmS s x.a := ⟨_, rfl⟩
    have HNM2 := Lib.hid (show NmOk s' by have := nm_rm HNM.out x.a; rw [← hcd] at this; exact this)
    have HCD := Lib.hid hcd
    clear hcd
    go_upto_region 19 with fail
    refine wp_region_held' (fun W => W.heap[q]? = some (.cells
      #[.int .i64 x.kind, .int .i64 x.n, .string x.a, .string x.to_, .slice x.ba x.b.length x.bcap, .int .u8 (x.tear.toNat : Int)]
      50 (0, 0))) [0,0,0,2,0,0,0,2,0,0] [0,1,2,4,5,6,3,7,8,9] (by kernel_rfl) (by kernel_rfl) (fun _ n h => h) HQ1.out ?_
    repeat (first
      | (apply wpOrd_skip rfl (by decide) rfl; (focus (go_simp; rfl)))
      | (apply wpOrd_pure rfl rfl rfl; (focus (intro _ _; go_simp; (try go_ints); rfl)); (focus (go_simp; rfl)))
      | (apply wpOrd_read rfl rfl rfl; (focus (intro _; go_simp; (try go_ints); rfl)); (focus (go_simp; rfl))))
    refine wpOrd_eff rfl rfl (fun n1 => ?_)
    have hB1 := HB1.out.no ((Kp.refl No W1).drewN n1)
    have hd := Remove_any (W1.drewN n1) d s F hB1.dk x.a
    rw [← HCD.out] at hd
    have HD := Lib.hid hd
    clear hd
    go_wp2_with fail
    refine HD.out.mono ?_
    rintro e w2 ⟨rfl, F2, hD2, hf2, hk2⟩
    have hB2 := hB1.disk hD2 hf2 hk2
    have hq2 := hk2.get (show (W1.drewN n1).heap[q]? = _ from HQ1.out) HFq.out
    have HB2 := Lib.hid hB2
    have HQ2 := Lib.hid hq2
    clear hB1 HD hD2 hf2 hk2 hB2
    go_wp2_with fail
    repeat (first
      | (apply wpOrd_skip rfl (by decide) rfl; (focus (go_simp; rfl)))
      | (apply wpOrd_pure rfl rfl rfl; (focus (intro _ _; go_simp; (try go_ints); rfl)); (focus (go_simp; rfl)))
      | (apply wpOrd_read rfl rfl rfl; (focus (intro _; go_simp; (try go_ints); rfl)); (focus (go_simp; rfl))))
    refine wpOrd_eff rfl rfl (fun n2 => ?_)
    have hB2 := HB2.out.no ((Kp.refl No w2).drewN n2)
    have hr := rRemove_any (w2.drewN n2) r s G hB2.rk x.a
    rw [← HCD.out] at hr
    have HR := Lib.hid hr
    clear hr
    go_wp2_with fail
    refine HR.out.mono ?_
    rintro e w3 ⟨rfl, G3, hR3, hf3, hk3⟩
    have hB3 := hB2.ref hR3 hf3 hk3
    have hq3 := hk3.get (show (w2.drewN n2).heap[q]? = _ from HQ2.out) HGq.out
    have HB3 := Lib.hid hB3
    clear hB2 HR hR3 hf3 hk3 hB3
    go_wp2_with fail
    repeat (first
      | (apply wpOrd_skip rfl (by decide) rfl; (focus (go_simp; rfl)))
      | (apply wpOrd_pure rfl rfl rfl; (focus (intro _ _; go_simp; (try go_ints); rfl)); (focus (go_simp; rfl)))
      | (apply wpOrd_read rfl rfl rfl; (focus (intro _; go_simp; (try go_ints); rfl)); (focus (go_simp; rfl))))
    refine wpOrd_nil (fun nq => ?_)
    have HB4 := Lib.hid (HB3.out.no ((Kp.refl No w3).drewN nq))
    clear hq3
    go_wp2_with fail
    go_ret
    exact ⟨s', _, _, rfl, HNM2.out, HB4.out⟩
  · rw [hk] at c0
    have d1 := u1 W1 HQ1.out
    have hd := Fuse_any W1 d s F HB1.out.dk x.n HZ.out.n.2
    have HD := Lib.hid hd
    clear hd
    go_wp2_with fail
    refine HD.out.mono ?_
    rintro e w2 ⟨rfl, hD2, hk2⟩
    have hkF : Kp F W1 w2 := hk2.mono fun i _ (e : i = d) => by rw [e]; exact HDin.out
    have hB2 := HB1.out.disk hD2 (Foot.refl _ _) hkF
    have hq2 := hkF.get HQ1.out HFq.out
    have e1 := u1 w2 hq2
    have hql2 : q < w2.heap.size := get_lt hq2
    have hr := rFuse_any w2 r s G hB2.rk x.n HZ.out.n.2
    have HR := Lib.hid hr
    have HB2 := Lib.hid hB2
    have HQ2 := Lib.hid hq2
    clear hD2 hk2 hkF hB2 hq2 hr HD
    go_wp2_with fail
    refine HR.out.mono ?_
    rintro e w3 ⟨rfl, hR3, hk3⟩
    have HB3 := Lib.hid (HB2.out.ref hR3 (Foot.refl _ _) hk3)
    clear hR3 hk3 HR
    go_wp2_with fail
    go_ret
    exact ⟨fuS s x.n, _, _, rfl, HNM.out, HB3.out⟩
  · rw [hk] at c0
    have d1 := u1 W1 HQ1.out
    have d5 := u5 W1 HQ1.out
    have hd := Crash_any W1 d s F HB1.out.dk x.n HZ.out.n.1 HZ.out.n.2 x.tear
    have HD := Lib.hid hd
    clear hd
    go_wp2_with fail
    refine HD.out.mono ?_
    rintro e w2 ⟨rfl, hD2, hkF⟩
    have hB2 := HB1.out.disk hD2 (Foot.refl _ _) hkF
    have hq2 := hkF.get HQ1.out HFq.out
    have e1 := u1 w2 hq2
    have e5 := u5 w2 hq2
    have hql2 : q < w2.heap.size := get_lt hq2
    have hr := rCrash_any w2 r s G hB2.rk x.n HZ.out.n.1 HZ.out.n.2 x.tear
    have HR := Lib.hid hr
    have HB2 := Lib.hid hB2
    clear hD2 hkF hB2 hq2 hr HD
    go_wp2_with fail
    refine HR.out.mono ?_
    rintro e w3 ⟨rfl, G3, hR3, hf3, hk3⟩
    have HB3 := Lib.hid (HB2.out.ref hR3 hf3 hk3)
    clear hR3 hk3 hf3 HR
    go_wp2_with fail
    go_ret
    exact ⟨crS s x.n x.tear, _, _, rfl, nm_cr HNM.out _ _, HB3.out⟩
  · have f1 : (x.kind == 1) = false := by simpa using n1
    have f2 : (x.kind == 2) = false := by simpa using n2
    have f3 : (x.kind == 3) = false := by simpa using n3
    have f4 : (x.kind == 4) = false := by simpa using n4
    have f5 : (x.kind == 5) = false := by simpa using n5
    have f6 : (x.kind == 6) = false := by simpa using n6
    have f7 : (x.kind == 7) = false := by simpa using n7
    have d2 := u2 W1 HQ1.out
    have hd := Read_any W1 d s F HB1.out.dk x.a
    obtain ⟨⟨D, cd⟩, hcd⟩ : ∃ p : List UInt8 × Int, p = rdS s.files x.a := ⟨_, rfl⟩
    unfold ReadPost at hd
    rw [← hcd] at hd
    have hDs : D.length ≤ 1073741824 := by have := rd_small HB1.out.dk x.a; rw [← hcd] at this; exact this
    have HD := Lib.hid hd
    have HCD := Lib.hid hcd
    clear hd hcd n1 n2 n3 n4 n5 n6 n7
    go_wp2_with fail
    refine HD.out.mono ?_
    rintro e w2 ⟨v2, rfl, ho2, hk2, hf2, _⟩
    obtain ⟨a2, e2, rfl, _, _⟩ := ho2.rd
    (try simp only at ho2)
    have HO2 := Lib.hid ho2
    have HF2 := Lib.hid hf2
    have hq2 := hk2.get HQ1.out fun x => x
    have d2' := u2 w2 hq2
    have hql2 : q < w2.heap.size := get_lt hq2
    have HB2 := Lib.hid (HB1.out.no hk2)
    have hr := rRead_any w2 r s G HB2.out.rk x.a
    unfold RReadPost at hr
    rw [← HCD.out] at hr
    have HR := Lib.hid hr
    clear ho2 hf2 hk2 hr HD
    go_wp2_with fail
    refine HR.out.mono ?_
    rintro e w3 ⟨v3, rfl, ho3, hk3, _⟩
    obtain ⟨a3, e3, rfl, _, _⟩ := ho3.rd
    (try simp only at ho3)
    have HB3 := Lib.hid (HB2.out.no hk3)
    have HO3 := Lib.hid (HO2.out.keep hk3 fun _ _ x => x)
    have hsm := same_any a2 a3 e2 e3 w3.heap.size w3.heap.size D D w3 HO3.out.rd' ho3.rd' (by omega)
    have HSM := Lib.hid hsm
    clear hsm ho3 hk3 HR hq2 d2'
    go_wp2_with fail
    refine HSM.out.mono ?_
    rintro e w4 ⟨rfl, n4, rfl⟩
    obtain ⟨V, hV⟩ : ∃ V, V = w3.drewN n4 := ⟨_, rfl⟩
    have hBV : Bo w0 V d r s s F G := by rw [hV]; exact HB3.out.no ((Kp.refl No w3).drewN n4)
    have hOV : Own V 5 1 (.slice a2 D.length e2) D.length (u8s D) := by rw [hV]; exact HO3.out
    rw [← hV]
    (try simp only [decide_true])
    have hsp := spoil_any V D a2 e2 hOV (by omega)
    have HKS := Lib.hid (show ∀ k, (Value.slice a2 D.length e2).ownBlock = some k → ¬ F k ∧ ¬ G k ∧ w0.heap.size ≤ k from fun k hk => by
      have h1 := HF2.out k hk
      have h2 := HB1.out.kp.size
      refine ⟨fun h => ?_, fun h => ?_, by omega⟩
      · have := HB1.out.dk.lt k h; omega
      · have := HB1.out.rk.lt k h; omega)
    have HSP := Lib.hid hsp
    have HBV := Lib.hid hBV
    clear hV hBV hOV hsp
    go_wp2_with fail
    refine HSP.out.mono ?_
    rintro e w6 ⟨rfl, hk6⟩
    have HB6 := Lib.hid (HBV.out.other hk6 HKS.out)
    clear hk6 HSP
    go_wp2_with fail
    go_ret
    exact ⟨s, _, _, rfl, HNM.out, HB6.out⟩
end Go.Proofs.Ytenidddbjobblaa
