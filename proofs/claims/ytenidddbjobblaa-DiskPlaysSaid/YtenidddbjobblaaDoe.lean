/-
  The disk and the reference's disk side by side; bytes with room behind them.
-/
import Derived.Test.YtenidddbjobblaaRWalk
import Derived.Test.YtenidddbjobblaaDiskSame
import Derived.Test.YtenidddbjobblaaDiskCrash
import Derived.Deep.CutRange
namespace Go.Proofs.Ytenidddbjobblaa
open Go.RowKit Go.Mer

structure Bo (w W : World) (d r : Nat) (sd sr : DSt) (F G : Nat → Prop) : Prop where
  kp : Kp No w W
  dk : DiskAt W d sd F
  rk : RAt W r sr G
  dis : ∀ k, F k → ¬ G k
  fn : ∀ k, F k → w.heap.size ≤ k
  gn : ∀ k, G k → w.heap.size ≤ k
section
variable {w W W' : World} {d r : Nat} {sd sr s' : DSt} {F F' G G' : Nat → Prop}
theorem DiskAt.lt {s : DSt} (h : DiskAt W d s F) : ∀ k, F k → k < W.heap.size := by obtain ⟨_, _, _, _, _, _, _, _, h⟩ := h; exact h
theorem RAt.lt {s : DSt} (h : RAt W r s G) : ∀ k, G k → k < W.heap.size := by obtain ⟨_, _, _, _, _, h⟩ := h; exact h
theorem Bo.no (h : Bo w W d r sd sr F G) (hk : Kp No W W') : Bo w W' d r sd sr F G := ⟨h.kp.trans_same hk, h.dk.keep_no hk, h.rk.keep_no hk, h.dis, h.fn, h.gn⟩
theorem Bo.disk (h : Bo w W d r sd sr F G) (hD : DiskAt W' d s' F') (hf : Foot F F' W) (hk : Kp F W W') : Bo w W' d r s' sr F' G :=
  ⟨h.kp.trans hk fun i hi hF => by have := h.fn i hF; omega, hD, h.rk.keep hk fun k hG hF => h.dis k hF hG, fun k hk' hG => by
    rcases hf k hk' with h1 | h1
    · exact h.dis k h1 hG
    · have := h.rk.lt k hG
      omega, fun k hk' => by
    rcases hf k hk' with h1 | h1
    · exact h.fn k h1
    · exact Nat.le_trans h.kp.size h1, h.gn⟩
theorem Bo.ref (h : Bo w W d r sd sr F G) (hR : RAt W' r s' G') (hf : Foot G G' W) (hk : Kp G W W') : Bo w W' d r sd s' F G' :=
  ⟨h.kp.trans hk fun i hi hG => by have := h.gn i hG; omega, h.dk.keep hk fun k hF hG => h.dis k hF hG, hR, fun k hF hk' => by
    rcases hf k hk' with h1 | h1
    · exact h.dis k hF h1
    · have := h.dk.lt k hF
      omega, h.fn, fun k hk' => by
    rcases hf k hk' with h1 | h1
    · exact h.gn k h1
    · exact Nat.le_trans h.kp.size h1⟩
/-- A block that is neither's. -/
theorem foot_no {g : Nat} (hf : Foot F F' W) (hg : g < W.heap.size) (hn : ¬ F g) : ¬ F' g := fun h => by
  rcases hf g h with h1 | h1
  · exact hn h1
  · omega
/-- A beginning of a row of one's own, with the room behind it. -/
theorem own_take {e : TypeId} {a : Option Addr} {n cap : Nat} {xs : List Value} (h : Own W e 1 (.slice a n cap) n xs) (k : Nat) (hk : k ≤ n) : Own W e 1 (.slice a k cap) k (xs.take k) := by
  obtain ⟨hl, a', cap', hv, h1, h2, h3, h4⟩ := h
  injection hv with hv1 hv2 hv3
  subst hv1; subst hv3
  refine ⟨by rw [List.length_take, hl]; omega, a, cap, rfl, by omega, h2, h3, fun ad had => ?_⟩
  obtain ⟨g, off, cur, rfl, hg, hfit, hx⟩ := h4 ad had
  refine ⟨g, off, cur, rfl, hg, hfit, ?_⟩
  rw [← hx, List.take_take, Nat.mul_one, Nat.mul_one, Nat.min_eq_left hk]
end
set_option maxHeartbeats 1000000 in
theorem roomy_any (w : World) (xs : List UInt8) (a : Option Addr) (c : Nat) (hx : Rd w w.heap.size a (u8s xs)) (hl : xs.length ≤ 1073741824) :
    Calls Try.prog 37 #[.slice a xs.length c] w fun e w' => ∃ a' c', e = .returned (.slice a' (xs.length + 1) c') ∧ Own w' 5 1 (.slice a' (xs.length + 1) c') (xs.length + 1) (u8s (xs ++ [171])) ∧ xs.length + 2 ≤ c' ∧ Kp No w w' ∧ ∀ g, (Value.slice a' (xs.length + 1) c').ownBlock = some g → w.heap.size ≤ g := by
  obtain ⟨a1, c1, w1, r1, o1, k1, b1⟩ := cpy_bytes w xs a c hx (by omega)
  obtain ⟨W2, hW2⟩ : ∃ W, W = w1.alloc (.cells #[.int .u8 171] 5) := ⟨_, rfl⟩
  have k2 : Kp No w1 W2 := by rw [hW2]; exact (Kp.refl _ _).alloc _
  have b2 : W2.heap[w1.heap.size]? = some (.cells #[.int .u8 171] 5 (0, 0)) := by rw [hW2]; exact heap_alloc_new w1 _
  have d2 : Rd W2 W2.heap.size (some ⟨w1.heap.size, 0, none⟩) (u8s [171]) := Rd.row (n := 1) b2 rfl (get_lt b2) (Nat.le_refl _)
  obtain ⟨a3, c3, w3, r3, o3, k3, b3⟩ := app_bytes W2 (.slice a1 xs.length c1) xs [171] (o1.keep k2 fun _ _ x => x) (some ⟨w1.heap.size, 0, none⟩) 1 d2 (by simp; omega)
  have b3' : ∀ g, (Value.slice a3 (xs ++ [171]).length c3).ownBlock = some g → w.heap.size ≤ g := fun g hg => by
    rcases b3 with h | ⟨g', h, h'⟩
    · rw [h] at hg; exact b1 g hg
    · rw [h] at hg
      injection hg with hg
      have := k1.size
      have := k2.size
      omega
  have kw3 : Kp No w w3 := (k1.trans_same k2).trans k3 fun i hi hs => by have := b1 i hs; omega
  obtain ⟨W4, hW4⟩ : ∃ W, W = w3.alloc (.cells #[.int .u8 171] 5) := ⟨_, rfl⟩
  have k4 : Kp No w3 W4 := by rw [hW4]; exact (Kp.refl _ _).alloc _
  have b4 : W4.heap[w3.heap.size]? = some (.cells #[.int .u8 171] 5 (0, 0)) := by rw [hW4]; exact heap_alloc_new w3 _
  have d4 : Rd W4 W4.heap.size (some ⟨w3.heap.size, 0, none⟩) (u8s [171]) := Rd.row (n := 1) b4 rfl (get_lt b4) (Nat.le_refl _)
  obtain ⟨a5, c5, w5, r5, o5, k5, b5⟩ := app_bytes W4 (.slice a3 (xs ++ [171]).length c3) (xs ++ [171]) [171] (o3.keep k4 fun _ _ x => x) (some ⟨w3.heap.size, 0, none⟩) 1 d4 (by simp; omega)
  have b5' : ∀ g, (Value.slice a5 ((xs ++ [171]) ++ [171]).length c5).ownBlock = some g → w.heap.size ≤ g := fun g hg => by
    rcases b5 with h | ⟨g', h, h'⟩
    · rw [h] at hg; exact b3' g hg
    · rw [h] at hg
      injection hg with hg
      have := kw3.size
      have := k4.size
      omega
  have kw5 : Kp No w w5 := (kw3.trans_same k4).trans k5 fun i hi hs => by have := b3' i hs; omega
  have e3 : (xs ++ [171]).length = xs.length + 1 := by simp
  have e5 : ((xs ++ [171]) ++ [171]).length = xs.length + 2 := by simp
  rw [e3] at r3
  rw [e5, e3] at r5
  simp only [List.length_singleton] at r3 r5
  have ht := own_take (k := xs.length + 1) o5 (by rw [e5]; omega)
  have etk : List.take (xs.length + 1) ((xs ++ [171]) ++ [171]) = xs ++ [171] := by
    rw [← e3]
    exact List.take_left
  rw [u8s_take, etk] at ht
  have hc5 : xs.length + 2 ≤ c5 := by
    obtain ⟨_, c9, hv, hle, _⟩ := o5.rd
    injection hv with _ _ h3
    rw [h3, ← e5]
    exact hle
  rw [hW2] at r3
  rw [hW4] at r5
  have H1 := Lib.hid r1
  have H3 := Lib.hid r3
  have H5 := Lib.hid r5
  have HT := Lib.hid ht
  have HK := Lib.hid kw5
  have HB := Lib.hid (show ∀ g, (Value.slice a5 (xs.length + 1) c5).ownBlock = some g → w.heap.size ≤ g from fun g hg => b5' g (by rw [← hg]; cases a5 <;> rfl))
  have hc51 : xs.length + 1 ≤ c5 := by omega
  obtain ⟨n, hn⟩ : ∃ n, n = xs.length := ⟨_, rfl⟩
  rw [← hn] at H1 H3 H5 hc5 hc51 hl HT HB ⊢
  obtain ⟨n1, hn1⟩ : ∃ n1, n1 = n + 1 := ⟨_, rfl⟩
  obtain ⟨n2, hn2⟩ : ∃ n2, n2 = n + 2 := ⟨_, rfl⟩
  have hn1i : (n : Int) + 1 = (n1 : Int) := by omega
  rw [← hn1] at H3 H5 hc51 HT HB ⊢
  rw [← hn2] at H5 hc5 ⊢
  have hl1 : n1 ≤ 1073741825 := by omega
  have hl2 : n1 ≤ n2 := by omega
  clear r1 o1 k1 b1 hW2 k2 b2 d2 r3 o3 k3 b3 b3' kw3 hW4 k4 b4 d4 r5 o5 k5 b5 b5' kw5 e3 e5 ht hx hn hn1 hn2
  go_enter Try.func37, Try.ntmps37
  go_wp2_with (first | (at_builtin; refine wpList_append_run rfl rfl rfl rfl H1.out ?_; clear H1) | (at_builtin; refine wpList_append_run rfl rfl rfl rfl H3.out ?_; clear H3) | (at_builtin; refine wpList_append_run rfl rfl rfl rfl H5.out ?_; clear H5))
  go_ret
  exact ⟨a5, c5, rfl, HT.out, hc5, HK.out, HB.out⟩
set_option maxHeartbeats 1000000 in
theorem stands_any (w : World) (xs : List UInt8) (a b : Option Addr) (c e : Nat) (ha : Own w 5 1 (.slice a (xs.length + 1) c) (xs.length + 1) (u8s (xs ++ [171]))) (hb : Rd w w.heap.size b (u8s xs)) (hl : xs.length ≤ 1073741824) :
    Calls Try.prog 39 #[.slice a (xs.length + 1) c, .slice b xs.length e] w fun e w' => e = .returned (.bool true) ∧ Kp No w w' := by
  have hrd := ha.rd'
  have hc : xs.length + 1 ≤ c := by
    obtain ⟨_, c9, hv, hle, _⟩ := ha.rd
    injection hv with _ _ h3
    rw [h3]
    exact hle
  obtain ⟨g, off, rfl, hg, _, hcell⟩ := hrd.byte (i := xs.length) (by simp)
  have hy : (xs ++ [171])[xs.length]'(by simp) = (171 : UInt8) := by simp
  rw [hy] at hcell
  have hpre : Rd w w.heap.size (some ⟨g, off, none⟩) (u8s xs) := by
    have := hrd.take xs.length
    rwa [u8s_take, List.take_left] at this
  have HS := Lib.hid (same_any (some ⟨g, off, none⟩) b c e w.heap.size w.heap.size xs xs w hpre hb (by omega))
  have HCL := Lib.hid (show ∀ n, (w.drewN n).cell? ⟨g, off + xs.length, none⟩ = some (.int .u8 171) from fun _ => hcell)
  have HG := Lib.hid hg
  obtain ⟨n, hn⟩ : ∃ n, n = xs.length := ⟨_, rfl⟩
  rw [← hn] at HS hc hl HCL ⊢
  have hni : (n : Int) + 1 = ((n + 1 : Nat) : Int) := by omega
  obtain ⟨n1, hn1⟩ : ∃ n1, n1 = n + 1 := ⟨_, rfl⟩
  rw [← hn1] at hni hc ⊢
  have hnn : n < n1 := by omega
  have hnc : n ≤ c := by omega
  clear ha hb hrd hcell hy hpre hg hn hn1
  go_enter Try.func39, Try.ntmps39
  go_wp2_with fail
  refine HS.out.mono ?_
  rintro e w2 ⟨rfl, n2, rfl⟩
  have hc2 := HCL.out n2
  have hg2 : g < (w.drewN n2).heap.size := HG.out
  have HK := Lib.hid (show Kp No w (w.drewN n2) from (Kp.refl _ _).drewN n2)
  obtain ⟨W2, hW2⟩ : ∃ W, W = w.drewN n2 := ⟨_, rfl⟩
  rw [← hW2] at hc2 hg2 HK ⊢
  simp only [decide_true]
  clear hW2
  go_wp2_with fail
  go_ret
  exact ⟨rfl, HK.out⟩
set_option maxHeartbeats 1000000 in
theorem spoil_any (w : World) (xs : List UInt8) (a : Option Addr) (c : Nat) (ha : Own w 5 1 (.slice a xs.length c) xs.length (u8s xs)) (hl : xs.length ≤ 1073741825) :
    Calls Try.prog 40 #[.slice a xs.length c] w fun e w' => e = .returned (.tuple #[]) ∧ Kp (fun k => (Value.slice a xs.length c).ownBlock = some k) w w' := by
  obtain ⟨W2, hW2⟩ : ∃ W, W = w.alloc (.cells #[.int .u8 99] 5) := ⟨_, rfl⟩
  have k2 : Kp No w W2 := by rw [hW2]; exact (Kp.refl _ _).alloc _
  have b2 : W2.heap[w.heap.size]? = some (.cells #[.int .u8 99] 5 (0, 0)) := by rw [hW2]; exact heap_alloc_new w _
  have d2 : Rd W2 W2.heap.size (some ⟨w.heap.size, 0, none⟩) (u8s [99]) := Rd.row (n := 1) b2 rfl (get_lt b2) (Nat.le_refl _)
  obtain ⟨a3, c3, w3, r3, o3, k3, b3⟩ := app_bytes W2 (.slice a xs.length c) xs [99] (ha.keep k2 fun _ _ x => x) (some ⟨w.heap.size, 0, none⟩) 1 d2 (by simp; omega)
  have kw3 : Kp (fun k => (Value.slice a xs.length c).ownBlock = some k) w w3 := (Kp.of_no k2).trans_same k3
  have HOB := Lib.hid (show ∀ g, (Value.slice a3 (xs ++ [99]).length c3).ownBlock = some g → (Value.slice a xs.length c).ownBlock = some g ∨ w.heap.size ≤ g from fun g hg => by
    rcases b3 with h | ⟨g', h, h'⟩
    · rw [h] at hg; exact .inl hg
    · rw [h] at hg
      injection hg with hg
      have := k2.size
      exact .inr (by omega))
  have HK3 := Lib.hid kw3
  have HO3 := Lib.hid o3
  rw [hW2] at r3
  simp only [List.length_singleton] at r3
  have HX := Lib.hid r3
  obtain ⟨n, hn⟩ : ∃ n, n = (xs ++ [99]).length := ⟨_, rfl⟩
  have hnb : n ≤ 1073741826 := by rw [hn]; simp; omega
  obtain ⟨S, hS⟩ : ∃ S : Nat → Prop, S = fun k => (Value.slice a xs.length c).ownBlock = some k := ⟨_, rfl⟩
  have HS := Lib.hid hS
  rw [← hS] at HK3 ⊢
  rw [← hn] at HX HO3 HOB
  obtain ⟨n0, hn0⟩ : ∃ n0, n0 = xs.length := ⟨_, rfl⟩
  rw [← hn0] at HX ⊢
  clear k2 b2 d2 r3 o3 k3 b3 kw3 ha hW2 hS hn hn0
  go_enter Try.func40, Try.ntmps40
  go_wp2_with (at_builtin; refine wpList_append_run rfl rfl rfl rfl HX.out ?_)
  clear HX
  go_loopw [3] (fun i wr => ∃ (k : Nat) (ys : List Value), k ≤ n ∧ i = .int .i64 (k : Int) ∧ Hid (Own wr 5 1 (.slice a3 n c3) n ys) ∧ Hid (Kp S w wr)) (fun i _ => n - (intOf i).toNat)
  case atStart => exact ⟨0, _, Nat.zero_le _, rfl, HO3, HK3⟩
  case round =>
    obtain ⟨k, ys, hk, rfl, HO, HK⟩ := hrel
    by_cases hlt : k < n
    · obtain ⟨g, off, hga, hgl, hfz⟩ := HO.out.place (by omega)
      subst hga
      have hrd := HO.out.rd'
      have hyl : k < ys.length := by have := HO.out.1; omega
      obtain ⟨g', off', hg', _, _, hcell⟩ := hrd.at_ (i := k) (u := ys[k]) (List.getElem?_eq_getElem hyl)
      injection hg' with hg'
      injection hg' with e1 e2
      subst e1; subst e2
      have fz := hfz (off + k)
      have ho2 := own_store HO.out k hlt (.int .u8 98)
      have HO2 := Lib.hid ho2
      have HK2 := Lib.hid (show Kp S w (wr.setCell ⟨g, off + k, none⟩ (.int .u8 98)) from HK.out.setCell (p := ⟨g, off + k, none⟩) (by
        rcases HOB.out g rfl with h | h
        · exact .inl (by rw [HS.out]; exact h)
        · exact .inr h) _)
      clear hfz hrd ho2
      go_wp2_with fail
      go_roundw
      case rel => exact ⟨k + 1, _, by omega, by go_num, HO2, HK2⟩
      case measure => simp [intOf]; omega
    · obtain rfl : k = n := by omega
      clear hlt
      go_wp2_with fail
      go_end0
      exact ⟨rfl, HK.out⟩
end Go.Proofs.Ytenidddbjobblaa
