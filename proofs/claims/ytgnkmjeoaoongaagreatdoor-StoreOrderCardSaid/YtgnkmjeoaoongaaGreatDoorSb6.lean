/-
  Texts laid together: SXStM, SGet, SAll, DiskList.
-/
import Derived.Test.YtgnkmjeoaoongaaGreatDoorSb3
import Derived.Test.YtgnkmjeoaoongaaGreatDoorSb5
import Derived.Test.YtgnkmjeoaoongaaGreatDoorSa5
import Derived.Test.YtgnkmjeoaoongaaGreatDoorSa4
import Derived.Test.YtgnkmjeoaoongaaGreatDoorSa8
import Derived.Test.YtgnkmjeoaoongaaGreatDoorIter
namespace Go.Proofs.YtgnkmjeoaoongaaGreatDoor
open Go.RowKit Go.Mer
def xsCells (r y : Nat) (P : ByteArray) (o : Nat) (st : SSt) (lv kv : Value) : Array Value :=
 #[ptrN r, .string P, .int .i64 (o : Int), ptrN y, .int .i64 (st.age : Int), lv, .int .i64 st.mm, .int .i64 st.mc,
  .int .i64 (ofAt st.of 0).seq, .int .i64 (ofAt st.of 0).m, .int .i64 (ofAt st.of 0).c, .int .i64 (ofAt st.of 1).seq, .int .i64 (ofAt st.of 1).m, .int .i64 (ofAt st.of 1).c,
  .int .i64 (ofAt st.of 2).seq, .int .i64 (ofAt st.of 2).m, .int .i64 (ofAt st.of 2).c, .int .i64 (ofAt st.of 3).seq, .int .i64 (ofAt st.of 3).m, .int .i64 (ofAt st.of 3).c,
  .int .i64 (ofAt st.of 4).seq, .int .i64 (ofAt st.of 4).m, .int .i64 (ofAt st.of 4).c, kv, .int .i64 (st.n : Int), .bool st.dead]
def keyC (p : ByteArray × ChR) : List Value := [.string p.1, ptrN p.2.b]
structure StX (w : World) (x r y : Nat) (P : ByteArray) (o : Nat) (st : SSt) (la : Option Addr) (lc : Nat) (cs : ChL) (ka : Option Addr) (kc : Nat) (K : List RecR) : Prop where
 cell : w.heap[x]? = some (.cells (xsCells r y P o st (.slice la cs.length lc) (.slice ka K.length kc)) 64 (0, 0))
 row : Own w 158 2 (.slice la cs.length lc) cs.length (cs.flatMap keyC)
 chs : ChsOk 148 w cs
 kept : KeptC w ka kc K
 keysD : keysL2 cs = st.keys
 keptD : st.kept = K.map RecR.r
def StXF (x : Nat) (la : Option Addr) (lc : Nat) (cs : ChL) (ka : Option Addr) (kc : Nat) (K : List RecR) : Nat → Prop := fun k => k = x ∨ (Value.slice la cs.length lc).ownBlock = some k ∨ ChsF cs k ∨ KeptF ka kc K k
section
variable {w w' : World} {cs : ChL} {la ka : Option Addr} {lc kc : Nat} {K : List RecR} {x r y o : Nat} {P Q : ByteArray} {st : SSt}
theorem StX.keep {S : Nat → Prop} (h : StX w x r y P o st la lc cs ka kc K) (hk : Kp S w w') (hS : ∀ k, StXF x la lc cs ka kc K k → ¬ S k) : StX w' x r y P o st la lc cs ka kc K :=
 { h with
  cell := hk.get h.cell (hS x (.inl rfl))
  row := h.row.keep hk fun g hg => hS g (.inr (.inl hg))
  chs := h.chs.keep hk fun k hf => hS k (.inr (.inr (.inl hf)))
  kept := h.kept.keep hk fun k hf => hS k (.inr (.inr (.inr hf))) }
theorem StX.keep_no (h : StX w x r y P o st la lc cs ka kc K) (hk : Kp No w w') : StX w' x r y P o st la lc cs ka kc K := h.keep hk fun _ _ x => x
theorem StX.lt (h : StX w x r y P o st la lc cs ka kc K) : ∀ k, StXF x la lc cs ka kc K k → k < w.heap.size := by
 rintro k (rfl | hk | hk | hk)
 ·exact get_lt h.cell
 ·exact h.row.lt k hk
 ·exact h.chs.lt k hk
 ·exact h.kept.lt k hk
theorem StX.at_ (h : StX w x r y P o st la lc cs ka kc K) {W : World} (hW : Kp No w W) (i : Nat) :
  W.cell? ⟨x, i, none⟩ = (xsCells r y P o st (.slice la cs.length lc) (.slice ka K.length kc))[i]? := cell_at (hW.get h.cell fun x => x) i
theorem StX.x_apart (h : StX w x r y P o st la lc cs ka kc K) : (Value.slice la cs.length lc).ownBlock ≠ some x ∧ ¬ ChsF cs x ∧ ¬ KeptF ka kc K x := by
 refine ⟨fun hs => ?_, ?_, ?_⟩
 ·obtain ⟨cur, hc⟩ := h.row.type x hs
  exact ne_of_type h.cell hc (by decide) rfl
 ·rintro ⟨p, hp, hs | hs | ⟨z, hz, hs⟩⟩
  ·exact ne_of_type h.cell (h.chs.each p hp).cell (by decide) hs
  ·obtain ⟨cur, hc⟩ := (h.chs.each p hp).own.type x hs
   exact ne_of_type h.cell hc (by decide) rfl
  ·obtain ⟨cur, hc⟩ := Own.type ((h.chs.each p hp).vals z hz) x hs
   exact ne_of_type h.cell hc (by decide) rfl
 ·rintro (hs | ⟨z, hz, hs⟩)
  ·obtain ⟨cur, hc⟩ := h.kept.own.type x hs
   exact ne_of_type h.cell hc (by decide) rfl
  ·obtain ⟨cur, hc⟩ := Own.type (h.kept.vals z hz) x hs
   exact ne_of_type h.cell hc (by decide) rfl
theorem StX.turn {r' y' o' : Nat} {P' : ByteArray} {st' : SSt} (h : StX w x r y P o st la lc cs ka kc K) (hk : Kp (Mer.One x) w w') (hc : w'.heap[x]? = some (.cells (xsCells r' y' P' o' st' (.slice la cs.length lc) (.slice ka K.length kc)) 64 (0, 0))) (h1 : st'.keys = st.keys) (h2 : st'.kept = st.kept) : StX w' x r' y' P' o' st' la lc cs ka kc K :=
 ⟨hc, h.row.keep hk fun g hg e => h.x_apart.1 ((show g = x from e) ▸ hg), h.chs.keep hk fun k hf e => h.x_apart.2.1 ((show k = x from e) ▸ hf), h.kept.keep hk fun k hf e => h.x_apart.2.2 ((show k = x from e) ▸ hf), by rw [h1]; exact h.keysD, by rw [h2]; exact h.keptD⟩
end
structure StXW (w : World) (x r y : Nat) (P Q : ByteArray) (o : Nat) (st : SSt) (la : Option Addr) (lc : Nat) (cs : ChL) (ka : Option Addr) (kc : Nat) (K : List RecR) (ds : DSt) (lg : LSt) (F G : Nat → Prop) : Prop where
 st : StX w x r y P o st la lc cs ka kc K
 at_ : XAt w r y Q ds lg F G
 sF : ∀ i, StXF x la lc cs ka kc K i → ¬ F i
 sG : ∀ i, StXF x la lc cs ka kc K i → ¬ G i
theorem StXW.keep_no {w w' : World} {x r y o : Nat} {P Q : ByteArray} {st : SSt} {la ka : Option Addr} {lc kc : Nat} {cs : ChL} {K : List RecR} {ds : DSt} {lg : LSt} {F G : Nat → Prop} (h : StXW w x r y P Q o st la lc cs ka kc K ds lg F G) (hk : Kp No w w') : StXW w' x r y P Q o st la lc cs ka kc K ds lg F G := ⟨h.st.keep_no hk, h.at_.no hk, h.sF, h.sG⟩
end Go.Proofs.YtgnkmjeoaoongaaGreatDoor
namespace Go.Proofs.YtgnkmjeoaoongaaGreatDoor
open Go.RowKit Go.Mer
theorem cUpto_nil (w : World) (m c : Int) : Calls Tryz.prog 202 #[.pointer none, stv m c] w fun e w' => e = .returned (.int .i64 0) ∧ Kp No w w' := by
 go_enter Tryz.func202, Tryz.ntmps202
 go_wp2_with fail
 go_ret
 exact ⟨rfl, (Kp.refl _ _).alloc _⟩
theorem upto_at {l : List VerS} {m c : Int} {x : VerS} (h : l[uptoC l m c]? = some x) : stLt m c x.m x.c = true := by
 have := takeWhile_get (p := fun x : VerS => !stLt m c x.m x.c) h
 simpa using this
set_option maxRecDepth 100000 in
set_option maxHeartbeats 1000000 in
theorem cUpto_any (w : World) (k0 : ChR) (m c : Int) (hc : ChOk 203 w k0) (hn : k0.R.length ≤ 1000000) :
  Calls Tryz.prog 202 #[.pointer (some ⟨k0.b, 0, none⟩), stv m c] w fun e w' => e = .returned (.int .i64 (uptoC k0.vs m c : Nat)) ∧ Kp No w w' := by
 obtain ⟨cb, ra, rc, R⟩ := k0
 obtain ⟨n, hnR⟩ : ∃ n, n = R.length := ⟨_, rfl⟩
 have hrow : (⟨cb, ra, rc, R⟩ : ChR).row = .slice ra n rc := by unfold ChR.row; rw [hnR]
 have hR : Rd w w.heap.size ra (R.flatMap verC) := by have := Own.rd' (a := ra) (cap := rc) (m := R.length) hc.own; exact this
 obtain ⟨w1, hw1⟩ : ∃ W, W = w.alloc (.cells #[.int .i64 m, .int .i64 c] 25) := ⟨_, rfl⟩
 have k1 : Kp No w w1 := by rw [hw1]; exact (Kp.refl _ _).alloc _
 have bx : w1.heap[w.heap.size]? = some (.cells #[.int .i64 m, .int .i64 c] 25 (0, 0)) := by rw [hw1]; exact heap_alloc_new w _
 have hbl := get_lt hc.cell
 simp only at hbl hn
 have hnn : n ≤ 1000000 := by omega
 obtain ⟨u, hu⟩ : ∃ u, u = uptoC (R.map VerR.v) m c := ⟨_, rfl⟩
 have hun : u ≤ n := by rw [hu, hnR]; have := uptoC_le (R.map VerR.v) m c; rwa [List.length_map] at this
 have hcs : ∀ k (h : k < R.length), k < u → cmpH R[k].v.m R[k].v.c m c ≤ 0 := fun k h hk => by
  rw [(cmpH_st _ _ _ _).1]
  exact upto_below (l := R.map VerR.v) (i := k) (by rw [← hu]; exact hk) (by rw [List.getElem?_map, List.getElem?_eq_getElem h]; rfl)
 have hce : ∀ (h : u < R.length), ¬ cmpH R[u].v.m R[u].v.c m c ≤ 0 := fun h => by
  rw [(cmpH_st _ _ _ _).1]
  have := upto_at (l := R.map VerR.v) (m := m) (c := c) (x := R[u].v) (by rw [← hu, List.getElem?_map, List.getElem?_eq_getElem h]; rfl)
  rw [this]
  decide
 have HRG := Lib.hid (show ∀ k (h : k < R.length), ∃ g off, ra = some ⟨g, off, none⟩ ∧ g < w1.heap.size ∧ ∀ W, Kp No w1 W → W.rangeAt g (off + k * 6) [.int .i64 R[k].v.m, .int .i64 R[k].v.c] from fun k h => by
  obtain ⟨g, off, h1, h2, h3⟩ := ver_range hR h
  refine ⟨g, off, h1, Nat.lt_of_lt_of_le h2 k1.size, fun W hW j v hj => ?_⟩
  refine h3 W (k1.trans_same hW) j v ?_
  match j, hj with
  | 0, hj => exact hj
  | 1, hj => exact hj)
 have HC := Lib.hid hc
 have HN := Lib.hid hnR
 have HCS := Lib.hid hcs
 have HCE := Lib.hid hce
 have HROW := Lib.hid hrow
 have HK1 := Lib.hid k1
 have HBX := Lib.hid bx
 have HW1 := Lib.hid hw1
 have HU := Lib.hid (show u = uptoC (⟨cb, ra, rc, R⟩ : ChR).vs m c from hu)
 have f0 : ∀ W, Kp No w1 W → W.cell? ⟨cb, 0, none⟩ = some (.slice ra n rc) := fun W hW => by
  have := hc.cells.1 W (k1.trans_same hW)
  rw [hrow] at this
  exact this
 have HF0 := Lib.hid f0
 have HX := Lib.hid (show ∀ W, Kp No w1 W → W.rangeAt w.heap.size 0 [.int .i64 m, .int .i64 c] from fun W hW => by have := rangeAt_block (hW.get bx fun x => x) 0 2; exact this)
 have hxl := get_lt bx
 have hbl1 := k1.lt hbl
 rw [← HU.out]
 clear hc hnR hcs hce hrow k1 bx hw1 hu hR f0 hbl
 go_enter Tryz.func202, Tryz.ntmps202
 go_wp2_with fail
 rw [← HW1.out]
 go_loopw [5] (fun s5 wr => ∃ k : Nat, s5 = .int .i64 k ∧ k ≤ u ∧ Hid (Kp No w1 wr)) (fun s5 _ => u - (intOf s5).toNat)
 case atStart => exact ⟨0, rfl, Nat.zero_le _, Lib.hid (Kp.refl _ _)⟩
 case round =>
  obtain ⟨k, rfl, hku, HK⟩ := hrel
  have f1 : ∀ W, Kp No wr W → W.cell? ⟨cb, 0, none⟩ = some (.slice ra n rc) := fun W hW => HF0.out W (HK.out.trans_same hW)
  have hblr : cb < wr.heap.size := HK.out.lt hbl1
  have hxlr : w.heap.size < wr.heap.size := HK.out.lt hxl
  rcases Nat.lt_or_ge k n with hkn | hkn
  ·have hkR : k < R.length := by have := HN.out; omega
   obtain ⟨g, off, rfl, hgl, hgr⟩ := HRG.out k hkR
   obtain ⟨y, hy⟩ : ∃ y, y = R[k].v := ⟨_, rfl⟩
   have hcm := fun W => Compare_any y.m y.c m c W
   obtain ⟨z, hz⟩ : ∃ z, z = cmpH y.m y.c m c := ⟨_, rfl⟩
   have hzz : (z ≤ 0 ∧ k < u) ∨ (0 < z ∧ k = u) := by
    rcases Nat.lt_or_eq_of_le hku with h | h
    ·left
     have := HCS.out k hkR h
     rw [← hy, ← hz] at this
     exact ⟨this, h⟩
    ·right
     subst h
     have := HCE.out hkR
     rw [← hy, ← hz] at this
     exact ⟨by omega, rfl⟩
   rw [← hy] at hgr
   rw [← hz] at hcm
   have HGR := Lib.hid hgr
   have HCM := Lib.hid hcm
   have hglr := HK.out.lt hgl
   clear hkR hgr hcm hy hz hgl
   rcases hzz with ⟨hz1, hz2⟩ | ⟨hz1, hz2⟩
   ·have hd : decide (z ≤ 0) = true := decide_eq_true hz1
    clear hz1
    go_upto_region 4 with fail
    refine wp_region_held' (Kp No _) [0,0,0,0,0,0,0,0,0,0,0,0,0,0,0,0,0,2,0,0] [0,1,2,3,4,5,6,7,8,9,10,11,12,13,14,15,16,17,18,19] (by kernel_rfl) (by kernel_rfl) (fun _ n h => h.drewN n) (Kp.refl _ _) ?_
    repeat (first
     | (apply wpOrd_skip rfl (by decide) rfl; (focus (go_simp; rfl)))
     | (apply wpOrd_pure rfl rfl rfl; (focus (intro _ _; go_simp; (try go_ints); rfl)); (focus (go_simp; rfl)))
     | (apply wpOrd_read rfl rfl rfl; (focus (intro _; go_simp; (try go_ints); rfl)); (focus (go_simp; rfl))))
    apply wpOrd_pure rfl rfl rfl
    ·intro W hW
     exact exec_load_w 25 _ rfl g (off + k * 6) rfl [.int .i64 y.m, .int .i64 y.c] _ (HGR.out W (HK.out.trans_same hW)) Tryz.underlying25 rfl (by kernel_rfl)
    ·(focus (go_simp; rfl))
    apply wpOrd_pure rfl rfl rfl
    ·intro W hW
     exact exec_load_w 25 _ rfl w.heap.size 0 rfl [.int .i64 m, .int .i64 c] _ (HX.out W (HK.out.trans_same hW)) Tryz.underlying25 rfl (by kernel_rfl)
    ·(focus (go_simp; rfl))
    refine wpOrd_eff rfl rfl (fun q => ?_)
    go_wp2_with fail
    refine (HCM.out _).mono ?_
    rintro e w2 ⟨rfl, hk2⟩
    go_wp2_with fail
    refine ⟨hk2.of_drewN, ?_⟩
    repeat (first
     | (apply wpOrd_skip rfl (by decide) rfl; (focus (go_simp; rfl)))
     | (apply wpOrd_pure rfl rfl rfl; (focus (intro _ _; go_simp; (try go_ints); rfl)); (focus (go_simp; rfl)))
     | (apply wpOrd_read rfl rfl rfl; (focus (intro _; go_simp; (try go_ints); rfl)); (focus (go_simp; rfl))))
    refine wpOrd_nil (fun nq => ?_)
    have HK2 := Lib.hid ((HK.out.trans_same hk2.of_drewN).drewN nq)
    clear hk2
    go_wp2_with fail
    go_roundw
    case rel => exact ⟨k + 1, by go_num, hz2, HK2⟩
    case measure => simp [intOf]; omega
   ·have hd : decide (z ≤ 0) = false := decide_eq_false (by omega)
    have HKU := Lib.hid hz2
    clear hz1 hz2
    go_upto_region 4 with fail
    refine wp_region_held' (Kp No _) [0,0,0,0,0,0,0,0,0,0,0,0,0,0,0,0,0,2,0,0] [0,1,2,3,4,5,6,7,8,9,10,11,12,13,14,15,16,17,18,19] (by kernel_rfl) (by kernel_rfl) (fun _ n h => h.drewN n) (Kp.refl _ _) ?_
    repeat (first
     | (apply wpOrd_skip rfl (by decide) rfl; (focus (go_simp; rfl)))
     | (apply wpOrd_pure rfl rfl rfl; (focus (intro _ _; go_simp; (try go_ints); rfl)); (focus (go_simp; rfl)))
     | (apply wpOrd_read rfl rfl rfl; (focus (intro _; go_simp; (try go_ints); rfl)); (focus (go_simp; rfl))))
    apply wpOrd_pure rfl rfl rfl
    ·intro W hW
     exact exec_load_w 25 _ rfl g (off + k * 6) rfl [.int .i64 y.m, .int .i64 y.c] _ (HGR.out W (HK.out.trans_same hW)) Tryz.underlying25 rfl (by kernel_rfl)
    ·(focus (go_simp; rfl))
    apply wpOrd_pure rfl rfl rfl
    ·intro W hW
     exact exec_load_w 25 _ rfl w.heap.size 0 rfl [.int .i64 m, .int .i64 c] _ (HX.out W (HK.out.trans_same hW)) Tryz.underlying25 rfl (by kernel_rfl)
    ·(focus (go_simp; rfl))
    refine wpOrd_eff rfl rfl (fun q => ?_)
    go_wp2_with fail
    refine (HCM.out _).mono ?_
    rintro e w2 ⟨rfl, hk2⟩
    go_wp2_with fail
    refine ⟨hk2.of_drewN, ?_⟩
    repeat (first
     | (apply wpOrd_skip rfl (by decide) rfl; (focus (go_simp; rfl)))
     | (apply wpOrd_pure rfl rfl rfl; (focus (intro _ _; go_simp; (try go_ints); rfl)); (focus (go_simp; rfl)))
     | (apply wpOrd_read rfl rfl rfl; (focus (intro _; go_simp; (try go_ints); rfl)); (focus (go_simp; rfl))))
    refine wpOrd_nil (fun nq => ?_)
    have HK2 := Lib.hid ((HK.out.trans_same hk2.of_drewN).drewN nq)
    clear hk2
    go_wp2_with fail
    go_ret
    exact ⟨by rw [← HKU.out]; rfl, HK1.out.trans_same HK2.out⟩
  ·have hkn' : k = n := by omega
   have hku' : u = k := by omega
   have HKN := Lib.hid hku'
   have hge : ¬ k < n := by omega
   clear hkn' hku' hkn
   go_upto_region 4 with fail
   refine wp_region_held' (Kp No _) [0,0,0,0,0,0,0,0,0,0,0,0,0,0,0,0,0,2,0,0] [0,1,2,3,4,5,6,7,8,9,10,11,12,13,14,15,16,17,18,19] (by kernel_rfl) (by kernel_rfl) (fun _ n h => h.drewN n) (Kp.refl _ _) ?_
   repeat (first
    | (apply wpOrd_skip rfl (by decide) rfl; (focus (go_simp; rfl)))
    | (apply wpOrd_pure rfl rfl rfl; (focus (intro _ _; go_simp; (try go_ints); rfl)); (focus (go_simp; rfl)))
    | (apply wpOrd_read rfl rfl rfl; (focus (intro _; go_simp; (try go_ints); rfl)); (focus (go_simp; rfl))))
   refine wpOrd_shutw rfl rfl (by rfl) rfl (fun q => ⟨(Kp.refl _ _).drewN q, ?_⟩)
   repeat (first
    | (apply wpOrd_skip rfl (by decide) rfl; (focus (go_simp; rfl)))
    | (apply wpOrd_pure rfl rfl rfl; (focus (intro _ _; go_simp; (try go_ints); rfl)); (focus (go_simp; rfl)))
    | (apply wpOrd_read rfl rfl rfl; (focus (intro _; go_simp; (try go_ints); rfl)); (focus (go_simp; rfl))))
   refine wpOrd_nil (fun nq => ?_)
   go_wp2_with fail
   go_ret
   exact ⟨by rw [HKN.out]; rfl, ((HK1.out.trans_same HK.out).drewN _).drewN _⟩
def AtP (w : World) (o : Option VerS) (e : Ending) (w' : World) : Prop :=
 match o with
 | none => e = .returned (.tuple #[.agg #[.int .i64 0, .int .i64 0, .int .i64 0, .slice none 0 0, .bool false, .int .i64 0], .bool false]) ∧ Kp No w w'
 | some v => ∃ y : VerR, y.v = v ∧ e = .returned (.tuple #[verV y, .bool true]) ∧ y.ok w' ∧ (∀ g, y.sl.ownBlock = some g → w.heap.size ≤ g) ∧ Kp No w w'
set_option maxRecDepth 100000 in
set_option maxHeartbeats 1000000 in
theorem cAt_none (w : World) (p : Option Addr) (m c : Int) (h : ∀ W, Kp No w W → Calls Tryz.prog 202 #[.pointer p, stv m c] W fun e w' => e = .returned (.int .i64 0) ∧ Kp No W w') :
  Calls Tryz.prog 133 #[.pointer p, stv m c] w (AtP w none) := by
 obtain ⟨w2, hw2⟩ : ∃ W, W = (w.alloc (.cells #[.int .i64 m, .int .i64 c] 25)).alloc (.cells #[.int .i64 0, .int .i64 0, .int .i64 0, .slice none 0 0, .bool false, .int .i64 0] 44) := ⟨_, rfl⟩
 have k2 : Kp No w w2 := by rw [hw2]; exact ((Kp.refl _ _).alloc _).alloc _
 have b1 : w2.heap[w.heap.size]? = some (.cells #[.int .i64 m, .int .i64 c] 25 (0, 0)) := by rw [hw2]; exact alloc_far (heap_alloc_new w _) _
 have b2 : w2.heap[w.heap.size + 1]? = some (.cells #[.int .i64 0, .int .i64 0, .int .i64 0, .slice none 0 0, .bool false, .int .i64 0] 44 (0, 0)) := by rw [hw2]; exact (congrArg (fun k => ((w.alloc _).alloc _).heap[k]?) (by simp)).trans (heap_alloc_new (w.alloc _) _)
 have c0 : w2.cell? ⟨w.heap.size, 0, none⟩ = some (.int .i64 m) := cell_at b1 0
 have c1 : w2.cell? ⟨w.heap.size, 1, none⟩ = some (.int .i64 c) := cell_at b1 1
 have hl1 := get_lt b1
 have H := Lib.hid (h w2 k2)
 have HK2 := Lib.hid k2
 have HB2 := Lib.hid b2
 have HW2 := Lib.hid hw2
 clear h k2 b1 b2 hw2
 go_enter Tryz.func133, Tryz.ntmps133
 go_upto_region 1 with fail
 rw [← HW2.out]
 go_wp2_with fail
 refine H.out.mono ?_
 rintro e w3 ⟨rfl, k3⟩
 have HB3 := Lib.hid (k3.get HB2.out fun x => x)
 have HK3 := Lib.hid (HK2.out.trans_same k3)
 clear k3 c0 c1 hl1
 have hl3 := get_lt HB3.out
 go_wp2_with (refine wpList_store_r rfl 44 _ _ rfl (w.heap.size + 1) _ rfl rfl 44 _ HB3 (by kernel_rfl) (by rfl) (by rfl) ?_)
 have b5 := setRow_at (cs := #[.int .i64 0, .int .i64 0, .int .i64 0, .slice none 0 0, .bool false, .int .i64 0]) HB3.out
 have d0 := cell_at b5 0
 have d1 := cell_at b5 1
 have d2 := cell_at b5 2
 have d3 := cell_at b5 3
 have d4 := cell_at b5 4
 have d5 := cell_at b5 5
 simp at d0 d1 d2 d3 d4 d5
 refine bodyPost_ret (v := .tuple #[.agg #[.int .i64 0, .int .i64 0, .int .i64 0, .slice none 0 0, .bool false, .int .i64 0], .bool false]) (by simp [results, Tryz.results133, go_sem, d0, d1, d2, d3, d4, d5]) rfl ⟨rfl, HK3.out.setRow (.inr (by omega)) _⟩
theorem atC_some {l : List VerS} {m c : Int} {v : VerS} (h : atC l m c = some v) : ∃ u, uptoC l m c = u + 1 ∧ l[u]? = some v := by
 unfold atC at h
 split at h
 ·cases h
 ·next h0 => exact ⟨uptoC l m c - 1, by omega, h⟩
set_option maxRecDepth 100000 in
set_option maxHeartbeats 1000000 in
theorem cAt_some (w : World) (k0 : ChR) (m c : Int) (hc : ChOk 203 w k0) (hn : k0.R.length ≤ 1000000) (v : VerS) (hv : atC k0.vs m c = some v) (hval : v.val.length ≤ 140737488355328) :
  Calls Tryz.prog 133 #[.pointer (some ⟨k0.b, 0, none⟩), stv m c] w (AtP w (some v)) := by
 obtain ⟨u, hu1, hu2⟩ := atC_some hv
 have hup := fun W (h : Kp No w W) => cUpto_any W k0 m c (hc.keep_no h) hn
 rw [hu1] at hup
 obtain ⟨cb, ra, rc, R⟩ := k0
 obtain ⟨n, hnR⟩ : ∃ n, n = R.length := ⟨_, rfl⟩
 have hrow : (⟨cb, ra, rc, R⟩ : ChR).row = .slice ra n rc := by unfold ChR.row; rw [hnR]
 have hR : Rd w w.heap.size ra (R.flatMap verC) := by have := Own.rd' (a := ra) (cap := rc) (m := R.length) hc.own; exact this
 have hu2 : (R.map VerR.v)[u]? = some v := hu2
 rw [List.getElem?_map] at hu2
 obtain ⟨x, hx, hxv⟩ := Option.map_eq_some_iff.1 hu2
 have huR := (List.getElem?_eq_some_iff.1 hx).1
 have hxe : R[u] = x := (List.getElem?_eq_some_iff.1 hx).2
 have hxo : x.ok w := hc.vals x (List.mem_of_getElem? hx)
 obtain ⟨g, off, rfl, hgl, hgr⟩ := ver_range hR huR
 rw [hxe] at hgr
 have hun : u < n := by omega
 obtain ⟨w2, hw2⟩ : ∃ W, W = (w.alloc (.cells #[.int .i64 m, .int .i64 c] 25)).alloc (.cells #[.int .i64 0, .int .i64 0, .int .i64 0, .slice none 0 0, .bool false, .int .i64 0] 44) := ⟨_, rfl⟩
 have k2 : Kp No w w2 := by rw [hw2]; exact ((Kp.refl _ _).alloc _).alloc _
 have b1 : w2.heap[w.heap.size]? = some (.cells #[.int .i64 m, .int .i64 c] 25 (0, 0)) := by rw [hw2]; exact alloc_far (heap_alloc_new w _) _
 have b2 : w2.heap[w.heap.size + 1]? = some (.cells #[.int .i64 0, .int .i64 0, .int .i64 0, .slice none 0 0, .bool false, .int .i64 0] 44 (0, 0)) := by rw [hw2]; exact (congrArg (fun k => ((w.alloc _).alloc _).heap[k]?) (by simp)).trans (heap_alloc_new (w.alloc _) _)
 have c0 : w2.cell? ⟨w.heap.size, 0, none⟩ = some (.int .i64 m) := cell_at b1 0
 have c1 : w2.cell? ⟨w.heap.size, 1, none⟩ = some (.int .i64 c) := cell_at b1 1
 have hl1 := get_lt b1
 have hcb := get_lt hc.cell
 simp only at hcb
 have hw3 : ((u + 1 : Nat) : Int) - 1 = (u : Int) := by push_cast; omega
 have hw4 : (((u + 1 : Nat) : Int) == 0) = false := by rw [beq_eq_false_iff_ne]; omega
 obtain ⟨u1, hu1'⟩ : ∃ u1, u1 = u + 1 := ⟨_, rfl⟩
 rw [← hu1'] at hw3 hw4 hup
 have hub : u1 ≤ 1000001 := by simp only at hn; omega
 have hub1 : 1 ≤ u1 := by omega
 have H := Lib.hid (hup w2 k2)
 have HK2 := Lib.hid k2
 have HB2 := Lib.hid b2
 have HW2 := Lib.hid hw2
 have HC := Lib.hid hc
 have HROW := Lib.hid hrow
 have HGR := Lib.hid hgr
 have HX := Lib.hid (And.intro hxv (And.intro hxo hval))
 clear hup k2 b1 b2 hw2 hc hrow hgr hxv hxo hval hnR hR hu2 hx hxe huR hu1 hv hu1'
 go_enter Tryz.func133, Tryz.ntmps133
 go_upto_region 1 with fail
 rw [← HW2.out]
 go_wp2_with fail
 refine H.out.mono ?_
 rintro e w3 ⟨rfl, k3⟩
 have HB3 := Lib.hid (k3.get HB2.out fun x => x)
 have HK3 := Lib.hid (HK2.out.trans_same k3)
 clear k3 c0 c1 hl1
 have hl3 := get_lt HB3.out
 have f0 : w3.cell? ⟨cb, 0, none⟩ = some (.slice (some ⟨g, off, none⟩) n rc) := by
  have := HC.out.cells.1 w3 HK3.out
  rw [HROW.out] at this
  exact this
 have HG3 := Lib.hid (HGR.out w3 HK3.out)
 have hcb3 := HK3.out.lt hcb
 have hg3 := HK3.out.lt hgl
 have how := cOwn_any x w3 (VerR.rd_kp HX.out.2.1.rd HK3.out) (by rw [HX.out.1]; exact HX.out.2.2)
 have HOW := Lib.hid how
 clear how
 go_upto_region 4 with fail
 go_wp2_with (refine wpList_load_w rfl 44 _ rfl g (off + u * 6) rfl _ _ HG3 Tryz.underlying44 rfl (by kernel_rfl) ?_)
 refine HOW.out.mono ?_
 rintro e w4 ⟨y, hyv, rfl, hyo, hyf, k4⟩
 simp only [verV, verC]
 have HB4 := Lib.hid (k4.get HB3.out fun x => x)
 have hl4 := get_lt HB4.out
 have HY := Lib.hid (And.intro hyv (And.intro hyo hyf))
 have HK4 := Lib.hid k4
 clear hyv hyo hyf k4 f0
 go_wp2_with (refine wpList_store_r rfl 44 _ _ rfl (w.heap.size + 1) _ rfl rfl 44 _ HB4 (by kernel_rfl) (by rfl) (by rfl) ?_)
 have b5 := setRow_at (cs := #[.int .i64 y.v.m, .int .i64 y.v.c, .int .i64 y.v.o, y.sl, .bool y.v.gone, .int .i64 y.v.ttl]) HB4.out
 have d0 := cell_at b5 0
 have d1 := cell_at b5 1
 have d2 := cell_at b5 2
 have d3 := cell_at b5 3
 have d4 := cell_at b5 4
 have d5 := cell_at b5 5
 simp at d0 d1 d2 d3 d4 d5
 have k5 : Kp (Mer.One (w.heap.size + 1)) w4 (w4.setRow (w.heap.size + 1) #[.int .i64 y.v.m, .int .i64 y.v.c, .int .i64 y.v.o, y.sl, .bool y.v.gone, .int .i64 y.v.ttl]) := (Kp.refl (Mer.One (w.heap.size + 1)) _).setRow (.inl (show Mer.One (w.heap.size + 1) (w.heap.size + 1) from rfl)) _
 refine bodyPost_ret (v := .tuple #[.agg #[.int .i64 y.v.m, .int .i64 y.v.c, .int .i64 y.v.o, y.sl, .bool y.v.gone, .int .i64 y.v.ttl], .bool true]) (by simp [results, Tryz.results133, go_sem, d0, d1, d2, d3, d4, d5]) rfl ⟨y, ?_, rfl, ?_, ?_, ?_⟩
 ·rw [HY.out.1, HX.out.1]
 ·exact HY.out.2.1.apart k5 fun gg hg cur hcur => by
   have e : gg = w.heap.size + 1 := hg
   rw [e, HB4.out] at hcur
   injection hcur with hcur
   injection hcur with _ ht
   exact absurd ht (by decide)
 ·intro gg hg
  have := HY.out.2.2 gg hg
  have := HK3.out.size
  omega
 ·exact (HK3.out.trans_same HK4.out).setRow (.inr (by omega)) _
def GetP (w : World) (o : Option (List UInt8)) (e : Ending) (w' : World) : Prop :=
 match o with
 | none => e = .returned (.tuple #[.slice none 0 0, .bool false]) ∧ Kp No w w'
 | some l => ∃ a cap, e = .returned (.tuple #[.slice a l.length cap, .bool true]) ∧ Own w' 5 1 (.slice a l.length cap) l.length (u8s l) ∧ (∀ g, (Value.slice a l.length cap).ownBlock = some g → w.heap.size ≤ g) ∧ Kp No w w'
def visO (o : Option VerS) (m c : Int) : Option (List UInt8) := match o with | none => none | some v => if seenV v m c = true then some v.val else none
theorem getC_vis (l : List VerS) (m c : Int) : getC l m c = visO (atC l m c) m c := rfl
theorem vis_yes {v : VerS} {m c : Int} (h : seenV v m c = true) : visO (some v) m c = some v.val := if_pos h
theorem vis_no {v : VerS} {m c : Int} (h : seenV v m c = false) : visO (some v) m c = none := if_neg (by rw [h]; decide)
set_option maxRecDepth 100000 in
set_option maxHeartbeats 1000000 in
theorem cGet_any (w : World) (p : Option Addr) (m c : Int) (o : Option VerS) (hm : m ≤ 9223372036854775807) (h : ∀ W, Kp No w W → Calls Tryz.prog 133 #[.pointer p, stv m c] W (AtP W o)) (hv : ∀ v, o = some v → isV v = true) :
  Calls Tryz.prog 79 #[.pointer p, stv m c] w (GetP w (visO o m c)) := by
 obtain ⟨w1, hw1⟩ : ∃ W, W = w.alloc (.cells #[.int .i64 m, .int .i64 c] 25) := ⟨_, rfl⟩
 have k1 : Kp No w w1 := by rw [hw1]; exact (Kp.refl _ _).alloc _
 have b1 : w1.heap[w.heap.size]? = some (.cells #[.int .i64 m, .int .i64 c] 25 (0, 0)) := by rw [hw1]; exact heap_alloc_new w _
 have c0 : w1.cell? ⟨w.heap.size, 0, none⟩ = some (.int .i64 m) := cell_at b1 0
 have c1 : w1.cell? ⟨w.heap.size, 1, none⟩ = some (.int .i64 c) := cell_at b1 1
 have hl1 := get_lt b1
 have H := Lib.hid (h w1 k1)
 have HK1 := Lib.hid k1
 have HB1 := Lib.hid b1
 have HW1 := Lib.hid hw1
 clear h k1 b1 hw1
 cases o with
 | none =>
  go_enter Tryz.func79, Tryz.ntmps79
  go_upto_region 1 with fail
  rw [← HW1.out]
  go_wp2_with fail
  refine H.out.mono ?_
  rintro e w3 ⟨rfl, k3⟩
  have HK3 := Lib.hid (HK1.out.trans_same k3)
  clear k3 c0 c1 hl1
  go_wp2_with fail
  go_ret2
  exact ⟨rfl, HK3.out.alloc _⟩
 | some v =>
  have hvv := hv v rfl
  have HVV := Lib.hid hvv
  clear hv hvv
  go_enter Tryz.func79, Tryz.ntmps79
  go_upto_region 1 with fail
  rw [← HW1.out]
  go_wp2_with fail
  refine H.out.mono ?_
  rintro e w3 ⟨y, hyv, rfl, hyo, hyf, k3⟩
  simp only [verV, verC]
  have HK3 := Lib.hid (HK1.out.trans_same k3)
  have HB3 := Lib.hid (k3.get HB1.out fun x => x)
  have HY := Lib.hid (And.intro hyv (And.intro hyo (fun g hg => Nat.le_trans HK1.out.size (hyf g hg))))
  have HYF := Lib.hid hyf
  clear k3 c0 c1 hl1 hyv hyo hyf
  go_upto_region 2 with (refine wpList_store_w rfl 44 _ _ rfl w3.heap.size (by rfl) _ _ _ rfl rfl (by kernel_rfl) (by rfl) (by rfl) ?_)
  obtain ⟨w5, hw5⟩ : ∃ W, W = w3.alloc (.cells #[.int .i64 y.v.m, .int .i64 y.v.c, .int .i64 y.v.o, y.sl, .bool y.v.gone, .int .i64 y.v.ttl] 44) := ⟨_, rfl⟩
  have k5 : Kp No w3 w5 := by rw [hw5]; exact (Kp.refl _ _).alloc _
  have b5 : w5.heap[w3.heap.size]? = some (.cells #[.int .i64 y.v.m, .int .i64 y.v.c, .int .i64 y.v.o, y.sl, .bool y.v.gone, .int .i64 y.v.ttl] 44 (0, 0)) := by rw [hw5]; exact heap_alloc_new w3 _
  rw [← hw5]
  have d0 : w5.cell? ⟨w3.heap.size, 0, none⟩ = some (.int .i64 y.v.m) := cell_at b5 0
  have d1 : w5.cell? ⟨w3.heap.size, 1, none⟩ = some (.int .i64 y.v.c) := cell_at b5 1
  have d2 : w5.cell? ⟨w3.heap.size, 2, none⟩ = some (.int .i64 y.v.o) := cell_at b5 2
  have d3 : w5.cell? ⟨w3.heap.size, 3, none⟩ = some y.sl := cell_at b5 3
  have d4 : w5.cell? ⟨w3.heap.size, 4, none⟩ = some (.bool y.v.gone) := cell_at b5 4
  have d5 : w5.cell? ⟨w3.heap.size, 5, none⟩ = some (.int .i64 y.v.ttl) := cell_at b5 5
  have c0 : w5.cell? ⟨w.heap.size, 0, none⟩ = some (.int .i64 m) := cell_at (k5.get HB3.out fun x => x) 0
  have c1 : w5.cell? ⟨w.heap.size, 1, none⟩ = some (.int .i64 c) := cell_at (k5.get HB3.out fun x => x) 1
  have hl5 := get_lt b5
  have hl6 := get_lt (k5.get HB3.out fun x => x)
  have HK5 := Lib.hid k5
  have HB5 := Lib.hid b5
  have hsn := cSeen_any y (by rw [HY.out.1]; exact HVV.out) m c hm w5
  rw [HY.out.1] at hsn
  have HSN := Lib.hid hsn
  clear hw5 k5 b5 hsn
  cases hse : seenV v m c with
  | true =>
   have HSE := Lib.hid hse
   clear hse
   go_wp2_with fail
   refine HSN.out.mono ?_
   rintro e w6 ⟨rfl, k6⟩
   rw [HSE.out]
   have h3 : w6.cell? ⟨w3.heap.size, 3, none⟩ = some y.sl := cell_at (k6.get HB5.out fun x => x) 3
   have hl7 := get_lt (k6.get HB5.out fun x => x)
   have HK6 := Lib.hid k6
   clear k6 d0 d1 d2 d3 d4 d5 c0 c1
   go_wp2_with fail
   go_ret2
   rw [vis_yes HSE.out, ← HY.out.1]
   exact ⟨y.a, y.cap, rfl, (HY.out.2.1.keep HK5.out fun _ _ x => x).keep HK6.out fun _ _ x => x, HY.out.2.2, (HK3.out.trans_same HK5.out).trans_same HK6.out⟩
  | false =>
   have HSE := Lib.hid hse
   clear hse
   go_wp2_with fail
   refine HSN.out.mono ?_
   rintro e w6 ⟨rfl, k6⟩
   rw [HSE.out]
   have HK6 := Lib.hid k6
   clear k6 d0 d1 d2 d3 d4 d5 c0 c1
   go_wp2_with fail
   go_ret2
   rw [vis_no HSE.out]
   exact ⟨rfl, (HK3.out.trans_same HK5.out).trans_same HK6.out⟩
end Go.Proofs.YtgnkmjeoaoongaaGreatDoor
namespace Go.Proofs.YtgnkmjeoaoongaaGreatDoor
open Go.RowKit Go.Mer
def putL (l : List RecS) : List UInt8 := numL 1 ++ listL l
end Go.Proofs.YtgnkmjeoaoongaaGreatDoor
namespace Go.Proofs.YtgnkmjeoaoongaaGreatDoor
open Go.RowKit Go.Mer Go.Maps Go.Sort Go.Shelf
theorem sorts_wide (m : Nat) : AnyZ.SortsIn Tryz.prog Tryz.sorted64_ren Fence.wide m :=
 ⟨fun blk off cap ss W hH hblk hsz => callsIn_wide.2 (AnyM.slices_Sort_string Tryz.sort118 blk off cap ss W hH hblk hsz),
  fun p cap W => callsIn_wide.2 (AnyM.slices_Sort_string_none Tryz.sort118 p cap W)⟩
theorem keys_wide (mb : Option Nat) (W : World) : Calls Tryz.prog 150 #[.map mb] W fun e w' => e = .returned (.func (.func 209) #[] #[.pointer (some ⟨W.heap.size, 0, none⟩)]) ∧ w' = W.alloc (.cells #[.map mb] 159) :=
 (callsIn_wide (n := 5)).1 (AnyZ.keys_in Tryz.keys150 Fence.wide 5 trivial rfl mb W)
set_option maxHeartbeats 1000000 in
theorem sorted_wide {H : Type} (b nn : Nat) (D0 : DataW H) (R : Value → Option (DataW H × List MemPlace)) (w : World) (hown : w.ownsMap Tryz.prog 9 R b nn D0) (hmax : Maps.size D0 ≤ maxLen) (hbytes : Maps.size D0 * 16 ≤ 140737488355328) :
  Calls Tryz.prog 64 #[.func (.func 209) #[] #[.pointer (some ⟨w.heap.size, 0, none⟩)]] (w.alloc (.cells #[.map (some b)] 159)) fun e w' => ∃ (v : Value) (ss : List (List UInt8)), e = .returned v ∧ ss.Perm (strKeys D0) ∧
   w'.ownsRow (w.alloc (.cells #[.map (some b)] 159)).heap.size 9 1 v ss.length ((ss.mergeSort (fun x y => decide (x ≤ y))).map encStr) ∧ (v = .slice none 0 0 ↔ ss = []) ∧ Below (w.alloc (.cells #[.map (some b)] 159)).heap.size (w.alloc (.cells #[.map (some b)] 159)) w' := by
 have hbl := hown.lt
 have hseq : SeqGives Fence.wide 2 Tryz.prog 209 #[.pointer (some ⟨w.heap.size, 0, none⟩)] encStr (fun ss => ss.Perm (strKeys D0)) (Maps.size D0) (w.alloc (.cells #[.map (some b)] 159)) :=
  AnyZ.keys_gives (ρ := Tryz.keys150_ren) { Tryz.keys150 with } Fence.wide _ trivial rfl (by omega) w.heap.size b nn D0 _ (by simp) (by simp) (by
   obtain ⟨es, clock, hb, Ft, hs, hD⟩ := hown
   exact ⟨es, clock, (Below.heap_alloc _ _ b hbl).trans hb, Ft, hs, hD⟩)
 exact (callsIn_wide (n := 5)).1 (AnyZ.sorted_in Tryz.sorted64 Fence.wide 5 trivial trivial trivial trivial rfl (by omega) (sorts_wide _) (enters_of Tryz.func118 (by kernel_rfl) rfl) 209 #[.pointer (some ⟨w.heap.size, 0, none⟩)] trivial (enters_of Tryz.func209 (by kernel_rfl) rfl) _ _ hmax hbytes _ hseq)
def readKV (kv : Value × Value) : Lit × DataW Unit := match kv.1 with | .string s => (Lit.string s.data.toList, DataW.nil) | _ => (Lit.bool false, DataW.nil)
theorem GMap.owns {w : World} {m : Nat} {l : List (ByteArray × Value)} (h : GMap Value.string w m l) (hl : ∀ p ∈ l, p.1.size ≤ maxLen) (hn : l.length ≤ maxLen) :
  ∃ (D0 : DataW Unit) (nn : Nat), w.ownsMap Tryz.prog 9 (fun _ => some (.nil, [])) m nn D0 ∧ (strKeys D0).Perm (l.map (·.1.data.toList)) ∧ Maps.size D0 = l.length := by
 obtain ⟨es, clock, hm, hs, hp⟩ := h
 have hsz : es.size = l.length := by have := congrArg List.length hp; simpa using this
 have hkey : ∀ x ∈ es.toList, ∃ p ∈ l, x.key = .string p.1 := fun x hx => by
  have : (x.key, x.val) ∈ es.toList.map fun e => (e.key, e.val) := List.mem_map.2 ⟨x, hx, rfl⟩
  rw [hp] at this
  obtain ⟨p, hp', he⟩ := List.mem_map.1 this
  exact ⟨p, hp', (Prod.mk.inj he).1.symm⟩
 have hrd : ∀ x ∈ es.toList, ∀ s : ByteArray, x.key = .string s → s.size ≤ maxLen → WideElems.rd (H := Unit) Tryz.prog 9 (fun _ => some (.nil, [])) x = some (.string s.data.toList, .nil) := fun x _ s hk hs => by
  unfold WideElems.rd
  rw [hk, WideMaps.keyOf_string_mk kindStr hs]
  rfl
 have hrg : es.toList.map (WideElems.rg (H := Unit) Tryz.prog 9 (fun _ => some (.nil, []))) = l.map fun p => (Lit.string p.1.data.toList, DataW.nil) := by
  have h1 : ∀ x ∈ es.toList, WideElems.rg (H := Unit) Tryz.prog 9 (fun _ => some (.nil, [])) x = readKV (x.key, x.val) := fun x hx => by
   obtain ⟨p, hp', hk⟩ := hkey x hx
   unfold WideElems.rg
   rw [hrd x hx p.1 hk (hl p hp'), hk]
   rfl
  rw [List.map_congr_left h1, show (es.toList.map fun x => readKV (x.key, x.val)) = (es.toList.map fun x => (x.key, x.val)).map readKV from by rw [List.map_map]; rfl, hp, List.map_map]
  rfl
 refine ⟨.map ((es.toList.map (WideElems.rg (H := Unit) Tryz.prog 9 (fun _ => some (.nil, [])))).foldr DataW.insert []), es.size, ⟨es, clock, hm, ⟨by omega, hs, fun x hx => ?_⟩, Nat.le_refl _, rfl⟩, ?_, ?_⟩
 ·obtain ⟨p, hp', hk⟩ := hkey x hx
  exact ⟨_, hrd x hx p.1 hk (hl p hp')⟩
 ·have h1 := (WideShapes.sorted_perm (l.map fun p => (Lit.string p.1.data.toList, (DataW.nil : DataW Unit)))).map fun p => strOf p.1
  rw [hrg]
  refine h1.trans ?_
  rw [List.map_map]
  exact List.Perm.refl _
 ·rw [hrg, Maps.size_eq, (WideShapes.sorted_perm _).length_eq, List.length_map]
def namesOf (ss : List (List UInt8)) : List ByteArray := (ss.mergeSort fun x y => decide (x ≤ y)).map fun b => ⟨b.toArray⟩
set_option maxHeartbeats 1000000 in
theorem Names_any (w : World) (d : Nat) (s : DSt) (F : Nat → Prop) (hD : DiskAt w d s F) (hl : ∀ p ∈ s.files, p.1.size ≤ maxLen) :
  Calls Tryz.prog 95 #[.pointer (some ⟨d, 0, none⟩)] w fun e w' => ∃ (ss : List (List UInt8)) (a : Option Addr) (c : Nat), e = .returned (.slice a (namesOf ss).length c) ∧ ss.Perm (s.files.map (·.1.data.toList)) ∧
   Rd w' w'.heap.size a ((namesOf ss).map Value.string) ∧ Kp No w w' := by
 obtain ⟨m, fused, left, L, hC, hf, hs, hF, hFs⟩ := hD
 have hfew := hC.few
 obtain ⟨D0, nn, hown, hperm, hsize⟩ := GMap.owns hC.map (fun p hp => by
  obtain ⟨q, hq, rfl⟩ := List.mem_map.1 hp
  exact hl (q.1, q.2.abs) (by rw [hs]; exact List.mem_map.2 ⟨q, hq, rfl⟩)) (by simp only [ptrL, List.length_map, maxLen]; omega)
 have hsz : Maps.size D0 ≤ 4096 := by rw [hsize]; simpa [ptrL] using hfew
 have c1 := cell_at hC.cell 1
 have hdl := get_lt hC.cell
 simp at c1
 have hsorted := sorted_wide m nn D0 _ w hown (by simp only [maxLen]; omega) (by omega)
 have HS := Lib.hid hsorted
 have HP := Lib.hid hperm
 have HF := Lib.hid hs
 clear hsorted hperm hown hs hC hf hF hFs hl hsize hsz
 go_enter Tryz.func95, Tryz.ntmps95
 go_wp2_with fail
 refine (keys_wide _ _).mono ?_
 rintro e w1 ⟨rfl, rfl⟩
 go_wp2_with fail
 refine (HS.out).mono ?_
 rintro e w2 ⟨v, ss, rfl, hp, hrow, _, hb⟩
 have HP2 := Lib.hid hp
 have HR := Lib.hid hrow
 have HB := Lib.hid hb
 clear hp hrow hb
 go_wp2_with fail
 go_ret
 have hlen : (namesOf ss).length = ss.length := by simp [namesOf]
 have hk : Kp No w w2 := ((Kp.refl No w).alloc _).trans_same (Kp.of_below HB.out fun k hk hs => by simp at hk hs; omega)
 have hxs : (ss.mergeSort fun x y => decide (x ≤ y)).map encStr = (namesOf ss).map Value.string := by simp [namesOf, encStr]
 have hpp : ss.Perm (s.files.map (·.1.data.toList)) := by
  have := HP2.out.trans HP.out
  rw [show ptrL L = L.map fun p => (p.1, p.2.ptr) from rfl, List.map_map] at this
  rw [HF.out, show absL L = L.map fun p => (p.1, p.2.abs) from rfl, List.map_map]
  exact this
 obtain ⟨_, ⟨rfl, h0⟩ | ⟨g, cap, cur, rfl, _, hg, _, _, _, hx⟩⟩ := HR.out
 ·have hss : ss = [] := List.eq_nil_of_length_eq_zero h0
  subst hss
  exact ⟨[], none, 0, by rw [hlen]; rfl, hpp, by simp [namesOf]; exact Rd.nil _ _ _, hk⟩
 ·refine ⟨ss, some ⟨g, 0, none⟩, cap, by rw [hlen]; rfl, hpp, ?_, hk⟩
  refine Rd.row hg ?_ (get_lt hg) (Nat.le_refl _) (n := ss.length)
  rw [← hxs, ← hx]
  simp
end Go.Proofs.YtgnkmjeoaoongaaGreatDoor

