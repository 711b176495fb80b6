/-
  Texts laid together: WCaught, WClose, Args, Sum.
-/
import Derived.Test.YtgnkmjeoaoongaaGreatDoorSb0
import Derived.Test.YtgnkmjeoaoongaaGreatDoorSa1
import Derived.ProofKit
import Derived.SizedLaws
import Derived.Deep.Matrix
import Derived.Carry
import Derived.Test.YtgnkmjeoaoongaaGreatDoorProg
import Derived.Test.YtgnkmjeoaoongaaGreatDoorSa0
import Derived.WalkSpells
import Derived.WalkLawsBesides
import Derived.BigQuiet
namespace Go.Proofs.YtgnkmjeoaoongaaGreatDoor
open Go.RowKit Go.Mer
theorem fail_is (v : Value) (xT : TypeId) (w : World) : (Instr.typeAssert (.iface 280 v) xT 280 true).run Tryz.prog w = .ok (.tuple #[v, .bool true]) w := by
 simp [Instr.typeAssert, run_underlying Tryz.underlying280, go_sem, Result.andThen]
set_option maxRecDepth 100000 in
theorem caught_fail (b i k : Nat) (x : Value) (w : World) (hc : w.cell? ⟨b, i, none⟩ = some x) (hf : w.frozen? ⟨b, i, none⟩ = false) (hb : b < w.heap.size) : Calls Tryz.prog 156 #[.iface 280 (.agg #[.int .i64 (k : Int)]), .pointer (some ⟨b, i, none⟩)] w fun e w' => e = .returned (.bool true) ∧ ∃ o, w' = (w.setCell ⟨b, i, none⟩ (.int .i64 (k : Int))).alloc o := by
 have hta := fail_is
 go_enter Tryz.func156, Tryz.ntmps156
 go_wp2_with fail
 go_ret
 exact ⟨rfl, _, rfl⟩
end Go.Proofs.YtgnkmjeoaoongaaGreatDoor
namespace Go.Proofs.YtgnkmjeoaoongaaGreatDoor
open Go.RowKit Go.Mer
theorem app_idle (p q r : Addr) (w : World) : CallsD Tryz.prog 183 #[.pointer (some p), .pointer (some q), .pointer (some r)] .returning w fun e u' w' => e = .returned (.tuple #[]) ∧ u' = .returning ∧ w' = w := by
 refine callsD_of_wpS Tryz.func183 rfl fun c₀ cs hu => ?_
 apply wpS_seq
 apply wpS_region
 simp [wpOpsS, go_sem, recoverD, hu, Tryz.ntmps183, Exit.thenS]
 refine (caught_nil p w).mono ?_
 rintro e w' ⟨rfl, rfl⟩
 refine wpS_cond (t := false) (by simp [Act.eval, Array.replicate]) ?_
 simp only [Bool.false_eq_true, if_false]
 refine wpS_of_wp (wp_skip ?_)
 cases c₀
 simp_all [bodyPostS, results, Tryz.results183]
set_option maxRecDepth 100000 in
set_option maxHeartbeats 1000000 in
theorem app_panic (b i k l : Nat) (q r : Addr) (x y z : Value) (older : List PanicEntry) (w : World) (hc : w.cell? ⟨b, i, none⟩ = some x) (hf : w.frozen? ⟨b, i, none⟩ = false) (hb : b < w.heap.size) (hq : w.cell? q = some y) (hqf : w.frozen? q = false) (hqb : q.block < w.heap.size) (hne : ¬ q.block = b)
  (hr : w.cell? r = some (.pointer (some ⟨l, 0, none⟩))) (hrb : r.block < w.heap.size) (hrn : ¬ r.block = b) (hl : w.cell? ⟨l, 5, none⟩ = some z) (hlf : w.frozen? ⟨l, 5, none⟩ = false) (hlb : l < w.heap.size) (hln : ¬ l = b) (hlq : ¬ l = q.block) :
  CallsD Tryz.prog 183 #[.pointer (some ⟨b, i, none⟩), .pointer (some q), .pointer (some r)] (.panicking ({ v := .iface 280 (.agg #[.int .i64 (k : Int)]), recovered := false } :: older)) w fun e u' w' =>
   e = .returned (.tuple #[]) ∧ u' = .panicking ({ v := .iface 280 (.agg #[.int .i64 (k : Int)]), recovered := true } :: older) ∧ ∃ o, w' = (((w.setCell ⟨b, i, none⟩ (.int .i64 (k : Int))).alloc o).setCell q (.int .i64 0)).setCell ⟨l, 5, none⟩ (.bool ((k : Int) != 6)) := by
 refine callsD_of_wpS Tryz.func183 rfl fun c₀ cs hu => ?_
 apply wpS_seq
 apply wpS_region
 simp [wpOpsS, go_sem, recoverD, hu, Tryz.ntmps183, Exit.thenS]
 refine (caught_fail b i k x w hc hf hb).mono ?_
 rintro e w' ⟨rfl, o, rfl⟩
 refine wpS_cond (t := true) (by simp [Act.eval, Array.replicate]) ?_
 simp only [if_true]
 have hk : Kp (fun j => j = b) w ((w.setCell ⟨b, i, none⟩ (.int .i64 (k : Int))).alloc o) := ((Kp.refl (fun j => j = b) w).setCell (p := ⟨b, i, none⟩) (.inl rfl) _).alloc _
 have hk0 : Kp No (w.setCell ⟨b, i, none⟩ (.int .i64 (k : Int))) ((w.setCell ⟨b, i, none⟩ (.int .i64 (k : Int))).alloc o) := (Kp.refl _ _).alloc _
 have hq2 := (hk.cell hqb hne).trans hq
 have hqf2 := (hk.frozen hqb hne).trans hqf
 have hr2 := (hk.cell hrb hrn).trans hr
 have hl2 := (hk.cell (p := ⟨l, 5, none⟩) hlb hln).trans hl
 have hlf2 := (hk.frozen (p := ⟨l, 5, none⟩) hlb hln).trans hlf
 have he2 : ((w.setCell ⟨b, i, none⟩ (.int .i64 (k : Int))).alloc o).cell? ⟨b, i, none⟩ = some (.int .i64 (k : Int)) := by
  rw [hk0.cell (p := ⟨b, i, none⟩) (by simpa using hb) (fun x => x)]
  simp [go_sem, hc]
 obtain ⟨W, hW⟩ : ∃ W, W = (w.setCell ⟨b, i, none⟩ (.int .i64 (k : Int))).alloc o := ⟨_, rfl⟩
 rw [← hW] at hq2 hqf2 hr2 hl2 hlf2 he2 ⊢
 have hkq : Kp (fun j => j = q.block) W (W.setCell q (.int .i64 0)) := (Kp.refl (fun j => j = q.block) W).setCell (.inl rfl) _
 have hWs : w.heap.size ≤ W.heap.size := by rw [hW]; exact hk.size
 have hl3 := (hkq.cell (p := ⟨l, 5, none⟩) (by show l < _; omega) hlq).trans hl2
 have hlf3 := (hkq.frozen (p := ⟨l, 5, none⟩) (by show l < _; omega) hlq).trans hlf2
 have HW := Lib.hid hW
 clear hW hk hk0 hkq
 refine wpS_of_wp ?_
 go_wp2_with fail
 exact ⟨rfl, _, rfl, _, results_none rfl _ _ _, rfl, rfl, o, by rw [← HW.out]⟩
end Go.Proofs.YtgnkmjeoaoongaaGreatDoor
namespace Go.Mer
open Go.ChangeShapes Go.WideShapes Go.ChangeAt Go.RowKit Go.Deep
structure Row where
 a : Option Addr
 cap : Nat
 data : List UInt8
def Row.val (r : Row) : Value := .slice r.a r.data.length r.cap
structure RowsAt (w : World) (a : Option Addr) (R : List Row) : Prop where
 top : Rd w w.heap.size a (R.map Row.val)
 each : ∀ r ∈ R, Rd w w.heap.size r.a (u8s r.data) ∧ r.data.length ≤ 140737488355328
section
variable {w W : World} {a : Option Addr} {R : List Row}
theorem RowsAt.at_ (h : RowsAt w a R) (hk : Kp No w W) {j : Nat} (hj : j < R.length) :
  ∃ g off, a = some ⟨g, off, none⟩ ∧ g < w.heap.size ∧ W.cell? ⟨g, off + j, none⟩ = some (.slice R[j].a R[j].data.length R[j].cap) ∧ Rd W w.heap.size R[j].a (u8s R[j].data) ∧ R[j].data.length ≤ 140737488355328 := by
 obtain ⟨g, off, ha, hg, _, hc⟩ := h.top.at_ (i := j) (u := R[j].val) (by simp [hj])
 obtain ⟨h1, h2⟩ := h.each R[j] (List.getElem_mem hj)
 exact ⟨g, off, ha, hg, (hk.cell hg fun x => x).trans hc, h1.keep hk fun _ _ x => x, h2⟩
end
def toB (n : Int) : UInt8 := UInt8.ofNat n.toNat
theorem u8_toB {n : Int} (h : (Lit.int .u8 n).wf = true) : u8 (toB n) = .int .u8 n := by
 have h1 : IntKind.u8.min = 0 := rfl
 have h2 : IntKind.u8.max = 255 := rfl
 simp only [Lit.wf, Bool.and_eq_true, decide_eq_true_eq, h1, h2] at h
 unfold u8 toB
 rw [UInt8.toNat_ofNat_of_lt' (by show n.toNat < 256; omega)]
 congr 1
 omega
section
variable {H : Type} {enc : TypeId × Value → H} {P : Program} {W : World} {ts : List TypeId} {ds : List (DataW H)}
theorem weightsAll_mem' {e : TypeId} : ∀ {l : List (DataW H)} {d : DataW H}, d ∈ l → ∀ n ∈ d.weights P e, n ∈ DataW.weightsAll P e l
 | d' :: r, d, hd, n, hn => by
  simp only [DataW.weightsAll, List.mem_append]
  rcases List.mem_cons.1 hd with rfl | h
  ·exact Or.inl hn
  ·exact Or.inr (weightsAll_mem' h n hn)
theorem reach_is : reachBytes = 140737488351232 := rfl
theorem trodAll_stays (hl : laidOutB P = true) {W' : World} (hb : Below W.heap.size W W') : ∀ {ts : List TypeId} {vs : List Value} {ds : List (DataW H)} {ps : List MemPlace}, (∀ t ∈ ts, P.readableRec t = true ∧ t < P.types.size) →
  DataW.TrodAll enc P W 0 (fun _ => true) true ts vs ds ps → (∀ x ∈ ps, x.block < W.heap.size) → DataW.TrodAll enc P W' 0 (fun b => decide (b < W.heap.size)) true ts vs ds ps
 | [], [], [], _, _, h, _ => h
 | t :: ts, v :: vs, d :: ds, ps, ht, ⟨p, q, h1, h2, hp⟩, hlt => by
  obtain ⟨hr, hs⟩ := ht t (List.mem_cons_self ..)
  refine ⟨p, q, Below.trod hl hr hs h1 hb fun x hx => hlt x (by rw [hp]; simp [hx]), trodAll_stays hl hb (fun t h => ht t (List.mem_cons_of_mem _ h)) h2 fun x hx => hlt x (by rw [hp]; simp [hx]), hp⟩
theorem post_law {f : Func} {s : ChangeSpec} {W' : World} {args : Array Value} {p q : List MemPlace} {tb : TypeId} (hl : laidOutB P = true) (hall : ∀ t ∈ f.params.toList, P.readableRec t = true ∧ t < P.types.size)
  (hb0 : f.resultTypes = #[tb]) (hb1 : P.underlying tb = some .bool) (hv : s.vars = []) (hr : (s.fn H ds).results = [.lit (.bool true)]) (ha : (s.fn H ds).args = ds) (hs : (s.fn H ds).vars = [])
  (hW : DataW.Whole enc P f.params.toList s.vars false W args.toList ds [] (p ++ q)) (hA : DataW.TrodAll enc P W 0 (fun _ => true) true f.params.toList args.toList ds p) (hk : Kp No W W') :
  s.post enc P f false true false false W args (.bool true) W' := by
 have hlt : ∀ x ∈ p, x.block < W.heap.size := fun x hx => hW.lt x (List.mem_append_left _ hx)
 have hbw : Below W.heap.size W W' := hk.below (Nat.le_refl _) fun _ _ x => x
 refine ⟨ds, [], p ++ q, [], p, [], hW, ?_, ?_, ?_, hbw.frame _, fun h => by cases h⟩
 ·rw [List.append_nil, hr, hb0]
  exact trodAll_mk1 ⟨1, by simp [DataW.trod, Value.cells, hb1]⟩
 ·rw [List.append_nil, ha]
  exact trodAll_stays hl hbw hall hA hlt
 ·rw [List.append_nil, hs, hv]
  rfl
end
end Go.Mer
namespace Go.Proofs.YtgnkmjeoaoongaaGreatDoor
open Go.RowKit Go.Mer
def catR (R : List Row) : List UInt8 := (R.map Row.data).flatten
theorem catR_step (R : List Row) {j : Nat} (h : j < R.length) : catR (R.take (j + 1)) = catR (R.take j) ++ R[j].data := by
 rw [List.take_succ_eq_append_getElem h]
 unfold catR
 rw [List.map_append, List.flatten_append]
 simp
theorem take_snocB (l : List UInt8) {k : Nat} (h : k < l.length) : l.take (k + 1) = l.take k ++ [l[k]] := List.take_succ_eq_append_getElem h
theorem low1 {z : Nat} (h : z < 4294967296) : bits .and .u32 (z : Int) 1 = ((z % 2 : Nat) : Int) := by
 have := bits_and (k := .u32) rfl (a := z) (b := 1) h (by decide)
 rw [Nat.and_one_is_mod] at this
 exact this
theorem crc_step {z : Nat} (h : z < 4294967296) : bits .xor .u32 ((z : Int) / 2) (bits .and .u32 3988292384 (-bits .and .u32 (z : Int) 1 % 4294967296)) = ((crcBit z : Nat) : Int) := by
 rw [low1 h]
 have e2 : (z : Int) / 2 = ((z / 2 : Nat) : Int) := by omega
 rw [e2]
 unfold crcBit
 by_cases h1 : z % 2 = 1
 ·rw [if_pos h1, h1]
  have e3 : bits .and .u32 3988292384 (-((1 : Nat) : Int) % 4294967296) = ((3988292384 : Nat) : Int) := by decide +kernel
  rw [e3]
  exact bits_xor rfl (by show _ < 2 ^ 32; omega) (by decide)
 ·rw [if_neg h1, show z % 2 = 0 from by omega]
  have e3 : bits .and .u32 3988292384 (-((0 : Nat) : Int) % 4294967296) = ((0 : Nat) : Int) := by decide +kernel
  rw [e3, bits_xor rfl (by show _ < 2 ^ 32; omega) (by decide), Nat.xor_zero]
theorem crc_not {z : Nat} (h : z < 4294967296) : bits .xor .u32 IntKind.u32.max (z : Int) = ((z ^^^ 4294967295 : Nat) : Int) := by
 have := bits_xor (k := .u32) rfl (a := 4294967295) (b := z) (by decide) h
 rw [Nat.xor_comm] at this
 exact this
set_option maxRecDepth 100000 in
theorem Sum_any (w : World) (a : Option Addr) (cap : Nat) (R : List Row) (hR : RowsAt w a R) (hl : R.length ≤ 140737488355328) :
  Calls Tryz.prog 234 #[.slice a R.length cap] w fun e w' => e = .returned (.int .u32 (crc (catR R) : Int)) ∧ w = w' := by
 have HR := Lib.hid hR
 clear hR
 go_enter Tryz.func234, Tryz.ntmps234
 go_wp2_with fail
 go_loop [3, 10] (fun v i => ∃ j c : Nat, j ≤ R.length ∧ i = .int .i64 j ∧ v = .int .u32 (c : Int) ∧ Hid (c = crcRun 4294967295 (catR (R.take j))) ∧ c < 4294967296) (fun _ i => R.length - (intOf i).toNat)
 case atStart => exact ⟨0, 4294967295, Nat.zero_le _, rfl, rfl, rfl, by decide⟩
 case round =>
  obtain ⟨j, c, hj, rfl, rfl, HC, hc⟩ := hrel
  by_cases hlt : j < R.length
  ·obtain ⟨g0, off0, rfl, hg0, hc0, hr0, hm0⟩ := HR.out.at_ (Kp.refl _ _) hlt
   have HS := Lib.hid (catR_step R hlt)
   obtain ⟨D, hD⟩ : ∃ D, D = R[j].data := ⟨_, rfl⟩
   obtain ⟨ra, hra⟩ : ∃ ra, ra = R[j].a := ⟨_, rfl⟩
   obtain ⟨rc, hrc⟩ : ∃ rc, rc = R[j].cap := ⟨_, rfl⟩
   rw [← hD, ← hra] at hr0
   rw [← hD, ← hra, ← hrc] at hc0
   rw [← hD] at hm0 HS
   clear hD hra hrc
   have HR0 := Lib.hid hr0
   clear hr0
   go_wp2_with fail
   go_loop [3, 16] (fun v i => ∃ k c' : Nat, k ≤ D.length ∧ i = .int .i64 k ∧ v = .int .u32 (c' : Int) ∧ Hid (c' = crcRun c (D.take k)) ∧ c' < 4294967296) (fun _ i => D.length - (intOf i).toNat)
   case atStart => exact ⟨0, c, Nat.zero_le _, rfl, rfl, rfl, hc⟩
   case round =>
    obtain ⟨k, c', hk, rfl, rfl, HC', hc'⟩ := hrel
    by_cases hkl : k < D.length
    ·obtain ⟨g, off, rfl, hg, _, hcell⟩ := HR0.out.byte hkl
     have HT := Lib.hid (take_snocB D hkl)
     have hlt1 := xb_lt hc' D[k]
     have hb8 := D[k].toNat_lt
     obtain ⟨bv, hbv⟩ : ∃ bv, bv = D[k].toNat := ⟨_, rfl⟩
     rw [← hbv] at hcell hlt1 hb8
     have hx := bits_xor (k := .u32) rfl (a := c') (b := bv) hc' (by show _ < 2 ^ 32; omega)
     obtain ⟨y, hy⟩ : ∃ y, y = c' ^^^ bv := ⟨_, rfl⟩
     rw [← hy] at hx hlt1
     have HY := Lib.hid hy
     have HB := Lib.hid hbv
     clear hy hbv
     go_wp2_with fail
     go_loop [3, 24] (fun v i => ∃ q z : Nat, q ≤ 8 ∧ i = .int .i64 q ∧ v = .int .u32 (z : Int) ∧ Hid (z = crcBits q y) ∧ z < 4294967296) (fun _ i => 8 - (intOf i).toNat)
     case atStart => exact ⟨0, y, Nat.zero_le _, rfl, rfl, rfl, hlt1⟩
     case round =>
      obtain ⟨q, z, hq, rfl, rfl, HZ, hz⟩ := hrel
      clear hx
      by_cases hq8 : q < 8
      ·go_wp2_with fail
       go_round
       case rel => exact ⟨q + 1, crcBit z, by omega, by go_num, by rw [crc_step hz], by show _ = _; rw [crcBits_succ, ← show z = _ from HZ.out], crcBit_lt hz⟩
       case measure => simp [intOf]; omega
      ·obtain rfl : q = 8 := by omega
       go_wp2_with fail
       go_round
       case rel =>
        refine ⟨k + 1, z, by omega, by go_num, rfl, ?_, hz⟩
        show z = _
        rw [HT.out, crcRun_snoc, ← show c' = _ from HC'.out, show z = _ from HZ.out, show y = _ from HY.out, show bv = _ from HB.out]
        rfl
       case measure => simp [intOf]; omega
    ·obtain rfl : k = D.length := by omega
     go_wp2_with fail
     go_round
     case rel =>
      refine ⟨j + 1, c', by omega, by go_num, rfl, ?_, hc'⟩
      show c' = _
      rw [HS.out, crcRun_append, ← show c = _ from HC.out, show c' = _ from HC'.out, List.take_length]
     case measure => simp [intOf]; omega
  ·obtain rfl : j = R.length := by omega
   go_wp2_with fail
   go_ret
   refine ⟨?_, rfl⟩
   have : crc (catR R) = c ^^^ 4294967295 := by rw [show c = _ from HC.out, List.take_length]; rfl
   rw [this, ← crc_not hc]
   rfl
end Go.Proofs.YtgnkmjeoaoongaaGreatDoor

