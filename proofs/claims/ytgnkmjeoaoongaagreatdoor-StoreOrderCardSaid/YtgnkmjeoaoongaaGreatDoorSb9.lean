/-
  Texts laid together: WFour, WEnc, WNum, WDec.
-/
import Derived.Test.YtgnkmjeoaoongaaGreatDoorSb2
import Derived.Deep.CutRange
import Derived.Deep.CutBlock
namespace Go.Proofs.YtgnkmjeoaoongaaGreatDoor
open Go.RowKit Go.Mer
theorem four_cells (v : Nat) (hv : v < 4294967296) : (u8s (fourL v)).toArray = #[.int .u8 ((v : Int) % 256), .int .u8 ((v : Int) / 256 % 256), .int .u8 ((v : Int) / 65536 % 256), .int .u8 ((v : Int) / 16777216)] := by
 have e : u8s (fourL v) = [.int .u8 ((v % 256 : Nat) : Int), .int .u8 ((v / 256 % 256 : Nat) : Int), .int .u8 ((v / 65536 % 256 : Nat) : Int), .int .u8 ((v / 16777216 % 256 : Nat) : Int)] := by
  unfold fourL
  simp only [u8s, List.map_cons, List.map_nil, u8, u8_of]
 have a0 : ((v % 256 : Nat) : Int) = (v : Int) % 256 := Int.natCast_emod v 256
 have d1 : ((v / 256 : Nat) : Int) = (v : Int) / 256 := Int.natCast_ediv v 256
 have d2 : ((v / 65536 : Nat) : Int) = (v : Int) / 65536 := Int.natCast_ediv v 65536
 have d3 : ((v / 16777216 : Nat) : Int) = (v : Int) / 16777216 := Int.natCast_ediv v 16777216
 have a1 : ((v / 256 % 256 : Nat) : Int) = (v : Int) / 256 % 256 := by rw [← d1]; exact Int.natCast_emod (v / 256) 256
 have a2 : ((v / 65536 % 256 : Nat) : Int) = (v : Int) / 65536 % 256 := by rw [← d2]; exact Int.natCast_emod (v / 65536) 256
 rw [e, Nat.mod_eq_of_lt (show v / 16777216 < 256 by omega), a0, a1, a2, d3]
set_option maxRecDepth 100000 in
theorem four_any (v : Nat) (hv : v < 4294967296) (w : World) : Calls Tryz.prog 233 #[.int .u32 (v : Int)] w (RdP w (fourL v)) := by
 go_enter Tryz.func233, Tryz.ntmps233
 go_wp2_with fail
 go_ret
 rw [← four_cells v hv]
 exact ⟨_, 4, rfl, Rd.const w 5 (0, 0) _ _ rfl, Nat.le_refl _, (Kp.refl _ _).alloc _⟩
theorem catR_1 (r : Row) : catR [r] = r.data := by simp [catR]
theorem catR_2 (r q : Row) : catR [r, q] = r.data ++ q.data := by simp [catR]
theorem four_le (v : Nat) : (fourL v).length ≤ 140737488355328 := by rw [fourL_length]; omega
theorem cat_44 (v S : Nat) (a a' : Option Addr) (c c' : Nat) : catR [⟨a, c, fourL v⟩, ⟨a', c', fourL S⟩] = fourL v ++ fourL S := catR_2 _ _
theorem cat_44_le (v S : Nat) (a a' : Option Addr) (c c' : Nat) : (catR [⟨a, c, fourL v⟩, ⟨a', c', fourL S⟩]).length ≤ 140737488355328 := by
 rw [cat_44, List.length_append, fourL_length, fourL_length]
 omega
theorem Join_2 (W : World) (g c : Nat) (r q : Row) (hR : RowsAt W (some ⟨g, 0, none⟩) [r, q]) (hc : 2 ≤ c) (hl : (r.data ++ q.data).length ≤ 140737488355328) : Calls Tryz.prog 231 #[.slice (some ⟨g, 0, none⟩) 2 c] W (RdP W (r.data ++ q.data)) := by
 have h := Join_any W (some ⟨g, 0, none⟩) c [r, q] hR hc (by show 2 ≤ 140737488355328; omega) (by rw [catR_2]; exact hl)
 rw [catR_2] at h
 exact h
theorem Sum_1 (W : World) (g c : Nat) (r : Row) (hR : RowsAt W (some ⟨g, 0, none⟩) [r]) : Calls Tryz.prog 234 #[.slice (some ⟨g, 0, none⟩) 1 c] W fun e w' => e = .returned (.int .u32 (crc r.data : Int)) ∧ W = w' := by
 have h := Sum_any W (some ⟨g, 0, none⟩) c [r] hR (by show 1 ≤ 140737488355328; omega)
 rw [catR_1] at h
 exact h
set_option maxRecDepth 100000 in
theorem headOf_any (v : Nat) (hv : v < 4294967296) (w : World) : Calls Tryz.prog 232 #[.int .u32 (v : Int)] w (RdP w (headL v)) := by
 have HF := Lib.hid (fun (x : Nat) (hx : x < 4294967296) W => four_any x hx W)
 have HV := Lib.hid hv
 obtain ⟨S, hS⟩ : ∃ S, S = crc (fourL v) := ⟨_, rfl⟩
 have HSS := Lib.hid (And.intro hS (show S < 4294967296 by rw [hS]; exact crc_lt _))
 clear hv hS
 go_enter Tryz.func232, Tryz.ntmps232
 go_wp2_with fail
 have hc := HF.out v HV.out w
 with_reducible refine hc.mono ?_
 rintro e w1 ⟨a1, c1, rfl, r1, _, k1⟩
 have HR1 := Lib.hid r1
 have HK1 := Lib.hid k1
 clear r1 k1 hc
 simp only [fourL_length]
 go_wp2_with fail
 have hc := HF.out v HV.out w1
 with_reducible refine hc.mono ?_
 rintro e w2 ⟨a2, c2, rfl, r2, _, k2⟩
 have HK2 := Lib.hid k2
 simp only [fourL_length]
 obtain ⟨hrow, hk3⟩ := one_made w2 42 a2 c2 (fourL v) r2 (four_le v)
 rw [fourL_length] at hrow hk3
 obtain ⟨W3, hW3⟩ : ∃ W, W = w2.alloc (.cells #[.slice a2 4 c2] 42) := ⟨_, rfl⟩
 have HW3 := Lib.hid hW3
 rw [← hW3] at hrow hk3
 have hsum := Sum_1 W3 w2.heap.size 1 _ hrow
 simp only [← show S = _ from HSS.out.1] at hsum
 have HS := Lib.hid hsum
 have HK3 := Lib.hid hk3
 clear hsum hrow hk3 hW3 r2 k2 hc
 go_wp2_with fail
 rw [← HW3.out]
 have hc := HS.out
 with_reducible refine hc.mono ?_
 rintro e w4 ⟨rfl, rfl⟩
 clear hc
 go_wp2_with fail
 have hc := HF.out S HSS.out.2 W3
 with_reducible refine hc.mono ?_
 rintro e w5 ⟨a5, c5, rfl, r5, _, k5⟩
 simp only [fourL_length]
 have kk : Kp No w1 w5 := HK2.out.trans_same (HK3.out.trans_same k5)
 obtain ⟨hrow, hk6⟩ := two_made w5 42 a1 a5 c1 c5 (fourL v) (fourL S) ((HR1.out.keep kk fun _ _ x => x).mono kk.size (Nat.le_refl _)) r5 (four_le v) (four_le S)
 rw [fourL_length, fourL_length] at hrow hk6
 obtain ⟨W6, hW6⟩ : ∃ W, W = w5.alloc (.cells #[.slice a1 4 c1, .slice a5 4 c5] 42) := ⟨_, rfl⟩
 have HW6 := Lib.hid hW6
 rw [← hW6] at hrow hk6
 have hj := Join_2 W6 w5.heap.size 2 _ _ hrow (Nat.le_refl _) (by rw [← cat_44 v S a1 a5 c1 c5]; exact cat_44_le v S a1 a5 c1 c5)
 have hh : headL v = fourL v ++ fourL S := by unfold headL; rw [HSS.out.1]
 simp only [← hh] at hj
 have HJ := Lib.hid hj
 have HK6 := Lib.hid (HK1.out.trans_same (kk.trans_same hk6))
 clear hj hrow hk6 hW6 kk k5 r5 hc hh
 go_wp2_with fail
 rw [← HW6.out]
 have hc := HJ.out
 with_reducible refine hc.mono ?_
 rintro e w7 ⟨a7, c7, rfl, r7, h7, k7⟩
 have HFIN := Lib.hid (show RdP w (headL v) (.returned (.slice a7 (headL v).length c7)) w7 from ⟨a7, c7, rfl, r7, h7, HK6.out.trans_same k7⟩)
 clear r7 h7 k7 hc
 go_wp2_with fail
 go_ret
 exact HFIN.out
end Go.Proofs.YtgnkmjeoaoongaaGreatDoor
namespace Go.Proofs.YtgnkmjeoaoongaaGreatDoor
open Go.RowKit Go.Mer
def FrP (w : World) (p : List UInt8) (e : Ending) (w' : World) : Prop := ∃ a c, e = .returned (.tuple #[.slice a (frameL p).length c, .int .i64 0]) ∧ Rd w' w'.heap.size a (u8s (frameL p)) ∧ Kp No w w'
def OwP (w : World) (l : List UInt8) (e : Ending) (w' : World) : Prop :=
 ∃ a c, e = .returned (.slice a l.length c) ∧ Mer.Own w' 5 1 (.slice a l.length c) l.length (u8s l) ∧ (∀ g, (Value.slice a l.length c).ownBlock = some g → w.heap.size ≤ g) ∧ Kp No w w'
theorem catR_take_le (R : List Row) (j : Nat) : (catR (R.take j)).length ≤ (catR R).length := by
 have : catR R = catR (R.take j) ++ catR (R.drop j) := by
  unfold catR
  rw [← List.flatten_append, ← List.map_append, List.take_append_drop]
 rw [this, List.length_append]
 omega
set_option maxRecDepth 100000 in
set_option maxHeartbeats 1000000 in
theorem Encode_any (w : World) (a : Option Addr) (cap : Nat) (R : List Row) (hR : RowsAt w a R) (hc : R.length ≤ cap) (hn : R.length ≤ 1000000) (hl : (catR R).length ≤ 262144) :
  Calls Tryz.prog 186 #[.slice a R.length cap] w (FrP w (catR R)) := by
 have HJ := Lib.hid (fun W (h : Kp No w W) => Join_any W a cap R (hR.keep h) hc (by omega) (by omega))
 have HR := Lib.hid hR
 have HSTEP := Lib.hid (fun j (h : j < R.length) => catR_step R h)
 have hle := catR_take_le R
 have HF := Lib.hid (fun (x : Nat) (hx : x < 4294967296) W => four_any x hx W)
 have HH := Lib.hid (fun (x : Nat) (hx : x < 4294967296) W => headOf_any x hx W)
 obtain ⟨P, hP⟩ : ∃ P, P = catR R := ⟨_, rfl⟩
 have hlen : ∀ j, (catR (R.take j)).length ≤ 262144 := fun j => Nat.le_trans (hle j) hl
 rw [← hP] at HJ hl ⊢
 have HP := Lib.hid hP
 have HL := Lib.hid hlen
 clear hR hc hP hle hlen
 go_enter Tryz.func186, Tryz.ntmps186
 go_wp2_with fail
 go_loop [4, 10] (fun n i => ∃ j x : Nat, j ≤ R.length ∧ i = .int .i64 (j : Int) ∧ n = .int .i64 (x : Int) ∧ x ≤ 262144 ∧ Hid (x = (catR (R.take j)).length)) (fun _ i => R.length - (intOf i).toNat)
 case atStart => exact ⟨0, 0, Nat.zero_le _, rfl, rfl, by omega, by show _ = _; simp [catR]⟩
 case round =>
  obtain ⟨j, x, hj, rfl, rfl, hx, HX⟩ := hrel
  by_cases hlt : j < R.length
  ·obtain ⟨g0, off0, rfl, hg0, hc0, hr0, hm0⟩ := HR.out.at_ (Kp.refl _ _) hlt
   have hst := HSTEP.out j hlt
   have hx2 := HL.out (j + 1)
   rw [hst, List.length_append, ← show x = _ from HX] at hx2
   obtain ⟨D, hD⟩ : ∃ D, D = R[j].data := ⟨_, rfl⟩
   obtain ⟨ra, hra⟩ : ∃ ra, ra = R[j].a := ⟨_, rfl⟩
   obtain ⟨rc, hrc⟩ : ∃ rc, rc = R[j].cap := ⟨_, rfl⟩
   rw [← hD] at hx2 hc0 hst
   rw [← hra, ← hrc] at hc0
   have HST := Lib.hid hst
   clear hD hra hrc hr0 hm0 hst
   go_wp2_with fail
   go_round
   case rel =>
    refine ⟨j + 1, x + D.length, by omega, by go_num, by go_num, hx2, ?_⟩
    show _ = _
    rw [HST.out, List.length_append, ← show x = _ from HX]
   case measure => simp [intOf]; omega
  ·obtain rfl : j = R.length := by omega
   have hxp : x = P.length := by rw [show x = _ from HX, List.take_length, HP.out]
   subst hxp
   have hd : decide ((262144 : Int) < (P.length : Int)) = false := by rw [decide_eq_false_iff_not]; omega
   have hd2 : decide (262144 < P.length) = false := by rw [decide_eq_false_iff_not]; omega
   have hmod : (P.length : Int) % 4294967296 = (P.length : Int) := Int.emod_eq_of_lt (by omega) (by omega)
   have HHL := Lib.hid hl
   obtain ⟨n, hnP⟩ : ∃ n, n = P.length := ⟨_, rfl⟩
   have HNP := Lib.hid hnP
   clear hlt hj hl HR HSTEP HL HX hx
   rw [← hnP] at hd hd2 hmod ⊢
   clear hnP
   go_wp2_with fail
   have hc := HH.out n (by rw [HNP.out]; have := HHL.out; omega) w
   with_reducible refine hc.mono ?_
   rintro e w1 ⟨a1, c1, rfl, r1, _, k1⟩
   have HR1 := Lib.hid r1
   have HK1 := Lib.hid k1
   clear r1 k1 hc hmod
   simp only [headL_length]
   go_wp2_with fail
   have hc := HJ.out w1 HK1.out
   with_reducible refine hc.mono ?_
   rintro e w2 ⟨a2, c2, rfl, r2, _, k2⟩
   obtain ⟨hrow, hk3⟩ := two_made w2 42 a1 a2 c1 c2 (headL n) P ((HR1.out.keep k2 fun _ _ x => x).mono k2.size (Nat.le_refl _)) r2 (by rw [headL_length]; omega) (by have := HHL.out; omega)
   rw [headL_length, ← show n = _ from HNP.out] at hrow hk3
   obtain ⟨W3, hW3⟩ : ∃ W, W = w2.alloc (.cells #[.slice a1 8 c1, .slice a2 n c2] 42) := ⟨_, rfl⟩
   have HW3 := Lib.hid hW3
   rw [← hW3] at hrow hk3
   have hb : headL n ++ P = bodyL P := by unfold bodyL; rw [HNP.out]
   have hbl : (bodyL P).length = n + 8 := by rw [← hb, List.length_append, headL_length, ← show n = _ from HNP.out]; omega
   have hj := Join_2 W3 w2.heap.size 2 _ _ hrow (Nat.le_refl _) (by show (headL n ++ P).length ≤ _; rw [hb, hbl, HNP.out]; have := HHL.out; omega)
   simp only [hb] at hj
   have HJ3 := Lib.hid hj
   have HK3 := Lib.hid (HK1.out.trans_same (k2.trans_same hk3))
   have HBL := Lib.hid hbl
   rw [← show n = _ from HNP.out]
   clear hj hrow hk3 hW3 k2 r2 hc hb hbl
   go_wp2_with fail
   rw [← HW3.out]
   have hc := HJ3.out
   with_reducible refine hc.mono ?_
   rintro e w4 ⟨a4, c4, rfl, r4, _, k4⟩
   have HR4 := Lib.hid r4
   have HK4 := Lib.hid (HK3.out.trans_same k4)
   clear k4 hc
   go_wp2_with fail
   obtain ⟨hrow, hk5⟩ := one_made w4 42 a4 c4 (bodyL P) r4 (by rw [HBL.out, HNP.out]; have := HHL.out; omega)
   obtain ⟨W5, hW5⟩ : ∃ W, W = w4.alloc (.cells #[.slice a4 (bodyL P).length c4] 42) := ⟨_, rfl⟩
   have HW5 := Lib.hid hW5
   rw [← hW5] at hrow hk5
   obtain ⟨S, hS⟩ : ∃ S, S = crc (bodyL P) := ⟨_, rfl⟩
   have hsum := Sum_1 W5 w4.heap.size 1 _ hrow
   simp only [← hS] at hsum
   have HSS := Lib.hid (And.intro hS (show S < 4294967296 by rw [hS]; exact crc_lt _))
   have HS := Lib.hid hsum
   have HK5 := Lib.hid hk5
   clear hsum hrow hk5 hW5 hS r4
   rw [← HW5.out]
   have hc := HS.out
   with_reducible refine hc.mono ?_
   rintro e w6 ⟨rfl, rfl⟩
   clear hc
   go_wp2_with fail
   have hc := HF.out S HSS.out.2 W5
   with_reducible refine hc.mono ?_
   rintro e w7 ⟨a7, c7, rfl, r7, _, k7⟩
   simp only [fourL_length]
   have kk : Kp No w4 w7 := HK5.out.trans_same k7
   obtain ⟨hrow, hk8⟩ := two_made w7 42 a4 a7 c4 c7 (bodyL P) (fourL S) ((HR4.out.keep kk fun _ _ x => x).mono kk.size (Nat.le_refl _)) r7 (by rw [HBL.out, HNP.out]; have := HHL.out; omega) (four_le S)
   rw [fourL_length] at hrow hk8
   obtain ⟨W8, hW8⟩ : ∃ W, W = w7.alloc (.cells #[.slice a4 (bodyL P).length c4, .slice a7 4 c7] 42) := ⟨_, rfl⟩
   have HW8 := Lib.hid hW8
   rw [← hW8] at hrow hk8
   have hh : bodyL P ++ fourL S = frameL P := by unfold frameL; rw [HSS.out.1]
   have hj := Join_2 W8 w7.heap.size 2 _ _ hrow (Nat.le_refl _) (by show (bodyL P ++ fourL S).length ≤ _; rw [List.length_append, fourL_length, HBL.out, HNP.out]; have := HHL.out; omega)
   simp only [hh] at hj
   have HJ8 := Lib.hid hj
   have HK8 := Lib.hid (HK4.out.trans_same (kk.trans_same hk8))
   clear hj hrow hk8 hW8 kk k7 r7 hc hh
   go_wp2_with fail
   rw [← HW8.out]
   have hc := HJ8.out
   with_reducible refine hc.mono ?_
   rintro e w9 ⟨a9, c9, rfl, r9, _, k9⟩
   have HFIN := Lib.hid (show FrP w P (.returned (.tuple #[.slice a9 (frameL P).length c9, .int .i64 0])) w9 from ⟨a9, c9, rfl, r9, HK8.out.trans_same k9⟩)
   clear r9 k9 hc
   go_wp2_with fail
   exact bodyPost_ret (v := .tuple #[.slice a9 (frameL P).length c9, .int .i64 0]) (by simp [results, Tryz.results186, go_sem]) rfl HFIN.out
theorem own_appS {S : Nat → Prop} (w W : World) (v : Value) (xs ys : List UInt8) (hO : Mer.Own W 5 1 v xs.length (u8s xs)) (hf : ∀ g, v.ownBlock = some g → w.heap.size ≤ g) (hk : Kp S w W) (a : Option Addr) (c : Nat) (hx : Rd W W.heap.size a (u8s ys)) (hl : xs.length + ys.length ≤ 140737488355328) :
  ∃ a' c' W', (Builtin.append_ #[42, 42] 42 #[v, .slice a ys.length c]).run Tryz.prog W = .ok (.slice a' (xs ++ ys).length c') W' ∧ Mer.Own W' 5 1 (.slice a' (xs ++ ys).length c') (xs ++ ys).length (u8s (xs ++ ys)) ∧
   (∀ g, (Value.slice a' (xs ++ ys).length c').ownBlock = some g → w.heap.size ≤ g) ∧ Kp S w W' ∧ Kp (fun k => v.ownBlock = some k) W W' := by
 obtain ⟨a', c', W', h1, h2, h3, h4⟩ := app_bytes W v xs ys hO a c hx hl
 refine ⟨a', c', W', h1, h2, fun g hg => ?_, hk.trans h3 fun i hi h => (by have := hf i h; omega), h3⟩
 rcases h4 with h4 | ⟨g', h4, h5⟩
 ·exact hf g (h4 ▸ hg)
 ·rw [h4] at hg
  injection hg with hg
  subst hg
  exact Nat.le_trans hk.size h5
end Go.Proofs.YtgnkmjeoaoongaaGreatDoor
namespace Go.Proofs.YtgnkmjeoaoongaaGreatDoor
open Go.RowKit Go.Mer
theorem or128 : ∀ x : Fin 256, x.val ||| 128 = x.val % 128 + 128 := by decide +kernel
theorem or_128 (u : Nat) : bits .or .u8 ((u : Int) % 256) 128 = ((u % 128 + 128 : Nat) : Int) := by
 have e : ((u : Int) % 256) = ((u % 256 : Nat) : Int) := (Int.natCast_emod u 256).symm
 rw [e, show (128 : Int) = ((128 : Nat) : Int) from rfl, bits_or (k := .u8) rfl (show u % 256 < 2 ^ 8 by omega) (by decide), or128 ⟨u % 256, by omega⟩]
 congr 1
 show u % 256 % 128 + 128 = _
 omega
theorem numL_cons {u : Nat} (h : 128 ≤ u) : numL u = UInt8.ofNat (u % 128 + 128) :: numL (u / 128) := numL_step (by omega)
theorem byte_128 (u : Nat) : (UInt8.ofNat (u % 128 + 128)).toNat = u % 128 + 128 := by rw [u8_of]; omega
theorem numL_len {n : Nat} (h : n ≤ 1000000000000) : (numL n).length ≤ 6 := numL_length 5 n (Nat.lt_of_le_of_lt h (by decide))
theorem own_byteS {S : Nat → Prop} (w W : World) (v : Value) (xs : List UInt8) (x : UInt8) (hO : Mer.Own W 5 1 v xs.length (u8s xs)) (hf : ∀ g, v.ownBlock = some g → w.heap.size ≤ g) (hk : Kp S w W) (hl : xs.length ≤ 140737488355000) :
  ∃ a' c' W', (Builtin.append_ #[42, 42] 42 #[v, .slice (some ⟨W.heap.size, 0, none⟩) 1 1]).run Tryz.prog (W.alloc (.cells #[.int .u8 (x.toNat : Int)] 5)) = .ok (.slice a' (xs.length + 1) c') W' ∧ Mer.Own W' 5 1 (.slice a' (xs.length + 1) c') (xs.length + 1) (u8s (xs ++ [x])) ∧
   (∀ g, (Value.slice a' (xs.length + 1) c').ownBlock = some g → w.heap.size ≤ g) ∧ Kp S w W' ∧ ∀ b o, W.heap[b]? = some o → b < w.heap.size → W'.heap[b]? = some o := by
 have hk1 : Kp No W (W.alloc (.cells #[.int .u8 (x.toNat : Int)] 5)) := (Kp.refl _ _).alloc _
 obtain ⟨a', c', W', h1, h2, h3, h4, h5⟩ := own_appS (S := S) w (W.alloc (.cells #[.int .u8 (x.toNat : Int)] 5)) v xs [x] (hO.keep hk1 fun _ _ x => x) hf (hk.alloc _) (some ⟨W.heap.size, 0, none⟩) 1 (Rd.const W 5 (0, 0) _ _ rfl) (by simp only [List.length_singleton]; omega)
 rw [List.length_append, List.length_singleton] at h1 h2 h3
 exact ⟨a', c', W', h1, h2, h3, h4, fun b o hb hlt => h5.get (alloc_far hb _) (fun h => by have := hf b h; omega)⟩
def NumW (w wr : World) (b n u : Nat) (a : Option Addr) (k c : Nat) : Prop :=
 ∃ xs : List UInt8, xs.length = k ∧ numL n = xs ++ numL u ∧ Mer.Own wr 5 1 (.slice a k c) k (u8s xs) ∧ (∀ g, (Value.slice a k c).ownBlock = some g → w.heap.size ≤ g) ∧ Kp (Mer.One b) w wr ∧ wr.heap[b]? = some (.cells #[.slice a k c] 121 (0, 0))
def WrP (w : World) (b : Nat) (l : List UInt8) (w' : World) : Prop :=
 ∃ a c, w'.heap[b]? = some (.cells #[.slice a l.length c] 121 (0, 0)) ∧ Mer.Own w' 5 1 (.slice a l.length c) l.length (u8s l) ∧ (∀ g, (Value.slice a l.length c).ownBlock = some g → w.heap.size ≤ g) ∧ Kp (Mer.One b) w w'
def NumJ (w wr : World) (b n : Nat) : Nat → Prop
 | 0 => w = wr
 | _ + 1 => WrP w b (numL n) wr
set_option maxRecDepth 100000 in
set_option maxHeartbeats 2000000 in
theorem Nums_1 (w : World) (b g c n : Nat) (hn : n ≤ 1000000000000) (hb : w.heap[b]? = some (.cells #[.slice none 0 0] 121 (0, 0))) (hg : w.cell? ⟨g, 0, none⟩ = some (.int .i64 (n : Int))) :
  Calls Tryz.prog 58 #[.pointer (some ⟨b, 0, none⟩), .slice (some ⟨g, 0, none⟩) 1 c] w fun e w' => e = .returned (.tuple #[]) ∧ WrP w b (numL n) w' := by
 have hbl := get_lt hb
 have HB := Lib.hid hb
 have HN := Lib.hid hn
 have d1 : decide ((n : Int) < 4611686018427387904) = true := by rw [decide_eq_true_iff]; omega
 have d3 : min (n : Int) 4611686018427387904 = (n : Int) := by omega
 have d4 : max 0 (n : Int) = (n : Int) := by omega
 have hmod : (n : Int) % 18446744073709551616 = (n : Int) := Int.emod_eq_of_lt (by omega) (by omega)
 clear hb hn
 go_enter Tryz.func58, Tryz.ntmps58
 go_wp2_with fail
 rename World => w0
 go_loopw [11] (fun i wr => ∃ j : Nat, j ≤ 1 ∧ i = .int .i64 (j : Int) ∧ Hid (NumJ w0 wr b n j)) (fun i _ => 1 - (intOf i).toNat)
 case atStart => exact ⟨0, by omega, rfl, Lib.hid rfl⟩
 case round =>
  obtain ⟨j, hj, rfl, HJ⟩ := hrel
  rcases (show j = 0 ∨ j = 1 by omega) with rfl | rfl
  ·have hj0 := HJ.out
   obtain rfl : w0 = wr := hj0
   clear HJ
   go_upto_block 2 with fail
   rw [show ((0 : Nat) : Int) = 0 from rfl]
   go_wp2_with fail
   go_loopw [6] (fun s6 wr => ∃ (u : Nat) (a : Option Addr) (k c : Nat), u ≤ 1000000000000 ∧ s6 = .int .u64 (u : Int) ∧ Hid (NumW w0 wr b n u a k c)) (fun s6 _ => (intOf s6).toNat)
   case atStart => exact ⟨n, none, 0, 0, HN.out, rfl, Lib.hid ⟨[], rfl, rfl, Mer.Own.nil _ _ _, fun g h => (by cases h), Kp.refl _ _, HB.out⟩⟩
   case round =>
    obtain ⟨u, a, k, c', hu, rfl, HR⟩ := hrel
    obtain ⟨xs, hk, hnum, hown, hfr, hkp, hbk⟩ := HR.out
    have hkl : k ≤ 6 := by
     have h1 := numL_len HN.out
     rw [hnum, List.length_append] at h1
     omega
    have c0 := cell_at hbk 0
    simp at c0
    clear HR d1 d3 d4 hmod hg
    by_cases hlt : 128 ≤ u
    ·have e1 : decide ((128 : Int) ≤ (u : Int)) = true := by rw [decide_eq_true_iff]; omega
     have e2 : decide (128 ≤ u) = true := decide_eq_true hlt
     obtain ⟨a', c2, w', hrun, ho, hf, hk', hkeep⟩ := own_byteS (S := Mer.One b) w0 wr (.slice a k c') xs (UInt8.ofNat (u % 128 + 128)) (by rw [hk]; exact hown) hfr hkp (by omega)
     rw [hk] at hrun ho hf
     have hb' := hkeep b _ hbk hbl
     have cw := cell_at hb' 0
     simp at cw
     have fw := free_at hb' 0
     have hoS : Mer.Own (w'.setCell ⟨b, 0, none⟩ (.slice a' (k + 1) c2)) 5 1 (.slice a' (k + 1) c2) (k + 1) (u8s (xs ++ [UInt8.ofNat (u % 128 + 128)])) :=
      ho.keep ((Kp.refl (Mer.One b) w').setCell (p := ⟨b, 0, none⟩) (.inl rfl) _) (fun q hq he => by have := hf q hq; rw [show q = b from he] at this; omega)
     have hkS : Kp (Mer.One b) w0 (w'.setCell ⟨b, 0, none⟩ (.slice a' (k + 1) c2)) := hk'.setCell (p := ⟨b, 0, none⟩) (.inl rfl) _
     have hbS : (w'.setCell ⟨b, 0, none⟩ (.slice a' (k + 1) c2)).heap[b]? = some (.cells #[.slice a' (k + 1) c2] 121 (0, 0)) := set_at hb' 0 _
     have b3 := or_128 u
     rw [← byte_128 u] at b3
     obtain ⟨z, hz, b4⟩ : ∃ z : Nat, z = u / 128 ∧ (u : Int) / 128 = (z : Int) := ⟨u / 128, rfl, (Int.natCast_ediv u 128).symm⟩
     have hnew : NumW w0 (w'.setCell ⟨b, 0, none⟩ (.slice a' (k + 1) c2)) b n z a' (k + 1) c2 := ⟨xs ++ [UInt8.ofNat (u % 128 + 128)], by rw [List.length_append, hk]; rfl, by rw [hnum, numL_cons hlt, hz, List.append_assoc]; rfl, hoS, hf, hkS, hbS⟩
     obtain ⟨x, hx⟩ : ∃ x : Nat, x = (UInt8.ofNat (u % 128 + 128)).toNat := ⟨_, rfl⟩
     rw [← hx] at hrun b3
     have HX := Lib.hid hrun
     have HNEW := Lib.hid hnew
     have hzu : z < u := by omega
     clear hz hnum hown hfr hkp hbk hrun ho hf hk' hkeep hb' hoS hkS hbS hnew hx hk
     go_wp2_with (at_builtin; refine wpList_append_run rfl rfl rfl rfl HX.out ?_)
     go_roundw
     case rel => exact ⟨z, a', k + 1, c2, by omega, rfl, HNEW⟩
     case measure => simp [intOf]; omega
    ·have e1 : decide ((128 : Int) ≤ (u : Int)) = false := by rw [decide_eq_false_iff_not]; omega
     have e2 : decide (128 ≤ u) = false := by rw [decide_eq_false_iff_not]; omega
     have hm : (u : Int) % 256 = (u : Int) := Int.emod_eq_of_lt (by omega) (by omega)
     obtain ⟨a', c2, w', hrun, ho, hf, hk', hkeep⟩ := own_byteS (S := Mer.One b) w0 wr (.slice a k c') xs (UInt8.ofNat u) (by rw [hk]; exact hown) hfr hkp (by omega)
     rw [hk] at hrun ho hf
     have hb' := hkeep b _ hbk hbl
     have cw := cell_at hb' 0
     simp at cw
     have fw := free_at hb' 0
     have hoS : Mer.Own (w'.setCell ⟨b, 0, none⟩ (.slice a' (k + 1) c2)) 5 1 (.slice a' (k + 1) c2) (k + 1) (u8s (xs ++ [UInt8.ofNat u])) :=
      ho.keep ((Kp.refl (Mer.One b) w').setCell (p := ⟨b, 0, none⟩) (.inl rfl) _) (fun q hq he => by have := hf q hq; rw [show q = b from he] at this; omega)
     have hkS : Kp (Mer.One b) w0 (w'.setCell ⟨b, 0, none⟩ (.slice a' (k + 1) c2)) := hk'.setCell (p := ⟨b, 0, none⟩) (.inl rfl) _
     have hbS : (w'.setCell ⟨b, 0, none⟩ (.slice a' (k + 1) c2)).heap[b]? = some (.cells #[.slice a' (k + 1) c2] 121 (0, 0)) := set_at hb' 0 _
     rw [show (UInt8.ofNat u).toNat = u by rw [u8_of]; omega] at hrun
     have hl : numL n = xs ++ [UInt8.ofNat u] := by rw [hnum, numL_small (by omega)]
     have hll : (numL n).length = k + 1 := by rw [hl, List.length_append, hk]; rfl
     have hfin : NumJ w0 (w'.setCell ⟨b, 0, none⟩ (.slice a' (k + 1) c2)) b n 1 := ⟨a', c2, by rw [hll]; exact hbS, by rw [hll, hl]; exact hoS, by rw [hll]; exact hf, hkS⟩
     have HX := Lib.hid hrun
     have HFIN := Lib.hid hfin
     clear hnum hown hfr hkp hbk hrun ho hf hk' hkeep hb' hoS hkS hbS hfin hk hl hll
     go_wp2_with (at_builtin; refine wpList_append_run rfl rfl rfl rfl HX.out ?_)
     go_roundw
     case rel => exact ⟨1, by omega, rfl, HFIN⟩
     case measure => simp [intOf]
  ·go_wp2_with fail
   exact bodyPost_end (results_none rfl _ _ _) rfl ⟨rfl, HJ.out⟩
end Go.Proofs.YtgnkmjeoaoongaaGreatDoor
namespace Go.Proofs.YtgnkmjeoaoongaaGreatDoor
open Go.RowKit Go.Mer
end Go.Proofs.YtgnkmjeoaoongaaGreatDoor

