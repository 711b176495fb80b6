/-
  The reference's disk: Write.
-/
import Derived.Test.YtdibkdgafidjgaaGreatDoorWa9
import Derived.Deep.CutRange
namespace Go.Mer
open Go Go.RowKit
theorem Rd.keep_at {S : Nat → Prop} {w w' : World} {B : Nat} {a : Option Addr} {xs : List Value} (h : Rd w B a xs) (hk : Kp S w w') (hS : 0 < xs.length → ∀ k o, a = some ⟨k, o, none⟩ → ¬ S k) : Rd w' w'.heap.size a xs := fun hx => by
 obtain ⟨g, off, rfl, hg, hB, hc⟩ := h hx
 have hgl : g < w.heap.size := by omega
 refine ⟨g, off, rfl, hk.lt hgl, Nat.le_refl _, fun j u hu => ?_⟩
 exact (hk.cell (p := ⟨g, off + j, none⟩) hgl (hS hx g off rfl)).trans (hc j u hu)
end Go.Mer
namespace Go.Proofs.YtdibkdgafidjgaaGreatDoor
open Go.RowKit Go.Mer
set_option maxRecDepth 100000 in
set_option maxHeartbeats 2000000 in
theorem rWrite_any (w : World) (r : Nat) (s : DSt) (G : Nat → Prop) (h : RAt w r s G) (name : ByteArray) (pa : Option Addr) (pc : Nat) (p : List UInt8) (hpd : Rd w w.heap.size pa (u8s p)) (hpm : p.length ≤ 1073741824) (hpG : 0 < (u8s p).length → ∀ k o, pa = some ⟨k, o, none⟩ → ¬ G k) :
  Calls Tryz.prog 31 #[.pointer (some ⟨r, 0, none⟩), .string name, .slice pa p.length pc] w (SaidR w r G (wrS s name p)) := by
 have HPD := Lib.hid (fun W (hW : Kp G w W) => hpd.keep_at hW hpG)
 clear hpd hpG
 obtain ⟨rv, L, hR, hp, hGl⟩ := RRun.start h
 obtain ⟨W1, hW1⟩ : ∃ W, W = w.alloc (.cells #[.string name] 9) := ⟨_, rfl⟩
 have k1 : Kp No w W1 := by rw [hW1]; exact (Kp.refl _ _).alloc _
 have hR1 := hR.no k1
 have hm := rmay_any W1 r s.room (leftOf s.fuse) rv L hR1.c (some ⟨w.heap.size, 0, none⟩) 1 [name] (by rw [hW1]; exact name_rd w name) (by simp)
 rw [show (if leftOf s.fuse = 0 then (9 : Int) else if ([name] : List ByteArray).all nameOk = true then 0 else 1) = mayQ s.fuse [name] from rfl] at hm
 have hq := mayQ_cases s.fuse [name]
 obtain ⟨q, hq0⟩ : ∃ q, q = mayQ s.fuse [name] := ⟨_, rfl⟩
 rw [← hq0] at hm hq
 have HM := Lib.hid hm
 have HQ := Lib.hid hq
 have HP := Lib.hid hp
 have HR1 := Lib.hid hR1
 have HW1 := Lib.hid hW1
 skip
 clear hm hq hp hR1 hW1 k1 hR hGl h hq0
 go_enter Tryz.func31, Tryz.ntmps31
 go_wp2_with fail
 rw [← HW1.out]
 refine HM.out.mono ?_
 rintro e w2 ⟨rfl, hk2⟩
 have HR2 := Lib.hid (HR1.out.no hk2)
 clear hk2 HM
 rcases HQ.out with ⟨h0, rfl⟩ | ⟨h0, hns, rfl⟩ | ⟨h0, hns, rfl⟩
 ·
  have H0 := Lib.hid h0
  clear h0
  go_wp2_with fail
  go_ret
  rw [wrS, five9 H0.out]
  exact HR2.out.stop HP.out
 ·
  have H0 := Lib.hid h0
  have HNS := Lib.hid hns
  clear h0 hns
  go_wp2_with fail
  go_ret
  rw [wrS, five1 H0.out HNS.out]
  exact HR2.out.stop HP.out
 have H0 := Lib.hid h0
 have HNS := Lib.hid hns
 clear h0 hns HQ HR1 HW1
 have hs := rspot_any w2 r s.room (leftOf s.fuse) rv L HR2.out.c name
 have HSP := Lib.hid hs
 clear hs
 go_wp2_with fail
 refine HSP.out.mono ?_
 rintro e w3 ⟨i, b, rfl, hsp, hk3⟩
 have HR3 := Lib.hid (HR2.out.no hk3)
 clear hk3 HSP HR2
 have HU := Lib.hid (fun n => rUsed_any (w3.drewN n) r s.room (leftOf s.fuse) rv L (HR3.out.c.keep_no ((Kp.refl _ _).drewN n)))
 have htot : totF s.files = totF (absR L) := (totF_perm HP.out).symm
 have hlen : s.files.length = L.length := by rw [← HP.out.length_eq]; simp [absR]
 obtain ⟨T, hT⟩ : ∃ T, T = totF (absR L) := ⟨_, rfl⟩
 rw [← hT] at HU htot
 have hTb : T ≤ 1073741824 := by rw [hT]; exact Nat.le_trans HR3.out.c.fits HR3.out.c.roomy
 have hrb := HR3.out.c.roomy
 have hfew := HR3.out.c.few
 have HTO := Lib.hid htot
 have HLE := Lib.hid hlen
 have HT := Lib.hid hT
 obtain ⟨room, hroom⟩ : ∃ x : Int, x = (s.room : Int) := ⟨_, rfl⟩
 by_cases hfull : s.room < T + p.length
 ·have f1 : decide ((s.room : Int) < (T : Int) + (p.length : Int)) = true := by simp; omega
  have HE := Lib.hid (show wrCode s name p = 6 by unfold wrCode; rw [if_pos (.inl (by rw [HTO.out]; exact hfull))])
  obtain ⟨ra, rcap, hrv, hrc, hrd⟩ := HR3.out.c.row.rd
  have c1 : ∀ W, Kp No w3 W → W.cell? ⟨r, 1, none⟩ = some (.slice ra L.length rcap) := fun W hW => by rw [cell_at (HR3.out.c.keep_no hW).cell, hrv]; rfl
  have c0 : ∀ W, Kp No w3 W → W.cell? ⟨r, 0, none⟩ = some (.int .i64 (s.room : Int)) := fun W hW => by rw [cell_at (HR3.out.c.keep_no hW).cell]; rfl
  have rl : r < w3.heap.size := get_lt HR3.out.c.cell
  have HC1 := Lib.hid c1
  clear htot hlen hT hfull hsp hrd
  go_wp2_with fail
  refine wp_region_held' (Kp No w3) [0,2,0,0,0,0,0,0,0,0,0,0,0,0,0,0,0,0,0,0,0,0] [0,2,3,5,6,7,8,1,4,9,10,11,12,13,14,15,16,17,18,19,20,21] (by kernel_rfl) (by kernel_rfl) (fun _ n h => h.drewN n) (Kp.refl _ _) ?_
  repeat (first
   | (apply wpOrd_skip rfl (by decide) rfl; (focus (go_simp; rfl)))
   | (apply wpOrd_pure rfl rfl rfl; (focus (intro _ _; go_simp; (try go_ints); rfl)); (focus (go_simp; rfl)))
   | (apply wpOrd_read rfl rfl rfl; (focus (intro _; go_simp; (try go_ints); rfl)); (focus (go_simp; rfl))))
  refine wpOrd_eff rfl rfl (fun n1 => ?_)
  go_wp2_with fail
  refine (HU.out n1).mono ?_
  rintro e w4 ⟨rfl, hk4⟩
  have K4 : Kp No w3 w4 := hk4.of_drewN
  clear hk4
  go_wp2_with fail
  repeat (first
   | (apply wpOrd_skip rfl (by decide) rfl; (focus (go_simp; rfl)))
   | (apply wpOrd_pure rfl rfl rfl; (focus (intro _ _; go_simp; (try go_ints); rfl)); (focus (go_simp; rfl)))
   | (apply wpOrd_read rfl rfl rfl; (focus (intro _; go_simp; (try go_ints); rfl)); (focus (go_simp; rfl))))
  refine wpOrd_nil (fun nq => ?_)
  obtain ⟨V, hV⟩ : ∃ W, W = w4.drewN nq := ⟨_, rfl⟩
  have HKV := Lib.hid (show Kp No w3 V by rw [hV]; exact K4.drewN nq)
  rw [← hV]
  clear hV K4 HU c0 c1
  go_wp2_with fail
  go_ret
  rw [wrS, fiveE H0.out HNS.out (by rw [HE.out]; decide), HE.out]
  exact (HR3.out.no HKV.out).stop HP.out
 ·have f1 : decide ((s.room : Int) < (T : Int) + (p.length : Int)) = false := by simp; omega
  have HNF := Lib.hid (show T + p.length ≤ s.room by omega)
  clear hfull
  cases hsp with
  | no L1 L2 hL h1 h2 =>
   have HL1 := Lib.hid h1
   have HL2 := Lib.hid h2
   have hga : gget s.files name = none := by
    rw [← gget_perm HP.out HR3.out.c.sorted.keys, hL]
    exact get_no h1 h2
   have HGA := Lib.hid hga
   by_cases hmany : 4096 ≤ L.length
   ·have HE := Lib.hid (show wrCode s name p = 6 by unfold wrCode; rw [if_pos (.inr ⟨HGA.out, by rw [HLE.out]; exact hmany⟩)])
    have f2 : decide ((4096 : Int) ≤ (L.length : Int)) = true := by simp; omega
    have f3 : decide ((L.length : Int) ≥ (4096 : Int)) = true := by simp; omega
    obtain ⟨ra, rcap, hrv, hrc, hrd⟩ := HR3.out.c.row.rd
    have c1 : ∀ W, Kp No w3 W → W.cell? ⟨r, 1, none⟩ = some (.slice ra L.length rcap) := fun W hW => by rw [cell_at (HR3.out.c.keep_no hW).cell, hrv]; rfl
    have c0 : ∀ W, Kp No w3 W → W.cell? ⟨r, 0, none⟩ = some (.int .i64 (s.room : Int)) := fun W hW => by rw [cell_at (HR3.out.c.keep_no hW).cell]; rfl
    have rl : r < w3.heap.size := get_lt HR3.out.c.cell
    have HC1 := Lib.hid c1
    clear htot hlen hT hga hL h1 h2 hrd
    go_wp2_with fail
    refine wp_region_held' (Kp No w3) [0,2,0,0,0,0,0,0,0,0,0,0,0,0,0,0,0,0,0,0,0,0] [0,2,3,5,6,7,8,1,4,9,10,11,12,13,14,15,16,17,18,19,20,21] (by kernel_rfl) (by kernel_rfl) (fun _ n h => h.drewN n) (Kp.refl _ _) ?_
    repeat (first
     | (apply wpOrd_skip rfl (by decide) rfl; (focus (go_simp; rfl)))
     | (apply wpOrd_pure rfl rfl rfl; (focus (intro _ _; go_simp; (try go_ints); rfl)); (focus (go_simp; rfl)))
     | (apply wpOrd_read rfl rfl rfl; (focus (intro _; go_simp; (try go_ints); rfl)); (focus (go_simp; rfl))))
    refine wpOrd_eff rfl rfl (fun n1 => ?_)
    go_wp2_with fail
    refine (HU.out n1).mono ?_
    rintro e w4 ⟨rfl, hk4⟩
    have K4 : Kp No w3 w4 := hk4.of_drewN
    clear hk4
    go_wp2_with fail
    repeat (first
     | (apply wpOrd_skip rfl (by decide) rfl; (focus (go_simp; rfl)))
     | (apply wpOrd_pure rfl rfl rfl; (focus (intro _ _; go_simp; (try go_ints); rfl)); (focus (go_simp; rfl)))
     | (apply wpOrd_read rfl rfl rfl; (focus (intro _; go_simp; (try go_ints); rfl)); (focus (go_simp; rfl))))
    refine wpOrd_nil (fun nq => ?_)
    obtain ⟨V, hV⟩ : ∃ W, W = w4.drewN nq := ⟨_, rfl⟩
    have HKV := Lib.hid (show Kp No w3 V by rw [hV]; exact K4.drewN nq)
    rw [← hV]
    clear hV K4 HU c0 c1
    go_wp2_with fail
    go_ret
    rw [wrS, fiveE H0.out HNS.out (by rw [HE.out]; decide), HE.out]
    exact (HR3.out.no HKV.out).stop HP.out
   ·have HE := Lib.hid (show wrCode s name p = 0 by
     unfold wrCode
     rw [if_neg]
     rintro (h | ⟨_, h⟩)
     ·rw [HTO.out] at h; have := HNF.out; omega
     ·rw [HLE.out] at h; omega)
    have f2 : decide ((4096 : Int) ≤ (L.length : Int)) = false := by simp; omega
    have f3 : decide ((L.length : Int) ≥ (4096 : Int)) = false := by simp; omega
    have HL := Lib.hid hL
    have HFEW := Lib.hid (show L.length + 1 ≤ 4096 by omega)
    have hs0 : SortedR (L1 ++ L2) := by rw [← hL]; exact HR3.out.c.sorted
    have HSO := Lib.hid (sorted_put (f := ⟨name, none, 0, [], 0⟩) hs0 h1 h2)
    have HPn : Hid (∀ a c, (absR (L1 ++ ⟨name, a, c, [] ++ p, 0⟩ :: L2)).Perm (wrFiles s.files name p)) := Lib.hid (fun a c => by
     unfold wrFiles
     rw [hga]
     exact perm_put (f := ⟨name, a, c, [] ++ p, 0⟩) (sorted_put hs0 h1 h2) (by rw [← hL]; exact HP.out))
    have HFIT : Hid (∀ a c, totF (absR (L1 ++ ⟨name, a, c, [] ++ p, 0⟩ :: L2)) ≤ s.room) := Lib.hid fun a c => by
     have h1 := HNF.out
     rw [HT.out, hL] at h1
     rw [totF_mid]
     exact h1
    have HFIT0 : Hid (totF (absR (L1 ++ ⟨name, none, 0, [], 0⟩ :: L2)) ≤ s.room) := Lib.hid (by
     have h1 := HNF.out
     rw [HT.out, hL] at h1
     rw [totF_mid]
     simp only [List.length_nil]
     omega)
    obtain ⟨ra, rcap, hrv, hrc, hrd⟩ := HR3.out.c.row.rd
    have c1 : ∀ W, Kp No w3 W → W.cell? ⟨r, 1, none⟩ = some (.slice ra L.length rcap) := fun W hW => by rw [cell_at (HR3.out.c.keep_no hW).cell, hrv]; rfl
    have c0 : ∀ W, Kp No w3 W → W.cell? ⟨r, 0, none⟩ = some (.int .i64 (s.room : Int)) := fun W hW => by rw [cell_at (HR3.out.c.keep_no hW).cell]; rfl
    have rl : r < w3.heap.size := get_lt HR3.out.c.cell
    have HC1 := Lib.hid c1
    have hile : L1.length ≤ L.length := by rw [hL]; simp
    have hic : L1.length ≤ rcap := by omega
    have HRD := Lib.hid hrd
    clear htot hlen hT hga hL h1 h2 hrd hmany hs0
    go_wp2_with fail
    refine wp_region_held' (Kp No w3) [0,2,0,0,0,0,0,0,0,0,0,0,0,0,0,0,0,0,0,0,0,0] [0,2,3,5,6,7,8,1,4,9,10,11,12,13,14,15,16,17,18,19,20,21] (by kernel_rfl) (by kernel_rfl) (fun _ n h => h.drewN n) (Kp.refl _ _) ?_
    repeat (first
     | (apply wpOrd_skip rfl (by decide) rfl; (focus (go_simp; rfl)))
     | (apply wpOrd_pure rfl rfl rfl; (focus (intro _ _; go_simp; (try go_ints); rfl)); (focus (go_simp; rfl)))
     | (apply wpOrd_read rfl rfl rfl; (focus (intro _; go_simp; (try go_ints); rfl)); (focus (go_simp; rfl))))
    refine wpOrd_eff rfl rfl (fun n1 => ?_)
    go_wp2_with fail
    refine (HU.out n1).mono ?_
    rintro e w4 ⟨rfl, hk4⟩
    have K4 : Kp No w3 w4 := hk4.of_drewN
    clear hk4
    go_wp2_with fail
    repeat (first
     | (apply wpOrd_skip rfl (by decide) rfl; (focus (go_simp; rfl)))
     | (apply wpOrd_pure rfl rfl rfl; (focus (intro _ _; go_simp; (try go_ints); rfl)); (focus (go_simp; rfl)))
     | (apply wpOrd_read rfl rfl rfl; (focus (intro _; go_simp; (try go_ints); rfl)); (focus (go_simp; rfl))))
    refine wpOrd_nil (fun nq => ?_)
    obtain ⟨V, hV⟩ : ∃ W, W = w4.drewN nq := ⟨_, rfl⟩
    have HKV := Lib.hid (show Kp No w3 V by rw [hV]; exact K4.drewN nq)
    rw [← hV]
    clear hV K4 HU c0 c1
    have HRV0 := Lib.hid (HR3.out.no HKV.out)
    go_upto_region 8 with fail
    obtain ⟨i, hi⟩ : ∃ i, i = L1.length := ⟨_, rfl⟩
    obtain ⟨n, hn⟩ : ∃ n, n = L.length := ⟨_, rfl⟩
    have hLn : L.length = L1.length + L2.length := by rw [HL.out]; simp
    have htk : (L.flatMap RFile.cells).take (i * 3) = L1.flatMap RFile.cells := by
     rw [chunk_take RFile.cells 3 RFile.cells_len, HL.out, hi]
     simp
    have hdr : (L.flatMap RFile.cells).drop (i * 3) = L2.flatMap RFile.cells := by
     rw [chunk_drop RFile.cells 3 RFile.cells_len, HL.out, hi]
     simp
    obtain ⟨W5, hW5⟩ : ∃ W, W = V.alloc (.cells #[] 108) := ⟨_, rfl⟩
    have k5 : Kp No V W5 := by rw [hW5]; exact (Kp.refl _ _).alloc _
    have kw5 : Kp No w3 W5 := HKV.out.trans_same k5
    have rr5 : RowRel 108 3 RFile.cells V W5 (.slice (some ⟨V.heap.size, 0, none⟩) 0 0) 0 [] := by rw [hW5]; exact RowRel.made (Kp.refl _ _)
    have hrd5 := ((HRD.out.kp kw5).take (i * 3))
    rw [htk] at hrd5
    obtain ⟨a6, c6, W6, hrun, hm, _⟩ := rr5.app Tryz.underlying81 infoRFile RFile.cells_one L1 (rows_src RFile.cells_len (c := rcap) hrd5) rfl (by unfold maxLen; omega) (by omega)
    simp only [Nat.zero_add, List.nil_append] at hrun hm
    rw [← hi] at hrun hm
    have kv6 := hm.2.2.2
    have eV := HC1.out V HKV.out
    have rlV : r < V.heap.size := Nat.lt_of_lt_of_le rl HKV.out.size
    obtain ⟨W7, hW7⟩ : ∃ W, W = W6.alloc (.cells #[.string name, .slice none 0 0, .int .i64 0] 108) := ⟨_, rfl⟩
    have k67 : Kp No W6 W7 := by rw [hW7]; exact (Kp.refl _ _).alloc _
    have b7 : W7.heap[W6.heap.size]? = some (.cells #[.string name, .slice none 0 0, .int .i64 0] 108 (0, 0)) := by rw [hW7]; exact heap_alloc_new W6 _
    obtain ⟨a8, c8, W8, hrun8, hm8, _⟩ := (hm.keep k67).app Tryz.underlying81 infoRFile RFile.cells_one [(⟨name, none, 0, [], 0⟩ : RFile)] (one_src RFile.cells_len b7 rfl) rfl (by unfold maxLen; omega) (by omega)
    have kv8 := hm8.2.2.2
    skip
    have kw8 : Kp No w3 W8 := HKV.out.trans_same kv8
    have e8 := HC1.out W8 kw8
    have rl8 : r < W8.heap.size := Nat.lt_of_lt_of_le rl kw8.size
    rw [hW5] at hrun
    rw [hW7] at hrun8
    have HX6 := Lib.hid hrun
    have HX8 := Lib.hid hrun8
    have HM8 := Lib.hid hm8
    have HDR := Lib.hid hdr
    have hin : i ≤ n := by omega
    have hnc : n ≤ rcap := by omega
    have hn2 : n ≤ 4096 := by have := HFEW.out; omega
    rw [← hn] at eV e8
    rw [← hi]
    have HI := Lib.hid hi
    have HNN := Lib.hid hn
    have hL2 : L2.length = n - i := by omega
    have HL2n := Lib.hid hL2
    have hrd8 := HRD.out.kp kw8
    have HRD8 := Lib.hid hrd8
    have HKW8 := Lib.hid kw8
    have HFL := Lib.hid (show ∀ W9, Kp No V W9 → ∀ f ∈ (L1 ++ [(⟨name, none, 0, [], 0⟩ : RFile)]) ++ L2, f ∈ L ∨ (RFileOk W9 f ∧ ∀ g, f.val.ownBlock = some g → G g ∨ w.heap.size ≤ g) from fun W9 hW9 f hf => by
     rw [HL.out]
     rcases List.mem_append.1 hf with hf | hf
     ·rcases List.mem_append.1 hf with hf | hf
      ·exact .inl (List.mem_append_left _ hf)
      ·obtain rfl := List.mem_singleton.1 hf
       exact .inr ⟨⟨Own.nil _ _ _, Nat.le_refl _⟩, fun g hg => by simp [RFile.val, Value.ownBlock] at hg⟩
     ·exact .inl (List.mem_append_right _ hf))
    have HQ := Lib.hid (show (L1 ++ [(⟨name, none, 0, [], 0⟩ : RFile)]) ++ L2 = L1 ++ ⟨name, none, 0, [], 0⟩ :: L2 by rw [List.append_assoc]; rfl)
    have HFW := Lib.hid (show ((L1 ++ [(⟨name, none, 0, [], 0⟩ : RFile)]) ++ L2).length ≤ 4096 by have := HFEW.out; rw [HQ.out, List.length_append, List.length_cons]; omega)
    clear hrun hrun8 hm hm8 hW5 hW7 k5 kw5 rr5 hrd5 kv6 k67 b7 kv8 kw8 hLn htk hdr hL2 hi hn
    go_upto_region 9 with (at_builtin; refine wpList_append_run rfl rfl rfl rfl HX6.out ?_)
    go_upto_region 10 with (at_builtin; refine wpList_append_run rfl rfl rfl rfl HX8.out ?_)
    clear HX6 HX8 eV
    go_cut [] from 61 to 71 (fun wx => Hid (∃ rv', RRun w wx r s.room (leftOf s.fuse) rv' (L1 ++ ⟨name, none, 0, [], 0⟩ :: L2) G))
    case first =>
     rcases Nat.lt_or_ge i n with hlt | hge
     ·have hic2 : i < rcap := by omega
      obtain ⟨g, off, rfl, _, _, _⟩ := hrd8 (by rw [chunk_len RFile.cells 3 RFile.cells_len, ← HNN.out]; omega)
      have hd := hrd8.drop (i * 3)
      rw [HDR.out] at hd
      have hsrc := rows_src RFile.cells_len (c := rcap - i) hd
      rw [HL2n.out] at hsrc
      obtain ⟨a9, c9, w9, hrun, hm, _⟩ := HM8.out.app Tryz.underlying81 infoRFile RFile.cells_one L2 hsrc HL2n.out.symm (by unfold maxLen; omega) (by omega)
      rw [show i + 1 + (n - i) = n + 1 from by omega] at hrun hm
      simp only [Option.map_some, add_lit'] at hrun
      obtain ⟨hR9, ec, fc, rc⟩ := HRV0.out.laid hm (HFL.out w9 hm.2.2.2) (by rw [HQ.out]; exact HSO.out) (by rw [HQ.out]; exact HFIT0.out) HFW.out
      rw [HQ.out] at hR9
      have HX9 := Lib.hid hrun
      have HR9 := Lib.hid hR9
      rw [hrv, ← HNN.out] at ec
      clear hd hsrc hrun hm hrd8 hR9
      go_wp2_with (at_builtin; refine wpList_append_run rfl rfl rfl rfl HX9.out ?_)
      go_meet
      case rel => exact Lib.hid ⟨_, HR9.out⟩
     ·obtain rfl : i = n := by omega
      have hl2 : L2 = [] := List.eq_nil_of_length_eq_zero (by have := HL2n.out; omega)
      have hm0 := fun (v : Option Addr) (c : Nat) => HM8.out.app Tryz.underlying81 infoRFile RFile.cells_one L2 (x := .slice v 0 c) (m := 0) (by rw [hl2]; exact nil_src v c) (by rw [hl2]; rfl) (by unfold maxLen; omega) (by omega)
      have HM0 := Lib.hid hm0
      have HL2e := Lib.hid hl2
      clear hm0 hl2 hrd8
      cases ra with
      | none =>
       obtain ⟨a9, c9, w9, hrun, hm, _⟩ := HM0.out none (rcap - i)
       rw [Nat.add_zero] at hrun hm
       obtain ⟨hR9, ec, fc, rc⟩ := HRV0.out.laid hm (HFL.out w9 hm.2.2.2) (by rw [HQ.out]; exact HSO.out) (by rw [HQ.out]; exact HFIT0.out) HFW.out
       rw [HQ.out] at hR9
       have HX9 := Lib.hid hrun
       have HR9 := Lib.hid hR9
       rw [hrv, ← HNN.out] at ec
       clear hrun hm hR9
       go_wp2_with (at_builtin; refine wpList_append_run rfl rfl rfl rfl HX9.out ?_)
       go_meet
       case rel => exact Lib.hid ⟨_, HR9.out⟩
      | some a0 =>
       by_cases hcc : i = rcap
       ·subst hcc
        obtain ⟨a9, c9, w9, hrun, hm, _⟩ := HM0.out (some a0) 0
        clear hnc hin hic
        rw [Nat.add_zero] at hrun hm
        obtain ⟨hR9, ec, fc, rc⟩ := HRV0.out.laid hm (HFL.out w9 hm.2.2.2) (by rw [HQ.out]; exact HSO.out) (by rw [HQ.out]; exact HFIT0.out) HFW.out
        rw [HQ.out] at hR9
        have HX9 := Lib.hid hrun
        have HR9 := Lib.hid hR9
        rw [hrv, ← HNN.out] at ec
        clear hrun hm hR9
        go_wp2_with (at_builtin; refine wpList_append_run rfl rfl rfl rfl HX9.out ?_)
        go_meet
        case rel => exact Lib.hid ⟨_, HR9.out⟩
       ·have hcc2 : i < rcap := by omega
        obtain ⟨a9, c9, w9, hrun, hm, _⟩ := HM0.out (some (a0.add (i * 3))) (rcap - i)
        rw [Nat.add_zero] at hrun hm
        obtain ⟨hR9, ec, fc, rc⟩ := HRV0.out.laid hm (HFL.out w9 hm.2.2.2) (by rw [HQ.out]; exact HSO.out) (by rw [HQ.out]; exact HFIT0.out) HFW.out
        rw [HQ.out] at hR9
        have HX9 := Lib.hid hrun
        have HR9 := Lib.hid hR9
        rw [hrv, ← HNN.out] at ec
        clear hrun hm hR9
        go_wp2_with (at_builtin; refine wpList_append_run rfl rfl rfl rfl HX9.out ?_)
        go_meet
        case rel => exact Lib.hid ⟨_, HR9.out⟩
    case rest =>
    obtain ⟨rv9, hR9⟩ := hcut.out
    clear hcut hrv hile hic rlV rl8 e8 hin hnc hn2 HRV0 HKV rl HC1 HRD
    rename World => V
    obtain ⟨f, hf⟩ : ∃ f : RFile, f = ⟨name, none, 0, [], 0⟩ := ⟨_, rfl⟩
    have HRV : Hid (RRun w V r s.room (leftOf s.fuse) rv9 (L1 ++ f :: L2) G) := Lib.hid (by rw [hf]; exact hR9)
    have HPN := Lib.hid (show ∀ a c, (absR (L1 ++ ⟨f.name, a, c, f.data ++ p, f.lasts⟩ :: L2)).Perm (wrFiles s.files name p) by rw [hf]; exact HPn.out)
    have HFI := Lib.hid (show ∀ a c, totF (absR (L1 ++ ⟨f.name, a, c, f.data ++ p, f.lasts⟩ :: L2)) ≤ s.room by rw [hf]; exact HFIT.out)
    clear HPn HFIT
    rename Hid (∀ a c, (absR (L1 ++ ⟨f.name, a, c, f.data ++ p, f.lasts⟩ :: L2)).Perm (wrFiles s.files name p)) => HPn
    rename Hid (∀ a c, totF (absR (L1 ++ ⟨f.name, a, c, f.data ++ p, f.lasts⟩ :: L2)) ≤ s.room) => HFIT
    have HRDP := Lib.hid (fun W (hW : Kp No V W) n => HPD.out (W.drewN n) ((HRV.out.kp.trans_no hW).drewN n))
    clear hf hR9
    rw [HI.out]
    clear HI HNN
    obtain ⟨g, off, rcap, n, hn, hlt, hcap, hgr, rfl, hcells⟩ := HRV.out.c.at_
    have HF := Lib.hid (HRV.out.c.files f (by simp))
    have HN := Lib.hid hn
    have q1 : ∀ W, Kp No V W → W.cell? ⟨r, 1, none⟩ = some (.slice (some ⟨g, off, none⟩) n rcap) := fun W hW => (hcells W hW).c1
    have q2 : ∀ W, Kp No V W → W.cell? ⟨g, off + L1.length * 3 + 1, none⟩ = some (.slice f.a f.data.length f.cap) := fun W hW => (hcells W hW).d1
    obtain ⟨i, hi⟩ : ∃ i, i = L1.length := ⟨_, rfl⟩
    rw [← hi] at hlt q2 ⊢
    have HI := Lib.hid hi
    have HCE := Lib.hid hcells
    have rl := (hcells V (Kp.refl _ _)).rl
    have gl := (hcells V (Kp.refl _ _)).gl
    obtain ⟨m, hm⟩ : ∃ m, m = f.data.length := ⟨_, rfl⟩
    rw [← hm] at q2
    have HMm := Lib.hid hm
    have hmm : m ≤ 1073741824 := by
     have h1 := HRV.out.c.fits
     have h2 := HRV.out.c.roomy
     rw [totF_mid] at h1
     omega
    clear hn hi hcells hm
    go_upto_region 11 with fail
    refine wp_region_last (Kp No V) [0,0,0,0,0,2,0,0,0,0,0,0,0,0,2,0,2,0,0,2] [0,1,2,3,4,6,7,8,9,10,11,12,13,15,5,14,16,17,18] 19 (by kernel_rfl) (by kernel_rfl) (fun _ n h => h.drewN n) (Kp.refl _ _) ?_
    repeat (first
     | (apply wpOrd_skip rfl (by decide) rfl; (focus (go_simp; rfl)))
     | (apply wpOrd_pure rfl rfl rfl; (focus (intro _ _; go_simp; (try go_ints); rfl)); (focus (go_simp; rfl)))
     | (apply wpOrd_read rfl rfl rfl; (focus (intro _; go_simp; (try go_ints); rfl)); (focus (go_simp; rfl))))
    refine wpOrd_eff rfl rfl (fun n1 => ?_)
    go_wp2_with fail
    obtain ⟨W6, hW6⟩ : ∃ W, W = (V.drewN n1).alloc (.cells #[] 5) := ⟨_, rfl⟩
    have k6 : Kp No V W6 := by rw [hW6]; exact ((Kp.refl _ _).drewN _).alloc _
    have ho6 : Own W6 5 1 (.slice (some ⟨V.heap.size, 0, none⟩) 0 0) 0 [] := by rw [hW6]; exact Own.made (V.drewN n1) 5 1 #[] 0 0 (Nat.le_refl _) (by simp [maxLen]) (by simp) rfl
    rw [← hW6]
    have HO6 := Lib.hid ho6
    clear hW6 ho6
    refine ⟨k6, ?_⟩
    refine wpOrd_eff rfl rfl (fun n2 => ?_)
    obtain ⟨a7, c7, W7, hrun, ho7, hk7, hb7⟩ := cpy_bytes' (W6.drewN n2) V.heap.size (HO6.out.drewN n2) f.data f.a f.cap ((HF.out.1.rd').kp (k6.drewN n2)) (by have := HMm.out; omega)
    rw [← HMm.out] at hrun
    have k7 : Kp No V W7 := (k6.drewN n2).trans hk7 (fun k hk (e : k = V.heap.size) => by omega)
    have HX7 := Lib.hid hrun
    have HO7 := Lib.hid ho7
    have HB7 := Lib.hid hb7
    have hs6 : V.heap.size ≤ (W6.drewN n2).heap.size := k6.size
    have hs7 : (W6.drewN n2).heap.size ≤ W7.heap.size := hk7.size
    clear hrun ho7 hk7 hb7
    refine wpList_append_run rfl rfl rfl rfl HX7.out (wpList_nil ⟨rfl, k7, ?_⟩)
    clear HX7
    refine wpOrd_eff rfl rfl (fun n3 => ?_)
    obtain ⟨a8, c8, W8, hrun, ho8, hk8, hb8⟩ := app_bytes (W7.drewN n3) (.slice a7 f.data.length c7) f.data p (HO7.out.drewN n3) pa pc (HRDP.out W7 k7 n3) (by have := HMm.out; omega)
    have k8 : Kp No V W8 := (k7.drewN n3).trans hk8 (fun k hk hs => by
     rcases HB7.out k hs with h1 | h1
     ·omega
     ·omega)
    obtain ⟨m2, hm2⟩ : ∃ m2, m2 = (f.data ++ p).length := ⟨_, rfl⟩
    rw [← hm2, ← HMm.out] at hrun
    have HX8 := Lib.hid hrun
    have HO8 := Lib.hid ho8
    have HB8 := Lib.hid (show ∀ k, (Value.slice a8 (f.data ++ p).length c8).ownBlock = some k → V.heap.size ≤ k from fun k hk => by
     rcases hb8 with h1 | ⟨g', h1, h2⟩
     ·rw [h1] at hk
      rcases HB7.out k hk with h3 | h3
      ·omega
      ·omega
     ·rw [h1] at hk
      injection hk with hk
      have h3 : (W7.drewN n3).heap.size = W7.heap.size := rfl
      omega)
    have HM2 := Lib.hid hm2
    clear hrun ho8 hk8 hb8 hm2
    refine wpList_append_run rfl rfl rfl rfl HX8.out (wpList_nil ⟨rfl, k8, ?_⟩)
    clear HX8 q1 q2
    repeat (first
     | (apply wpOrd_skip rfl (by decide) rfl; (focus (go_simp; rfl)))
     | (apply wpOrd_pure rfl rfl rfl; (focus (intro _ _; go_simp; (try go_ints); rfl)); (focus (go_simp; rfl)))
     | (apply wpOrd_read rfl rfl rfl; (focus (intro _; go_simp; (try go_ints); rfl)); (focus (go_simp; rfl))))
    refine last_now (fun n4 => ?_)
    refine wpOrd_eff rfl rfl (fun n5 => ?_)
    obtain ⟨W9, hW9⟩ : ∃ W, W = (W8.drewN n4).drewN n5 := ⟨_, rfl⟩
    have k9 : Kp No V W9 := by rw [hW9]; exact (k8.drewN n4).drewN n5
    have ho9 : Own W9 5 1 (.slice a8 (f.data ++ p).length c8) (f.data ++ p).length (u8s (f.data ++ p)) := by rw [hW9]; exact HO8.out
    rw [← hW9]
    have d1 : W9.cell? ⟨g, off + i * 3 + 1, none⟩ = some (.slice f.a m f.cap) := by rw [HI.out, HMm.out]; exact (HCE.out W9 k9).d1
    have fg := (HCE.out W9 k9).fg (off + i * 3 + 1)
    have hRn := HRV.out.setAt HN.out k9 1 (.slice a8 m2 c8) (by omega) ⟨f.name, a8, c8, f.data ++ p, f.lasts⟩ (by rw [HM2.out]; rfl) rfl ⟨ho9, by have := HF.out.2; show f.lasts ≤ (f.data ++ p).length; rw [List.length_append]; omega⟩ (fun k hk => .inr (HB8.out k hk)) (HFIT.out _ _)
    rw [← HI.out] at hRn
    clear hW9 ho9
    go_wp2_with fail
    intro nq
    obtain ⟨V9, hV9⟩ : ∃ W, W = (W9.setCell ⟨g, off + i * 3 + 1, none⟩ (.slice a8 m2 c8)).drewN nq := ⟨_, rfl⟩
    have HRn := Lib.hid (show RRun w V9 r s.room (leftOf s.fuse) _ _ G by rw [hV9]; exact hRn.no ((Kp.refl No _).drewN nq))
    rw [← hV9]
    clear hRn d1 fg hV9
    have hd := rdid_any V9 r s.room (leftOf s.fuse) _ _ HRn.out.c
    rw [← left_next H0.out] at hd
    have HD := Lib.hid hd
    clear hd
    go_wp2_with fail
    refine HD.out.mono ?_
    rintro e wd ⟨rfl, hcd, hkd⟩
    have HRd := Lib.hid (HRn.out.setLeft hcd hkd)
    clear hcd hkd HD
    go_wp2_with fail
    go_ret
    rw [wrS, five0 H0.out HNS.out HE.out]
    exact RRun.stop (s := { s with fuse := s.fuse.map (· - 1), files := _ }) HRd.out (HPn.out _ _)
  | is L1 f L2 hL hk =>
   have hga : gget s.files name = some ⟨f.data, f.lasts⟩ := by rw [← gget_perm HP.out HR3.out.c.sorted.keys, ← hk, hL]; exact get_is (by rw [← hL]; exact HR3.out.c.sorted) rfl
   have HE := Lib.hid (show wrCode s name p = 0 by
    unfold wrCode
    rw [if_neg]
    rintro (h | ⟨h, _⟩)
    ·rw [HTO.out] at h; have := HNF.out; omega
    ·rw [hga] at h; cases h)
   have HL := Lib.hid hL
   have HPn : Hid (∀ a c, (absR (L1 ++ ⟨f.name, a, c, f.data ++ p, f.lasts⟩ :: L2)).Perm (wrFiles s.files name p)) := Lib.hid (fun a c => by
    have h1 := HR3.out.c.sorted
    have h2 := HP.out
    rw [hL] at h1 h2
    unfold wrFiles
    rw [hga, ← hk]
    exact perm_turn h1 h2 rfl)
   have HFIT : Hid (∀ a c, totF (absR (L1 ++ ⟨f.name, a, c, f.data ++ p, f.lasts⟩ :: L2)) ≤ s.room) := Lib.hid fun a c => by
    have h1 := HNF.out
    rw [HT.out, hL] at h1
    rw [totF_mid] at h1 ⊢
    rw [List.length_append]
    omega
   obtain ⟨ra, rcap, hrv, hrc, hrd⟩ := HR3.out.c.row.rd
   have c1 : ∀ W, Kp No w3 W → W.cell? ⟨r, 1, none⟩ = some (.slice ra L.length rcap) := fun W hW => by rw [cell_at (HR3.out.c.keep_no hW).cell, hrv]; rfl
   have c0 : ∀ W, Kp No w3 W → W.cell? ⟨r, 0, none⟩ = some (.int .i64 (s.room : Int)) := fun W hW => by rw [cell_at (HR3.out.c.keep_no hW).cell]; rfl
   have rl : r < w3.heap.size := get_lt HR3.out.c.cell
   have HC1 := Lib.hid c1
   clear htot hlen hT hga hk hrd
   go_wp2_with fail
   refine wp_region_held' (Kp No w3) [0,2,0,0,0,0,0,0,0,0,0,0,0,0,0,0,0,0,0,0,0,0] [0,2,3,5,6,7,8,1,4,9,10,11,12,13,14,15,16,17,18,19,20,21] (by kernel_rfl) (by kernel_rfl) (fun _ n h => h.drewN n) (Kp.refl _ _) ?_
   repeat (first
    | (apply wpOrd_skip rfl (by decide) rfl; (focus (go_simp; rfl)))
    | (apply wpOrd_pure rfl rfl rfl; (focus (intro _ _; go_simp; (try go_ints); rfl)); (focus (go_simp; rfl)))
    | (apply wpOrd_read rfl rfl rfl; (focus (intro _; go_simp; (try go_ints); rfl)); (focus (go_simp; rfl))))
   refine wpOrd_eff rfl rfl (fun n1 => ?_)
   go_wp2_with fail
   refine (HU.out n1).mono ?_
   rintro e w4 ⟨rfl, hk4⟩
   have K4 : Kp No w3 w4 := hk4.of_drewN
   clear hk4
   go_wp2_with fail
   repeat (first
    | (apply wpOrd_skip rfl (by decide) rfl; (focus (go_simp; rfl)))
    | (apply wpOrd_pure rfl rfl rfl; (focus (intro _ _; go_simp; (try go_ints); rfl)); (focus (go_simp; rfl)))
    | (apply wpOrd_read rfl rfl rfl; (focus (intro _; go_simp; (try go_ints); rfl)); (focus (go_simp; rfl))))
   refine wpOrd_nil (fun nq => ?_)
   obtain ⟨V, hV⟩ : ∃ W, W = w4.drewN nq := ⟨_, rfl⟩
   have HKV := Lib.hid (show Kp No w3 V by rw [hV]; exact K4.drewN nq)
   rw [← hV]
   clear hV K4 HU c0 c1
   have HRV : Hid (RRun w V r s.room (leftOf s.fuse) rv (L1 ++ f :: L2) G) := Lib.hid (by have h1 := HR3.out.no HKV.out; rwa [HL.out] at h1)
   have HRDP := Lib.hid (fun W (hW : Kp No V W) n => HPD.out (W.drewN n) ((HRV.out.kp.trans_no hW).drewN n))
   clear HL hrv
   clear rl HC1
   obtain ⟨g, off, rcap, n, hn, hlt, hcap, hgr, rfl, hcells⟩ := HRV.out.c.at_
   have HF := Lib.hid (HRV.out.c.files f (by simp))
   have HN := Lib.hid hn
   have q1 : ∀ W, Kp No V W → W.cell? ⟨r, 1, none⟩ = some (.slice (some ⟨g, off, none⟩) n rcap) := fun W hW => (hcells W hW).c1
   have q2 : ∀ W, Kp No V W → W.cell? ⟨g, off + L1.length * 3 + 1, none⟩ = some (.slice f.a f.data.length f.cap) := fun W hW => (hcells W hW).d1
   obtain ⟨i, hi⟩ : ∃ i, i = L1.length := ⟨_, rfl⟩
   rw [← hi] at hlt q2 ⊢
   have HI := Lib.hid hi
   have HCE := Lib.hid hcells
   have rl := (hcells V (Kp.refl _ _)).rl
   have gl := (hcells V (Kp.refl _ _)).gl
   obtain ⟨m, hm⟩ : ∃ m, m = f.data.length := ⟨_, rfl⟩
   rw [← hm] at q2
   have HMm := Lib.hid hm
   have hmm : m ≤ 1073741824 := by
    have h1 := HRV.out.c.fits
    have h2 := HRV.out.c.roomy
    rw [totF_mid] at h1
    omega
   clear hn hi hcells hm
   go_upto_region 11 with fail
   refine wp_region_last (Kp No V) [0,0,0,0,0,2,0,0,0,0,0,0,0,0,2,0,2,0,0,2] [0,1,2,3,4,6,7,8,9,10,11,12,13,15,5,14,16,17,18] 19 (by kernel_rfl) (by kernel_rfl) (fun _ n h => h.drewN n) (Kp.refl _ _) ?_
   repeat (first
    | (apply wpOrd_skip rfl (by decide) rfl; (focus (go_simp; rfl)))
    | (apply wpOrd_pure rfl rfl rfl; (focus (intro _ _; go_simp; (try go_ints); rfl)); (focus (go_simp; rfl)))
    | (apply wpOrd_read rfl rfl rfl; (focus (intro _; go_simp; (try go_ints); rfl)); (focus (go_simp; rfl))))
   refine wpOrd_eff rfl rfl (fun n1 => ?_)
   go_wp2_with fail
   obtain ⟨W6, hW6⟩ : ∃ W, W = (V.drewN n1).alloc (.cells #[] 5) := ⟨_, rfl⟩
   have k6 : Kp No V W6 := by rw [hW6]; exact ((Kp.refl _ _).drewN _).alloc _
   have ho6 : Own W6 5 1 (.slice (some ⟨V.heap.size, 0, none⟩) 0 0) 0 [] := by rw [hW6]; exact Own.made (V.drewN n1) 5 1 #[] 0 0 (Nat.le_refl _) (by simp [maxLen]) (by simp) rfl
   rw [← hW6]
   have HO6 := Lib.hid ho6
   clear hW6 ho6
   refine ⟨k6, ?_⟩
   refine wpOrd_eff rfl rfl (fun n2 => ?_)
   obtain ⟨a7, c7, W7, hrun, ho7, hk7, hb7⟩ := cpy_bytes' (W6.drewN n2) V.heap.size (HO6.out.drewN n2) f.data f.a f.cap ((HF.out.1.rd').kp (k6.drewN n2)) (by have := HMm.out; omega)
   rw [← HMm.out] at hrun
   have k7 : Kp No V W7 := (k6.drewN n2).trans hk7 (fun k hk (e : k = V.heap.size) => by omega)
   have HX7 := Lib.hid hrun
   have HO7 := Lib.hid ho7
   have HB7 := Lib.hid hb7
   have hs6 : V.heap.size ≤ (W6.drewN n2).heap.size := k6.size
   have hs7 : (W6.drewN n2).heap.size ≤ W7.heap.size := hk7.size
   clear hrun ho7 hk7 hb7
   refine wpList_append_run rfl rfl rfl rfl HX7.out (wpList_nil ⟨rfl, k7, ?_⟩)
   clear HX7
   refine wpOrd_eff rfl rfl (fun n3 => ?_)
   obtain ⟨a8, c8, W8, hrun, ho8, hk8, hb8⟩ := app_bytes (W7.drewN n3) (.slice a7 f.data.length c7) f.data p (HO7.out.drewN n3) pa pc (HRDP.out W7 k7 n3) (by have := HMm.out; omega)
   have k8 : Kp No V W8 := (k7.drewN n3).trans hk8 (fun k hk hs => by
    rcases HB7.out k hs with h1 | h1
    ·omega
    ·omega)
   obtain ⟨m2, hm2⟩ : ∃ m2, m2 = (f.data ++ p).length := ⟨_, rfl⟩
   rw [← hm2, ← HMm.out] at hrun
   have HX8 := Lib.hid hrun
   have HO8 := Lib.hid ho8
   have HB8 := Lib.hid (show ∀ k, (Value.slice a8 (f.data ++ p).length c8).ownBlock = some k → V.heap.size ≤ k from fun k hk => by
    rcases hb8 with h1 | ⟨g', h1, h2⟩
    ·rw [h1] at hk
     rcases HB7.out k hk with h3 | h3
     ·omega
     ·omega
    ·rw [h1] at hk
     injection hk with hk
     have h3 : (W7.drewN n3).heap.size = W7.heap.size := rfl
     omega)
   have HM2 := Lib.hid hm2
   clear hrun ho8 hk8 hb8 hm2
   refine wpList_append_run rfl rfl rfl rfl HX8.out (wpList_nil ⟨rfl, k8, ?_⟩)
   clear HX8 q1 q2
   repeat (first
    | (apply wpOrd_skip rfl (by decide) rfl; (focus (go_simp; rfl)))
    | (apply wpOrd_pure rfl rfl rfl; (focus (intro _ _; go_simp; (try go_ints); rfl)); (focus (go_simp; rfl)))
    | (apply wpOrd_read rfl rfl rfl; (focus (intro _; go_simp; (try go_ints); rfl)); (focus (go_simp; rfl))))
   refine last_now (fun n4 => ?_)
   refine wpOrd_eff rfl rfl (fun n5 => ?_)
   obtain ⟨W9, hW9⟩ : ∃ W, W = (W8.drewN n4).drewN n5 := ⟨_, rfl⟩
   have k9 : Kp No V W9 := by rw [hW9]; exact (k8.drewN n4).drewN n5
   have ho9 : Own W9 5 1 (.slice a8 (f.data ++ p).length c8) (f.data ++ p).length (u8s (f.data ++ p)) := by rw [hW9]; exact HO8.out
   rw [← hW9]
   have d1 : W9.cell? ⟨g, off + i * 3 + 1, none⟩ = some (.slice f.a m f.cap) := by rw [HI.out, HMm.out]; exact (HCE.out W9 k9).d1
   have fg := (HCE.out W9 k9).fg (off + i * 3 + 1)
   have hRn := HRV.out.setAt HN.out k9 1 (.slice a8 m2 c8) (by omega) ⟨f.name, a8, c8, f.data ++ p, f.lasts⟩ (by rw [HM2.out]; rfl) rfl ⟨ho9, by have := HF.out.2; show f.lasts ≤ (f.data ++ p).length; rw [List.length_append]; omega⟩ (fun k hk => .inr (HB8.out k hk)) (HFIT.out _ _)
   rw [← HI.out] at hRn
   clear hW9 ho9
   go_wp2_with fail
   intro nq
   obtain ⟨V9, hV9⟩ : ∃ W, W = (W9.setCell ⟨g, off + i * 3 + 1, none⟩ (.slice a8 m2 c8)).drewN nq := ⟨_, rfl⟩
   have HRn := Lib.hid (show RRun w V9 r s.room (leftOf s.fuse) _ _ G by rw [hV9]; exact hRn.no ((Kp.refl No _).drewN nq))
   rw [← hV9]
   clear hRn d1 fg hV9
   have hd := rdid_any V9 r s.room (leftOf s.fuse) _ _ HRn.out.c
   rw [← left_next H0.out] at hd
   have HD := Lib.hid hd
   clear hd
   go_wp2_with fail
   refine HD.out.mono ?_
   rintro e wd ⟨rfl, hcd, hkd⟩
   have HRd := Lib.hid (HRn.out.setLeft hcd hkd)
   clear hcd hkd HD
   go_wp2_with fail
   go_ret
   rw [wrS, five0 H0.out HNS.out HE.out]
   exact RRun.stop (s := { s with fuse := s.fuse.map (· - 1), files := _ }) HRd.out (HPn.out _ _)
end Go.Proofs.YtdibkdgafidjgaaGreatDoor

