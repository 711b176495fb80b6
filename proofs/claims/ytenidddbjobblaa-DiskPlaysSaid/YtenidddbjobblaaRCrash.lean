/-
  The reference's disk: Crash.
-/
import Derived.Test.YtenidddbjobblaaRWalk
import Derived.Test.YtenidddbjobblaaDiskCrash
import Derived.Deep.CutRange
namespace Go.Proofs.Ytenidddbjobblaa
open Go.RowKit Go.Mer

theorem torn_zero (l : List UInt8) (a b : Nat) : torn l a b 0 = l := by
  apply List.ext_getElem?
  intro i
  simp only [torn, List.getElem?_mapIdx]
  cases l[i]? with
  | none => rfl
  | some x => simp
theorem RRun.cells {w V : World} {r room n rcap g off : Nat} {left : Int} {L1 L2 : List RFile} {G : Nat → Prop} {f : RFile} (h : RRun w V r room left (.slice (some ⟨g, off, none⟩) n rcap) (L1 ++ f :: L2) G) : ∀ W, Kp No V W → RCells W r g off n rcap L1.length f := by
  obtain ⟨g', off', rcap', n', _, _, _, _, hrv, hc⟩ := h.c.at_
  injection hrv with h1 h2 h3
  injection h1 with h1
  injection h1 with h4 h5
  subst h2; subst h3; subst h4; subst h5
  exact hc
/-- A file's bytes turned where they lie; nobody else has them. -/
theorem RRun.data {w W W' : World} {r room : Nat} {left : Int} {rv : Value} {L1 L2 : List RFile} {G : Nat → Prop} {f f' : RFile} (h : RRun w W r room left rv (L1 ++ f :: L2) G) (hk : Kp (fun k => f.val.ownBlock = some k) W W') (hcells : f'.cells = f.cells) (hnm : f'.name = f.name) (hv : f'.val = f.val) (hlen : f'.data.length = f.data.length) (hok : RFileOk W' f')
    (hdis : ∀ g, (g ∈ L1 ∨ g ∈ L2) → ∀ k, g.val.ownBlock = some k → f.val.ownBlock ≠ some k) : RRun w W' r room left rv (L1 ++ f' :: L2) G := by
  have hc := h.c
  have hmem : f ∈ L1 ++ f :: L2 := by simp
  have hfm : (L1 ++ f' :: L2).flatMap RFile.cells = (L1 ++ f :: L2).flatMap RFile.cells := by
    rw [List.flatMap_append, List.flatMap_append, List.flatMap_cons, List.flatMap_cons, hcells]
  have hl : (L1 ++ f' :: L2).length = (L1 ++ f :: L2).length := by simp
  have hother : ∀ g, g ∈ L1 ∨ g ∈ L2 → RFileOk W' g := fun g hg => by
    have hg' : g ∈ L1 ++ f :: L2 := by rcases hg with hg | hg <;> simp [hg]
    exact (hc.files g hg').keep hk fun k hk1 hk2 => hdis g hg k hk1 hk2
  refine h.step hk (fun k hk' => .inl (.inr (.inr ⟨f, hmem, hk'⟩))) ⟨hk.get hc.cell fun hr => (hc.data_ne hmem hr).1 rfl, ?_, fun g hg => ?_, sorted_turn hc.sorted hnm, ?_, hc.roomy, by rw [hl]; exact hc.few, hc.left0, hc.leftM⟩ fun k hk' => ?_
  · rw [hl, hfm]
    exact hc.row.keep hk fun k hk1 hk2 => (hc.data_ne hmem hk2).2 hk1
  · rcases List.mem_append.1 hg with hg | hg
    · exact hother g (.inl hg)
    · rcases List.mem_cons.1 hg with rfl | hg
      · exact hok
      · exact hother g (.inr hg)
  · have := hc.fits
    rw [totF_mid] at this ⊢
    omega
  · rcases hk' with hk' | hk' | ⟨g, hg, hk'⟩
    · exact .inl (.inl hk')
    · exact .inl (.inr (.inl hk'))
    · rcases List.mem_append.1 hg with hg | hg
      · exact .inl (.inr (.inr ⟨g, by simp [hg], hk'⟩))
      · rcases List.mem_cons.1 hg with rfl | hg
        · exact .inl (.inr (.inr ⟨f, hmem, by rw [← hv]; exact hk'⟩))
        · exact .inl (.inr (.inr ⟨g, by simp [hg], hk'⟩))
def crP (keep : Int) (t : UInt8) (p : ByteArray × FileS) : ByteArray × FileS := (p.1, crF keep t p.2)
set_option maxRecDepth 100000 in
set_option maxHeartbeats 4000000 in
theorem rCrash_any (w : World) (r : Nat) (s : DSt) (G : Nat → Prop) (h : RAt w r s G) (keep : Int) (hk0 : -9223372036854775808 ≤ keep) (hk1 : keep ≤ 9223372036854775807) (t : UInt8) :
    Calls Try.prog 46 #[.pointer (some ⟨r, 0, none⟩), .int .i64 keep, .int .u8 (t.toNat : Int)] w fun e w' => e = .returned (.tuple #[]) ∧ ∃ G', RAt w' r (crS s keep t) G' ∧ Foot G G' w ∧ Kp G w w' := by
  obtain ⟨rv, L, hR, hp, hGl⟩ := RRun.start h
  have HP := Lib.hid hp
  obtain ⟨ra, rcap, hrv, hrc, hrd⟩ := hR.c.row.rd
  have hfew := hR.c.few
  have HR := Lib.hid hR
  have HRV := Lib.hid hrv
  obtain ⟨K, hK⟩ : ∃ K, K = keep.toNat := ⟨_, rfl⟩
  have hmax : (if 0 < keep then keep else 0) = (K : Int) := by split <;> omega
  have hmaxb : max 0 keep = (K : Int) := by omega
  have hKb : (K : Int) ≤ 9223372036854775807 := by omega
  have HK := Lib.hid hK
  clear h hR hp hGl hrd hrv hK
  go_enter Try.func46, Try.ntmps46
  go_wp2_with fail
  rename World => w0
  clear hmax hmaxb
  go_loopw [6, 7, 8, 9, 10] (fun s6 s7 s8 s9 s10 wr => ∃ (i : Nat) (M1 : List RFile), i ≤ L.length ∧ s6 = .int .i64 (i : Int) ∧ Hid (M1.length = i) ∧ Hid (absR M1 = (absR (L.take i)).map (crP keep t)) ∧ Hid (RRun w0 wr r s.room (leftOf s.fuse) rv (M1 ++ L.drop i) G)) (fun s6 _ _ _ _ _ => L.length - (intOf s6).toNat)
  case atStart => exact ⟨0, [], Nat.zero_le _, rfl, Lib.hid rfl, Lib.hid rfl, HR⟩
  case round =>
    obtain ⟨i, M1, hi, rfl, HM, HAB, HRR⟩ := hrel
    have c1 : wr.cell? ⟨r, 1, none⟩ = some (.slice ra L.length rcap) := by
      rw [cell_at HRR.out.c.cell, ← HRV.out]
      rfl
    have rl : r < wr.heap.size := get_lt HRR.out.c.cell
    by_cases hlt : i < L.length
    · have HDR := Lib.hid (List.drop_eq_getElem_cons hlt)
      have HTK := Lib.hid (List.take_succ_eq_append_getElem hlt)
      obtain ⟨f, hf⟩ : ∃ f, f = L[i] := ⟨_, rfl⟩
      rw [← hf] at HDR HTK
      obtain ⟨M2, hM2⟩ : ∃ M2, M2 = L.drop (i + 1) := ⟨_, rfl⟩
      rw [← hM2] at HDR
      have HM2 := Lib.hid hM2
      have hrr := HRR.out
      rw [HDR.out] at hrr
      obtain ⟨g, off, rcap2, n, hn, hlt2, hcap2, hgr, hrv2, hcells⟩ := hrr.c.at_
      have hrv3 := HRV.out.symm.trans hrv2
      injection hrv3 with e1 e2 e3
      subst e1
      subst e3
      rw [e2] at c1
      rw [hrv2] at hrr
      rw [HM.out] at hcells hlt2
      have HRR5 := Lib.hid hrr
      have HN := Lib.hid hn
      have HRV2 := Lib.hid hrv2
      have HLN := Lib.hid e2
      obtain ⟨_, d0, d1, d2, fr, fg, _, gl⟩ := hcells wr (Kp.refl _ _)
      obtain ⟨m, hm⟩ : ∃ m, m = f.data.length := ⟨_, rfl⟩
      obtain ⟨l, hl⟩ : ∃ l, l = f.lasts := ⟨_, rfl⟩
      rw [← hm] at d1
      rw [← hl] at d2
      have HMm := Lib.hid hm
      have HL := Lib.hid hl
      have HF := Lib.hid (hrr.c.files f (by simp))
      have hlm : l ≤ m := by rw [hl, hm]; exact HF.out.2
      have hmm : m ≤ 1073741824 := by
        have h1 := hrr.c.fits
        have h2 := hrr.c.roomy
        rw [totF_mid] at h1
        omega
      have hmc : m ≤ f.cap := by
        obtain ⟨a, c, hv, hle, _⟩ := HF.out.1.rd
        have hv' : Value.slice f.a f.data.length f.cap = .slice a f.data.length c := hv
        injection hv' with _ _ h3
        rw [h3, hm]
        exact hle
      obtain ⟨U, hU0⟩ : ∃ U, U = m - l := ⟨_, rfl⟩
      obtain ⟨R, hR0⟩ : ∃ R, R = K % (U + 1) := ⟨_, rfl⟩
      obtain ⟨S, hS0⟩ : ∃ S, S = l + R := ⟨_, rfl⟩
      have hRU : R ≤ U := by rw [hR0]; have := Nat.mod_lt K (show 0 < U + 1 by omega); omega
      have hU : (m : Int) - (l : Int) = (U : Int) := by omega
      have hR : (K : Int) % ((U : Int) + 1) = (R : Int) := by
        rw [hR0]
        push_cast
        rfl
      have hS : (l : Int) + (R : Int) = (S : Int) := by omega
      have hSm : S ≤ m := by omega
      have hSl : l ≤ S := by omega
      have hSc : S ≤ f.cap := by omega
      have hnz : ¬ ((U : Int) + 1 = 0) := by omega
      have HST := Lib.hid (show S = stays keep ⟨f.data, f.lasts⟩ by
        unfold stays
        rw [hS0, hR0, hU0, ← HK.out, hl, hm])
      have HCE := Lib.hid hcells
      clear HRR hf hM2 hrr hn hrv2 e2 hm hl hU0 hR0 hS0 hcells
      go_upto_region 5 with fail
      refine wp_region_ord [0,0,0,1,1,0,0,0,1,0,0] [0,1,2,5,6,7,3,4,8,9,10] (by kernel_rfl) (by kernel_rfl) ?_
      repeat (first
        | (apply wpOrd_skip rfl (by decide) rfl; (focus (go_simp; rfl)))
        | (apply wpOrd_pure rfl rfl rfl; (focus (intro _ _; go_simp; (try go_ints); rfl)); (focus (go_simp; rfl)))
        | (apply wpOrd_read rfl rfl rfl; (focus (intro _; go_simp; (try go_ints); rfl)); (focus (go_simp; rfl))))
      refine wpOrd_nil (fun nq => ?_)
      obtain ⟨V5, hV5⟩ : ∃ W, W = wr.drewN nq := ⟨_, rfl⟩
      have HRR6 := Lib.hid (show RRun w0 V5 r s.room (leftOf s.fuse) _ (M1 ++ f :: M2) G by rw [hV5]; exact HRR5.out.no ((Kp.refl _ _).drewN nq))
      have HK5 := Lib.hid (show Kp No wr V5 by rw [hV5]; exact (Kp.refl _ _).drewN nq)
      have HF5 := Lib.hid (show RFileOk V5 f by rw [hV5]; exact HF.out)
      rw [← hV5]
      have q2 : ∀ W, Kp No V5 W → W.cell? ⟨g, off + i * 3 + 1, none⟩ = some (.slice f.a m f.cap) := fun W hW => by rw [HMm.out]; exact (HCE.out W (HK5.out.trans_same hW)).d1
      have q3 : ∀ W, Kp No V5 W → W.cell? ⟨g, off + i * 3 + 2, none⟩ = some (.int .i64 (l : Int)) := fun W hW => by rw [HL.out]; exact (HCE.out W (HK5.out.trans_same hW)).d2
      have HLT2 := Lib.hid (show (f.data.take S).length = S by rw [List.length_take, ← HMm.out]; omega)
      clear hV5 c1 d0 d1 d2 fr fg rl gl HRR5
      go_upto_region 6 with fail
      refine wp_region_last (Kp No V5) [0,2,0,0,0,0,0,0,0,0,0,0,0,0,0,0,2,0,0,2] [0,2,3,4,5,6,7,8,9,10,11,12,13,14,15,1,16,17,18] 19 (by kernel_rfl) (by kernel_rfl) (fun _ n h => h.drewN n) (Kp.refl _ _) ?_
      repeat (first
        | (apply wpOrd_skip rfl (by decide) rfl; (focus (go_simp; rfl)))
        | (apply wpOrd_pure rfl rfl rfl; (focus (intro _ _; go_simp; (try go_ints); rfl)); (focus (go_simp; rfl)))
        | (apply wpOrd_read rfl rfl rfl; (focus (intro _; go_simp; (try go_ints); rfl)); (focus (go_simp; rfl))))
      refine wpOrd_eff rfl rfl (fun n1 => ?_)
      go_wp2_with fail
      obtain ⟨W6, hW6⟩ : ∃ W, W = (V5.drewN n1).alloc (.cells #[] 5) := ⟨_, rfl⟩
      have k6 : Kp No V5 W6 := by rw [hW6]; exact ((Kp.refl _ _).drewN _).alloc _
      have ho6 : Own W6 5 1 (.slice (some ⟨V5.heap.size, 0, none⟩) 0 0) 0 [] := by rw [hW6]; exact Own.made (V5.drewN n1) 5 1 #[] 0 0 (Nat.le_refl _) (by simp [maxLen]) (by simp) rfl
      rw [← hW6]
      have HO6 := Lib.hid ho6
      clear hW6 ho6
      refine ⟨k6, ?_⟩
      refine wpOrd_eff rfl rfl (fun n2 => ?_)
      have hrdf := ((HF5.out.1.rd').kp (k6.drewN n2)).take S
      rw [u8s_take] at hrdf
      obtain ⟨a7, c7, W7, hrun, ho7, hk7, hb7⟩ := cpy_bytes' (W6.drewN n2) V5.heap.size (HO6.out.drewN n2) (f.data.take S) f.a f.cap hrdf (by rw [HLT2.out]; omega)
      rw [HLT2.out] at hrun
      have k7 : Kp No V5 W7 := (k6.drewN n2).trans hk7 (fun k hk (e : k = V5.heap.size) => by omega)
      have HX7 := Lib.hid hrun
      have HO7 := Lib.hid ho7
      have hs6 : V5.heap.size ≤ (W6.drewN n2).heap.size := k6.size
      have HB7 := Lib.hid (show ∀ k, (Value.slice a7 (f.data.take S).length c7).ownBlock = some k → V5.heap.size ≤ k from fun k hk => by
        rcases hb7 k hk with h1 | h1
        · omega
        · omega)
      clear hrun ho7 hk7 hb7 hrdf q2 q3
      refine wpList_append_run rfl rfl rfl rfl HX7.out (wpList_nil ⟨rfl, k7, ?_⟩)
      clear HX7
      repeat (first
        | (apply wpOrd_skip rfl (by decide) rfl; (focus (go_simp; rfl)))
        | (apply wpOrd_pure rfl rfl rfl; (focus (intro _ _; go_simp; (try go_ints); rfl)); (focus (go_simp; rfl)))
        | (apply wpOrd_read rfl rfl rfl; (focus (intro _; go_simp; (try go_ints); rfl)); (focus (go_simp; rfl))))
      refine last_now (fun n4 => ?_)
      refine wpOrd_eff rfl rfl (fun n5 => ?_)
      obtain ⟨W9, hW9⟩ : ∃ W, W = (W7.drewN n4).drewN n5 := ⟨_, rfl⟩
      have k9 : Kp No V5 W9 := by rw [hW9]; exact (k7.drewN n4).drewN n5
      have ho9 : Own W9 5 1 (.slice a7 (f.data.take S).length c7) (f.data.take S).length (u8s (f.data.take S)) := by rw [hW9]; exact HO7.out
      rw [← hW9]
      have e1 : W9.cell? ⟨g, off + i * 3 + 1, none⟩ = some (.slice f.a m f.cap) := by rw [HMm.out]; exact (HCE.out W9 (HK5.out.trans_same k9)).d1
      have fg9 := (HCE.out W9 (HK5.out.trans_same k9)).fg (off + i * 3 + 1)
      have hfit : totF (absR (M1 ++ ⟨f.name, a7, c7, f.data.take S, f.lasts⟩ :: M2)) ≤ s.room := by
        have := HRR6.out.c.fits
        rw [totF_mid] at this ⊢
        have h2 := HMm.out
        simp only [HLT2.out]
        omega
      have hRn := HRR6.out.setAt HN.out k9 1 (.slice a7 S c7) (by omega) ⟨f.name, a7, c7, f.data.take S, f.lasts⟩ (by show [_, _, _] = [_, _, _]; rw [HLT2.out]) rfl ⟨ho9, by show f.lasts ≤ (f.data.take S).length; rw [HLT2.out, ← HL.out]; exact hSl⟩ (fun k hk => .inr (HB7.out k hk)) hfit
      rw [HM.out] at hRn
      clear hW9 ho9 k9 k7 k6 hs6 hfit
      go_wp2_with fail
      intro nr
      obtain ⟨V6, hV6⟩ : ∃ W, W = (W9.setCell ⟨g, off + i * 3 + 1, none⟩ (.slice a7 S c7)).drewN nr := ⟨_, rfl⟩
      have HR6 := Lib.hid (show RRun w0 V6 r s.room (leftOf s.fuse) (.slice (some ⟨g, off, none⟩) n rcap) (M1 ++ ⟨f.name, a7, c7, f.data.take S, f.lasts⟩ :: M2) G by rw [hV6]; exact hRn.no ((Kp.refl No _).drewN nr))
      rw [← hV6]
      have HN2 := Lib.hid (show ∀ x : RFile, n = (M1 ++ x :: M2).length from fun x => by rw [HN.out]; simp)
      have HDIS := Lib.hid (show ∀ x, (x ∈ M1 ∨ x ∈ M2) → ∀ k, x.val.ownBlock = some k → ∀ q, (Value.slice a7 q c7).ownBlock ≠ some k from fun x hx k hk q e => by
        have e2 : (Value.slice a7 (f.data.take S).length c7).ownBlock = (Value.slice a7 q c7).ownBlock := by cases a7 <;> rfl
        have h1 := HB7.out k (e2.trans e)
        have h2 := (HRR6.out.c.files x (by rcases hx with hx | hx <;> simp [hx])).1.lt k hk
        omega)
      clear hRn e1 fg9 hV6
      have hcells6 := HR6.out.cells
      rw [HM.out] at hcells6
      obtain ⟨_, d0, d1, d2, fr, fg, _, gl⟩ := hcells6 V6 (Kp.refl _ _)
      simp only [HLT2.out] at d1
      rw [← HL.out] at d2
      have HCR := Lib.hid (show ∀ D, D = torn (f.data.take S) (max f.lasts ((S - 1) / 16 * 16)) S t → absR (M1 ++ [(⟨f.name, a7, c7, D, S⟩ : RFile)]) = (absR (L.take (i + 1))).map (crP keep t) from fun D hD => by
        rw [absR_append, HAB.out, HTK.out, absR_append, List.map_append]
        congr 1
        show [(f.name, (⟨D, S⟩ : FileS))] = [crP keep t (f.name, ⟨f.data, f.lasts⟩)]
        unfold crP crF
        rw [← HST.out, hD])
      clear hcells6 hU hR hS hnz
      go_upto_region 7 with fail
      go_cut [66] from 57 to 65 (fun v wx => ∃ b : Bool, v = .bool b ∧ wx = V6 ∧ Hid (b = false → f.data.take S = torn (f.data.take S) (max f.lasts ((S - 1) / 16 * 16)) S t) ∧ Hid (b = true → 0 < S))
      case first =>
        by_cases hS0 : S = 0
        · have HT0 := Lib.hid (show f.data.take S = torn (f.data.take S) (max f.lasts ((S - 1) / 16 * 16)) S t by rw [hS0]; simp [torn])
          have f1 : decide ((0 : Int) < (S : Int)) = false := by simp; omega
          have f1b : decide (0 < S) = false := by simp; omega
          have f1c : ¬ 0 < S := by omega
          clear hS0
          go_wp2_with fail
          go_meet
          case rel => exact ⟨false, rfl, rfl, Lib.hid fun _ => HT0.out, Lib.hid (fun h => by cases h)⟩
        · have f1 : decide ((0 : Int) < (S : Int)) = true := by simp; omega
          have f1b : decide (0 < S) = true := by simp; omega
          have f1c : 0 < S := by omega
          have HS0 := Lib.hid (show 0 < S by omega)
          clear hS0
          by_cases ht0 : t = 0
          · have f2 : ((t.toNat : Int) != 0) = false := by rw [ht0]; rfl
            have HT0 := Lib.hid (show f.data.take S = torn (f.data.take S) (max f.lasts ((S - 1) / 16 * 16)) S t by rw [ht0, torn_zero])
            clear ht0
            go_wp2_with fail
            go_meet
            case rel => exact ⟨false, rfl, rfl, Lib.hid fun _ => HT0.out, Lib.hid (fun h => by cases h)⟩
          · have f2 : ((t.toNat : Int) != 0) = true := by
              rw [bne_iff_ne]
              intro e
              exact ht0 (UInt8.toNat_inj.1 (by simpa using e))
            clear ht0
            go_wp2_with fail
            go_meet
            case rel => exact ⟨true, rfl, rfl, Lib.hid (fun h => by cases h), Lib.hid fun _ => HS0.out⟩
      case rest =>
      obtain ⟨b, rfl, rfl, HB1, HB2⟩ := hcut
      rename World => V6
      cases b with
      | false =>
        obtain ⟨D, hD⟩ : ∃ D, D = f.data.take S := ⟨_, rfl⟩
        have HD := Lib.hid (show D = torn (f.data.take S) (max f.lasts ((S - 1) / 16 * 16)) S t by rw [hD]; exact HB1.out rfl)
        have HDL := Lib.hid (show D.length = S by rw [hD]; exact HLT2.out)
        have HRD := Lib.hid (show RRun w0 V6 r s.room (leftOf s.fuse) (.slice (some ⟨g, off, none⟩) n rcap) (M1 ++ ⟨f.name, a7, c7, D, f.lasts⟩ :: M2) G by rw [hD]; exact HR6.out)
        clear hD d0 d1 d2 fr fg gl
        have hcc := HRD.out.cells
        rw [HM.out] at hcc
        obtain ⟨_, d0, d1, d2, fr, fg, rl, gl⟩ := hcc V6 (Kp.refl _ _)
        simp only [HDL.out] at d1
        rw [← HL.out] at d2
        have fg2 := fg (off + i * 3 + 2)
        have hRn := HRD.out.setAt (HN2.out _) (Kp.refl No _) 2 (.int .i64 (S : Int)) (by omega) ⟨f.name, a7, c7, D, S⟩ rfl rfl ⟨(HRD.out.c.files _ (List.mem_append_right M1 (List.mem_cons_self ..))).1, Nat.le_of_eq HDL.out.symm⟩ (fun _ h => .inl h) (by have := HRD.out.c.fits; rw [totF_mid] at this ⊢; exact this)
        rw [HM.out] at hRn
        have HRn := Lib.hid hRn
        clear hcc hRn fr fg d0
        go_wp2_with fail
        go_roundw
        case rel =>
          refine ⟨i + 1, M1 ++ [⟨f.name, a7, c7, D, S⟩], by omega, by go_num, Lib.hid (by rw [List.length_append, HM.out]; rfl), Lib.hid (HCR.out D HD.out), Lib.hid ?_⟩
          rw [List.append_assoc, ← HM2.out, HRV2.out]
          exact HRn.out
        case measure => simp [intOf]; omega
      | true =>
        have hS0 := HB2.out rfl
        obtain ⟨Q, hQ⟩ : ∃ Q, Q = S - 1 := ⟨_, rfl⟩
        obtain ⟨sec, hsec⟩ : ∃ sec, sec = Q / 16 * 16 := ⟨_, rfl⟩
        obtain ⟨f0, hf0⟩ : ∃ x, x = max l sec := ⟨_, rfl⟩
        have hq1 : (S : Int) - 1 = (Q : Int) := by omega
        have hsecz : (Q : Int) / 16 * 16 = (sec : Int) := by omega
        have hm1 : (if (sec : Int) < (l : Int) then (l : Int) else (sec : Int)) = (f0 : Int) := by split <;> omega
        have hm2 : max (sec : Int) (l : Int) = (f0 : Int) := by omega
        have hm3 : (if sec < l then (l : Int) else (sec : Int)) = (f0 : Int) := by split <;> omega
        have hf0b : f0 ≤ 1073741824 := by omega
        have HF0 := Lib.hid (show f0 = max f.lasts ((S - 1) / 16 * 16) by rw [hf0, hsec, hQ, HL.out])
        clear hQ hsec hf0
        go_wp2_with fail
        clear hq1 hsecz hm1 hm2 hm3
        have HLT3 := Lib.hid (fun j => by rw [torn_length, HLT2.out] : ∀ j, (torn (f.data.take S) f0 j t).length = S)
        go_loopw [10] (fun s10 wi => ∃ j : Nat, f0 ≤ j ∧ (j ≤ S ∨ j = f0) ∧ s10 = .int .i64 (j : Int) ∧ Hid (RRun w0 wi r s.room (leftOf s.fuse) (.slice (some ⟨g, off, none⟩) n rcap) (M1 ++ ⟨f.name, a7, c7, torn (f.data.take S) f0 j t, f.lasts⟩ :: M2) G)) (fun s10 _ => S - (intOf s10).toNat)
        case atStart => exact ⟨f0, Nat.le_refl _, .inr rfl, rfl, by rw [torn_start]; exact HR6⟩
        case round =>
          obtain ⟨j, hj1, hj2, rfl, HRJ⟩ := hrel
          rename World => wi
          have hcc := HRJ.out.cells
          rw [HM.out] at hcc
          obtain ⟨_, d0, d1, d2, fr, fg, rl, gl⟩ := hcc wi (Kp.refl _ _)
          simp only [HLT3.out] at d1
          rw [← HL.out] at d2
          have hjb : j ≤ 1073741824 := by omega
          by_cases hjs : j < S
          · have hjl : j < (f.data.take S).length := by rw [HLT2.out]; exact hjs
            have hown := (HRJ.out.c.files _ (List.mem_append_right M1 (List.mem_cons_self ..))).1
            obtain ⟨gb, ob, hfa, hgb, _, hcb⟩ := hown.rd'.byte (i := j) (by rw [torn_length]; exact hjl)
            have hfa' : a7 = some ⟨gb, ob, none⟩ := hfa
            rw [hfa'] at d1
            have htg := torn_get (f.data.take S) f0 j t hjl
            rw [htg] at hcb
            obtain ⟨y, hy⟩ : ∃ y, y = (f.data.take S)[j]'hjl := ⟨_, rfl⟩
            rw [← hy] at hcb
            obtain ⟨cur, hcur⟩ := hown.type gb (by show (Value.slice a7 _ _).ownBlock = _; rw [hfa']; rfl)
            have hfz := free_at hcur (ob + j)
            have hx := xor_u8 y t
            have hown2 : Own wi 5 1 (.slice (some ⟨gb, ob, none⟩) (torn (f.data.take S) f0 j t).length c7) (torn (f.data.take S) f0 j t).length (u8s (torn (f.data.take S) f0 j t)) := by
              have h1 : Own wi 5 1 (.slice a7 (torn (f.data.take S) f0 j t).length c7) (torn (f.data.take S) f0 j t).length (u8s (torn (f.data.take S) f0 j t)) := hown
              rwa [hfa'] at h1
            have hst := own_store hown2 j (by rw [HLT3.out]; exact hjs) (Mer.u8 (y ^^^ t))
            rw [u8s_set, hy, ← torn_step (f.data.take S) f0 j t hj1 hjl, ← hy] at hst
            have hR9 := HRJ.out.data (f' := ⟨f.name, a7, c7, torn (f.data.take S) f0 (j + 1) t, f.lasts⟩) ((Kp.refl _ wi).setCell (p := ⟨gb, ob + j, none⟩) (.inl (by show (Value.slice a7 _ _).ownBlock = _; rw [hfa']; rfl)) (Mer.u8 (y ^^^ t)))
              (by show [_, _, _] = [_, _, _]; rw [HLT3.out, HLT3.out]) rfl (by show Value.slice _ _ _ = Value.slice _ _ _; rw [HLT3.out, HLT3.out]) (by rw [HLT3.out, HLT3.out])
              ⟨by show Own _ _ _ (.slice a7 _ c7) _ _; rw [hfa']; simp only [HLT3.out] at hst ⊢; exact hst, by show f.lasts ≤ _; rw [HLT3.out, ← HL.out]; exact hSl⟩ (fun x hx k hk => HDIS.out x hx k hk _)
            have HR9 := Lib.hid hR9
            clear hcc d0 fr fg hown hfa hfa' htg hy hcur hown2 hst hR9
            go_wp2_with fail
            go_roundw
            case rel => exact ⟨j + 1, by omega, .inl (by omega), by go_num, HR9⟩
            case measure => simp [intOf]; omega
          · obtain ⟨D, hD⟩ : ∃ D, D = torn (f.data.take S) f0 j t := ⟨_, rfl⟩
            have HD := Lib.hid (show D = torn (f.data.take S) (max f.lasts ((S - 1) / 16 * 16)) S t by
              rw [hD, ← HF0.out]
              exact torn_full _ _ _ _ _ (by rw [HLT2.out]; omega) (by rw [HLT2.out]; exact Nat.le_refl _))
            have HDL := Lib.hid (show D.length = S by rw [hD]; exact HLT3.out j)
            have HRD := Lib.hid (show RRun w0 wi r s.room (leftOf s.fuse) (.slice (some ⟨g, off, none⟩) n rcap) (M1 ++ ⟨f.name, a7, c7, D, f.lasts⟩ :: M2) G by rw [hD]; exact HRJ.out)
            clear hD hcc d0 fr fg
            have hcc := HRD.out.cells
            rw [HM.out] at hcc
            obtain ⟨_, d0, d1, d2, fr, fg, rl, gl⟩ := hcc wi (Kp.refl _ _)
            simp only [HDL.out] at d1
            rw [← HL.out] at d2
            have fg2 := fg (off + i * 3 + 2)
            have hRn := HRD.out.setAt (HN2.out _) (Kp.refl No _) 2 (.int .i64 (S : Int)) (by omega) ⟨f.name, a7, c7, D, S⟩ rfl rfl ⟨(HRD.out.c.files _ (List.mem_append_right M1 (List.mem_cons_self ..))).1, Nat.le_of_eq HDL.out.symm⟩ (fun _ h => .inl h) (by have := HRD.out.c.fits; rw [totF_mid] at this ⊢; exact this)
            rw [HM.out] at hRn
            have HRn := Lib.hid hRn
            clear hcc hRn fr fg d0
            go_wp2_with fail
            go_roundw
            case rel =>
              refine ⟨i + 1, M1 ++ [⟨f.name, a7, c7, D, S⟩], by omega, by go_num, Lib.hid (by rw [List.length_append, HM.out]; rfl), Lib.hid (HCR.out D HD.out), Lib.hid ?_⟩
              rw [List.append_assoc, ← HM2.out, HRV2.out]
              exact HRn.out
            case measure => simp [intOf]; omega
    · obtain rfl : i = L.length := by omega
      have hrr := HRR.out
      rw [List.drop_length, List.append_nil] at hrr
      have hab := HAB.out
      rw [List.take_length] at hab
      have c2 := cell_at hrr.c.cell 2
      have f2 := free_at hrr.c.cell 2
      simp at c2
      have hk : Kp (One r) wr (wr.setCell ⟨r, 2, none⟩ (.int .i64 (-1))) := (Kp.refl (One r) _).setCell (p := ⟨r, 2, none⟩) (.inl rfl) _
      have hR9 := hrr.setLeft (hrr.c.setLeft (-1) (by omega) (by omega) hk (by have := set_at hrr.c.cell 2 (.int .i64 (-1)); simpa using this)) hk
      have HR9 := Lib.hid hR9
      have HPn := Lib.hid (show (absR M1).Perm (crS s keep t).files by rw [hab]; exact HP.out.map _)
      clear hlt hrr hab hk hR9
      go_wp2_with fail
      go_end0
      exact ⟨rfl, RFP r rv M1, ⟨rv, M1, HR9.out.c, HPn.out, fun _ x => x, HR9.out.c.lt⟩, HR9.out.foot, HR9.out.kp⟩
end Go.Proofs.Ytenidddbjobblaa
