/-
  All files, in both.
-/
import Derived.Test.YtenidddbjobblaaDoes
import Derived.Test.YtenidddbjobblaaDiskNames
import Derived.Deep.CutRange
namespace Go.Proofs.Ytenidddbjobblaa
open Go.RowKit Go.Mer

theorem names_eq {N : List ByteArray} {ss : List (List UInt8)} {fs : Files} (hN : N.Pairwise NLt) (hp : N.Perm (fs.map (·.1))) (hs : ss.Perm (fs.map (·.1.data.toList))) : namesOf ss = N := by
  have h1 : (ss.mergeSort fun x y => decide (x ≤ y)) = N.map (·.data.toList) := by
    refine List.Perm.eq_of_pairwise (le := fun a b : List UInt8 => a ≤ b) (fun a b _ _ h1 h2 => List.le_antisymm h1 h2) ?_ ?_ ?_
    · have := List.pairwise_mergeSort (le := fun x y : List UInt8 => decide (x ≤ y)) (fun a b c h1 h2 => decide_eq_true (List.le_trans (of_decide_eq_true h1) (of_decide_eq_true h2))) (fun a b => by
        rcases List.le_total a b with h | h <;> simp [h]) ss
      exact this.imp fun h => of_decide_eq_true h
    · exact List.pairwise_map.2 (hN.imp fun h => List.le_of_lt h)
    · refine (List.mergeSort_perm _ _).trans (hs.trans ?_)
      have h2 := hp.symm.map (·.data.toList)
      rwa [List.map_map] at h2
  unfold namesOf
  rw [h1, List.map_map]
  have h3 : ((fun b : List UInt8 => (⟨b.toArray⟩ : ByteArray)) ∘ fun x : ByteArray => x.data.toList) = id := by
    funext x
    rfl
  rw [h3, List.map_id]
def StoodP (w0 : World) (d r : Nat) (s : DSt) (F G : Nat → Prop) (e : Ending) (W' : World) : Prop := e = .returned (.bool true) ∧ Bo w0 W' d r s s F G
set_option maxRecDepth 100000 in
set_option maxHeartbeats 4000000 in
theorem stood_any (w0 W : World) (d r : Nat) (s : DSt) (F G : Nat → Prop) (hB : Bo w0 W d r s s F G) (hNm : NmOk s) :
    Calls Try.prog 27 #[.pointer (some ⟨d, 0, none⟩), .pointer (some ⟨r, 0, none⟩)] W (StoodP w0 d r s F G) := by
  have HB := Lib.hid hB
  have HNM := Lib.hid hNm
  have HR := Lib.hid (rNames_any W r s G hB.rk)
  clear hB hNm
  go_enter Try.func27, Try.ntmps27
  go_wp2_with fail
  refine HR.out.mono ?_
  rintro e w1 ⟨N, a1, c1, rfl, hN, hp, hrd, hk1⟩
  have HB1 := Lib.hid (HB.out.no hk1)
  have HN := Lib.hid hN
  have HP := Lib.hid hp
  have HRD := Lib.hid hrd
  have hNl : N.length ≤ 4096 := by
    obtain ⟨rv, L, hC, hpp, _⟩ := HB.out.rk
    have h1 := hp.length_eq
    have h2 := hpp.length_eq
    have h3 := hC.few
    simp only [absR, List.length_map] at h1 h2
    omega
  have hd := Names_any w1 d s F HB1.out.dk (fun p hp => by have := HNM.out p hp; unfold maxLen; omega)
  have HD := Lib.hid hd
  clear hN hp hrd hk1 hd HR
  go_wp2_with fail
  refine HD.out.mono ?_
  rintro e w2 ⟨ss, a2, c2, rfl, hss, hrd2, hk2⟩
  have hne := names_eq HN.out HP.out hss
  rw [hne] at hrd2 ⊢
  have HB2 := Lib.hid (HB1.out.no hk2)
  have HRD2 := Lib.hid ((HRD.out.keep hk2 fun _ _ x => x).mono hk2.size (Nat.le_refl _))
  have ht := texts_any a2 a1 c2 c1 w2.heap.size w2.heap.size N N w2 hrd2 HRD2.out (by omega)
  have HT := Lib.hid ht
  clear hss hrd2 hk2 hne ht HD
  go_wp2_with fail
  refine HT.out.mono ?_
  rintro e w3 ⟨rfl, n3, rfl⟩
  obtain ⟨V, hV⟩ : ∃ V, V = w2.drewN n3 := ⟨_, rfl⟩
  have HB3 := Lib.hid (show Bo w0 V d r s s F G by rw [hV]; exact HB2.out.no ((Kp.refl No w2).drewN n3))
  have HRD3 := Lib.hid (show Rd V V.heap.size a1 (N.map Value.string) by rw [hV]; exact HRD2.out)
  rw [← hV]
  have hu := Used_any V d s F HB3.out.dk
  have HU := Lib.hid hu
  (try simp only [decide_true])
  clear hV HT hu
  go_wp2_with fail
  refine HU.out.mono ?_
  rintro e w4 ⟨rfl, hk4⟩
  have HB4 := Lib.hid (HB3.out.no hk4)
  have HRD4 := Lib.hid ((HRD3.out.keep hk4 fun _ _ x => x).mono hk4.size (Nat.le_refl _))
  obtain ⟨rv, L, hR4, hpm, _⟩ := RRun.start HB4.out.rk
  have hru := rUsed_any w4 r s.room (leftOf s.fuse) rv L hR4.c
  rw [totF_perm hpm] at hru
  have hTb : totF s.files ≤ 1073741824 := by rw [← totF_perm hpm]; exact Nat.le_trans hR4.c.fits hR4.c.roomy
  obtain ⟨T, hT⟩ : ∃ T, T = totF s.files := ⟨_, rfl⟩
  rw [← hT] at hru hTb ⊢
  have HRU := Lib.hid hru
  clear hk4 hR4 hpm hru HU hT
  go_wp2_with fail
  refine HRU.out.mono ?_
  rintro e w5 ⟨rfl, hk5⟩
  have HB5 := Lib.hid (HB4.out.no hk5)
  have HRD5 := Lib.hid ((HRD4.out.keep hk5 fun _ _ x => x).mono hk5.size (Nat.le_refl _))
  clear hk5 HRU
  go_wp2_with fail
  go_loopw [6] (fun i wr => ∃ k : Nat, k ≤ N.length ∧ i = .int .i64 (k : Int) ∧ Hid (Kp No w5 wr)) (fun i _ => N.length - (intOf i).toNat)
  case atStart => exact ⟨0, Nat.zero_le _, rfl, Lib.hid (Kp.refl _ _)⟩
  case round =>
    obtain ⟨k, hk, rfl, HK⟩ := hrel
    by_cases hlt : k < N.length
    · have HBr := Lib.hid (HB5.out.no HK.out)
      have hrr := (HRD5.out.keep HK.out fun _ _ x => x).mono HK.out.size (Nat.le_refl _)
      obtain ⟨g, off, rfl, hg, _, hc⟩ := hrr.at_ (i := k) (u := .string N[k]) (by simp [hlt])
      have hin : ∃ y, gget s.files N[k] = some y := by
        have h1 : N[k] ∈ s.files.map (·.1) := HP.out.mem_iff.1 (List.getElem_mem hlt)
        cases hgg : gget s.files N[k] with
        | none => exact absurd h1 (gget_none_iff.1 hgg)
        | some y => exact ⟨y, rfl⟩
      obtain ⟨nm, hnm⟩ : ∃ nm, nm = N[k] := ⟨_, rfl⟩
      rw [← hnm] at hc hin
      obtain ⟨y, hy⟩ := hin
      have hrs : rdS s.files nm = (y.data, 0) := by unfold rdS; rw [hy]
      have hd := Read_any wr d s F HBr.out.dk nm
      unfold ReadPost at hd
      rw [hrs] at hd
      have hDs : y.data.length ≤ 1073741824 := by have := rd_small HBr.out.dk nm; rw [hrs] at this; exact this
      have HD := Lib.hid hd
      have HRS := Lib.hid hrs
      have HC := Lib.hid (show ∀ W, Kp No wr W → W.cell? ⟨g, off + k, none⟩ = some (.string nm) ∧ g < W.heap.size from fun W hW => ⟨(hW.cell (p := ⟨g, off + k, none⟩) hg fun x => x).trans hc, hW.lt hg⟩)
      clear hd hrs hnm hy
      go_wp2_with fail
      refine HD.out.mono ?_
      rintro e w6 ⟨v2, rfl, ho2, hk2, _, _⟩
      obtain ⟨a2, e2, rfl, _, _⟩ := ho2.rd
      have HO2 := Lib.hid ho2
      have HK6 := Lib.hid (HK.out.trans_same hk2)
      obtain ⟨hc6, hg6⟩ := HC.out w6 hk2
      have HB6 := Lib.hid (HBr.out.no hk2)
      have hr := rRead_any w6 r s G HB6.out.rk nm
      unfold RReadPost at hr
      rw [HRS.out] at hr
      have HR := Lib.hid hr
      clear ho2 hk2 hr HD hc hg hrr
      go_wp2_with fail
      refine HR.out.mono ?_
      rintro e w7 ⟨v3, rfl, ho3, hk3, _⟩
      obtain ⟨a3, e3, rfl, _, _⟩ := ho3.rd
      have HK7 := Lib.hid (HK6.out.trans_same hk3)
      have ho2 := HO2.out.keep hk3 fun _ _ x => x
      have hsm := same_any a2 a3 e2 e3 w7.heap.size w7.heap.size y.data y.data w7 ho2.rd' ho3.rd' (by omega)
      have HSM := Lib.hid hsm
      clear hsm ho3 hk3 ho2 HR hc6 hg6
      go_wp2_with fail
      refine HSM.out.mono ?_
      rintro e w8 ⟨rfl, n8, rfl⟩
      obtain ⟨V8, hV8⟩ : ∃ V, V = w7.drewN n8 := ⟨_, rfl⟩
      have HK8 := Lib.hid (show Kp No w5 V8 by rw [hV8]; exact HK7.out.drewN n8)
      rw [← hV8]
      (try simp only [decide_true])
      clear hV8 HSM
      go_wp2_with fail
      go_roundw
      case rel => exact ⟨k + 1, by omega, by go_num, HK8⟩
      case measure => simp [intOf]; omega
    · obtain rfl : k = N.length := by omega
      have HB9 := Lib.hid (HB5.out.no HK.out)
      clear hlt
      go_wp2_with fail
      go_ret
      exact ⟨rfl, HB9.out⟩
end Go.Proofs.Ytenidddbjobblaa
