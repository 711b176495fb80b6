/-
  The law TokenSees, walked.
-/
import Derived.Test.YtoblbjlabadcoaaDoorTokLaw2
namespace Go.Proofs.YtoblbjlabadcoaaDoor
open Go.RowKit Go.Mer

theorem and255 (x : Int) : ∃ q : Nat, q ≤ 255 ∧ bits .and .i64 x 255 = (q : Int) := by
  have h : (BitVec.ofInt 64 x &&& BitVec.ofInt 64 255).toNat ≤ 255 := by
    rw [BitVec.toNat_and]
    exact Nat.and_le_right
  refine ⟨_, h, ?_⟩
  show IntKind.i64.wrap (((BitVec.ofInt 64 x &&& BitVec.ofInt 64 255).toNat : Nat) : Int) = _
  exact IntWalk.i64_in _ (by omega)
/-- []byte(s), its block. -/
theorem conv_block (w : World) (s : ByteArray) : ∃ c cells W', (convert 9 45 (.string s)).run Tryd.prog w = .ok (.slice (some ⟨w.heap.size, 0, none⟩) s.size c) W' ∧ Kp No w W' ∧
    W'.heap[w.heap.size]? = some (.cells cells 5 (cells.size, cells.size + 1)) ∧ s.size ≤ cells.size ∧ cells.toList.take s.size = u8s s.data.toList := by
  refine ⟨_, _, _, run_bytes_of_string w 9 45 5 s Tryd.underlying9 Tryd.underlying45 Tryd.underlying5, ((Kp.refl _ _).drew).alloc _, heap_alloc_new w.drew _, ?_, ?_⟩
  · unfold bytesRow
    rw [Array.size_append, Array.size_map]
    exact Nat.le_add_right _ _
  · unfold bytesRow
    rw [Array.toList_append, List.take_append_of_le_length (by rw [Array.length_toList, Array.size_map]; exact Nat.le_refl _), List.take_of_length_le (by rw [Array.length_toList, Array.size_map]; exact Nat.le_refl _)]
    simp [u8s, u8]
theorem free_atF {w : World} {g lo hi : Nat} {cs : Array Value} {t : TypeId} (h : w.heap[g]? = some (.cells cs t (lo, hi))) {i : Nat} (hi : i < lo) : w.frozen? ⟨g, i, none⟩ = false := by
  simp [World.frozen?, h]
  omega
theorem cell_atF {w : World} {g : Nat} {cs : Array Value} {t : TypeId} {f : Nat × Nat} (h : w.heap[g]? = some (.cells cs t f)) (i : Nat) : w.cell? ⟨g, i, none⟩ = cs[i]? := cell_of_row w g i cs t f h
theorem set_atF {w : World} {g : Nat} {cs : Array Value} {t : TypeId} {f : Nat × Nat} (h : w.heap[g]? = some (.cells cs t f)) (i : Nat) (u : Value) : (w.setCell ⟨g, i, none⟩ u).heap[g]? = some (.cells (cs.setIfInBounds i u) t f) := by
  simp [World.setCell, Array.getElem?_modify, h]
theorem xor_ne {a b : UInt8} (h : b ≠ 0) : a ≠ a ^^^ b := fun e => h (by
  have e2 := congrArg (fun x => a ^^^ x) e
  simp only [← UInt8.xor_assoc, UInt8.xor_self] at e2
  simpa using e2.symm)
theorem noTok_turned {m c : Int} {p : Nat} {x : UInt8} (h : isSt m c = true) (hp : p < (Mer.tok m c).length) (hx : (Mer.tok m c)[p] ≠ x) : NoTok ((Mer.tok m c).set p x) := fun n d h' he => by
  have e1 : tokN (pk m c) = (Mer.tok m c).take p ++ (Mer.tok m c)[p] :: (Mer.tok m c).drop (p + 1) := by
    rw [List.getElem_cons_drop, List.take_append_drop]
    rfl
  have e2 : tokN (pk n d) = (Mer.tok m c).take p ++ x :: (Mer.tok m c).drop (p + 1) := by
    rw [show tokN (pk n d) = Mer.tok n d from rfl, he, List.set_eq_take_append_cons_drop, if_pos hp]
  exact hx (tokN_one (pk_lt h) (pk_lt h') e1 e2)
set_option maxRecDepth 100000 in
set_option maxHeartbeats 1000000 in
theorem Sees_any (m c at_ : Int) (b : UInt8) (w : World) (hL : LibV w) : Calls Tryd.prog 7 #[stv m c, .int .i64 at_, .int .u8 (b.toNat : Int)] w fun e w' => e = .returned (.bool true) ∧ Kp No w w' := by
  have HL := Lib.hid hL
  obtain ⟨wb, hwb⟩ : ∃ W, W = w.alloc (.cells #[.int .i64 m, .int .i64 c] 23) := ⟨_, rfl⟩
  have hkb : Kp No w wb := by rw [hwb]; exact (Kp.refl _ _).alloc _
  have HC := Lib.hid (fun W (hW : Kp No wb W) => box1 w m c 23 (hwb ▸ hW))
  have HB := Lib.hid hwb
  clear hwb hL
  by_cases hb0 : b = 0
  · subst hb0
    go_enter Tryd.func7, Tryd.ntmps7
    go_wp2_with fail
    rw [← HB.out]
    refine (known_any _ (HL.out.tab.keep hkb)).mono ?_
    rintro e w2 ⟨rfl, hk2⟩
    go_wp2_with fail
    go_ret
    exact ⟨rfl, hkb.trans_same hk2⟩
  · have hbn : ((b.toNat : Int) == 0) = false := by
      have : b.toNat ≠ 0 := fun h => hb0 (UInt8.toNat_inj.1 h)
      simp
      omega
    have HB0 := Lib.hid hb0
    clear hb0
    cases hA : isSt m c
    · have HA := Lib.hid hA
      clear hA
      go_enter Tryd.func7, Tryd.ntmps7
      go_wp2_with fail
      rw [← HB.out]
      refine (Print_no m c HA.out _).mono ?_
      rintro e w1 ⟨rfl, hk1⟩
      obtain ⟨c0, c1⟩ := HC.out w1 hk1
      go_wp2_with fail
      refine (rIs_any m c _).mono ?_
      rintro e w2 ⟨rfl, hk2⟩
      rw [HA.out]
      have hk2' := hkb.trans_same (hk1.trans_same hk2)
      clear c0 c1 hk1 hk2
      go_wp2_with fail
      refine (known_any _ (HL.out.tab.keep hk2')).mono ?_
      rintro e w3 ⟨rfl, hk3⟩
      go_wp2_with fail
      go_ret
      exact ⟨rfl, hk2'.trans_same hk3⟩
    · obtain ⟨S, hS⟩ : ∃ S, S = tokS m c := ⟨_, rfl⟩
      have hP := fun W (hW : Kp No w W) => Print_any m c hA W (HL.out.tab.keep hW)
      rw [← hS] at hP
      have hSs : S.size = 26 := by rw [hS]; exact tokS_size m c
      have HP := Lib.hid hP
      have HS := Lib.hid (And.intro hS hA)
      clear hP hS hA
      obtain ⟨q, hq, hand⟩ := and255 at_
      have hp26 : q % 26 < 26 := by omega
      go_enter Tryd.func7, Tryd.ntmps7
      go_wp2_with fail
      rw [← HB.out]
      refine (HP.out _ hkb).mono ?_
      rintro e w1 ⟨rfl, hk1⟩
      go_wp2_with fail
      obtain ⟨cp, cells, w2, hrun, hk2, hg, hsz, htk⟩ := conv_block w1 S
      rw [hrun]
      simp only [Result.andThen_ok]
      obtain ⟨p, hp⟩ : ∃ p, p = q % 26 := ⟨_, rfl⟩
      rw [← hp] at hp26
      have hpi : (q : Int) % 26 = (p : Int) := by omega
      obtain ⟨D, hD⟩ : ∃ D, D = S.data.toList := ⟨_, rfl⟩
      have hDl : D.length = 26 := by rw [hD, Array.length_toList]; exact hSs
      rw [hSs, ← hD] at htk
      rw [hSs] at hsz
      have hpD : p < D.length := by omega
      have hcp : w2.cell? ⟨w1.heap.size, p, none⟩ = some (.int .u8 (D[p].toNat : Int)) := by
        rw [cell_atF hg]
        have e := congrArg (fun l : List Value => l[p]?) htk
        simp only [u8s_get?, List.getElem?_take, hp26, if_true, List.getElem?_eq_getElem hpD, Option.map_some] at e
        simpa [u8] using e
      have hfp := free_atF hg (i := p) (by omega)
      obtain ⟨x, hx⟩ : ∃ x, x = D[p] ^^^ b := ⟨_, rfl⟩
      have hxo : bits .xor .u8 (D[p].toNat : Int) (b.toNat : Int) = (x.toNat : Int) := by
        rw [bits_xor (k := .u8) rfl (by have := D[p].toNat_lt; show _ < 2 ^ 8; omega) (by have := b.toNat_lt; show _ < 2 ^ 8; omega), hx, UInt8.toNat_xor]
      obtain ⟨dp, hdp⟩ : ∃ dp, dp = D[p].toNat := ⟨_, rfl⟩
      rw [← hdp] at hcp hxo
      obtain ⟨xv, hxv⟩ : ∃ xv, xv = x.toNat := ⟨_, rfl⟩
      rw [← hxv] at hxo
      have HX := Lib.hid (And.intro hx hxv)
      have HDS := Lib.hid (And.intro hD (And.intro htk hg))
      have HR := Lib.hid hrun
      clear hx hxv hdp hD htk hg hrun hp
      go_wp2_with fail
      obtain ⟨hD, htk, hg⟩ := HDS.out
      obtain ⟨hx, hxv⟩ := HX.out
      have hk3 : Kp No w (w2.setCell ⟨w1.heap.size, p, none⟩ (.int .u8 (xv : Int))) := ((hkb.trans_same hk1).trans_same hk2).setCell (.inr (hkb.trans_same hk1).size) _
      have hg3 := set_atF hg p (.int .u8 (xv : Int))
      obtain ⟨w3, hw3⟩ : ∃ W, W = w2.setCell ⟨w1.heap.size, p, none⟩ (.int .u8 (xv : Int)) := ⟨_, rfl⟩
      rw [← hw3] at hk3 hg3 ⊢
      have htk3 : (cells.setIfInBounds p (.int .u8 (xv : Int))).toList.take 26 = u8s (D.set p x) := by
        rw [Array.toList_setIfInBounds, List.take_set, htk, hxv]
        show (D.map u8).set p (u8 x) = (D.set p x).map u8
        rw [List.map_set]
      have hEl : (D.set p x).length = 26 := by rw [List.length_set]; exact hDl
      have hcv := run_convert_bytes_back (P := Tryd.prog) w3 45 9 5 ⟨w1.heap.size, 0, none⟩ cp (D.set p x) Tryd.underlying45 Tryd.underlying5 Tryd.underlying9 (fun j hj => by
        rw [Addr.add_lit, cell_atF hg3, Nat.zero_add]
        have e := congrArg (fun l : List Value => l[j]?) htk3
        have hj26 : j < 26 := by omega
        simp only [u8s_get?, List.getElem?_take, hj26, if_true, List.getElem?_eq_getElem hj, Option.map_some] at e
        rw [← Array.getElem?_toList]
        simpa only [u8] using e)
      rw [hEl] at hcv
      rw [hcv]
      simp only [Result.andThen_ok]
      obtain ⟨E, hE⟩ : ∃ E : ByteArray, E = ⟨(D.set p x).toArray⟩ := ⟨_, rfl⟩
      have hno : NoTok E.data.toList := by
        have hDt : D = Mer.tok m c := by rw [hD, HS.out.1, tokS_data]
        have hne : D[p] ≠ x := by rw [hx]; exact xor_ne HB0.out
        subst hDt
        rw [hE]
        exact noTok_turned HS.out.2 hpD hne
      have hParse := Parse_any E w3 (HL.out.keep hk3)
      rw [← hE]
      have HPar := Lib.hid (And.intro hno hParse)
      clear hcv hE hno hParse hD htk hg hg3 hw3 htk3 hEl hx hxv hcp hfp hxo hpi hand
      go_wp2_with fail
      refine (HPar.out.2).mono ?_
      rintro e w4 ⟨⟨n, d, h', he, _⟩ | ⟨_, rfl⟩, hk4⟩
      · exact absurd he (HPar.out.1 n d h')
      have hk4' : Kp No w (w4.alloc (.cells #[.int .i64 0, .int .i64 0] 27)) := (hk3.trans_same hk4).alloc _
      go_wp2_with fail
      refine (known_any _ (HL.out.tab.keep hk4')).mono ?_
      rintro e w5 ⟨rfl, hk5⟩
      go_wp2_with fail
      go_ret
      exact ⟨rfl, hk4'.trans_same hk5⟩
end Go.Proofs.YtoblbjlabadcoaaDoor
