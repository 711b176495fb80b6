/-
  disk's law DiskRoom, walked: it answers true.
-/
import Derived.Test.YtenidddbjobblaaBytes
namespace Go.Proofs.Ytenidddbjobblaa
open Go.RowKit Go.Mer

/-! ### The plain law -/
theorem rdS_write (l : Files) (n : ByteArray) (p : List UInt8) : rdS (wrFiles l n p) n = ((rdS l n).1 ++ p, 0) := by
  unfold wrFiles rdS
  cases h : gget l n with
  | some x => simp only [gget_gset]
  | none => simp only [gget_gset]; rfl
theorem rdS_len (l : Files) (n : ByteArray) : (rdS l n).1.length ≤ totF l := by
  unfold rdS
  cases h : gget l n with
  | some x => exact mem_len (p := (n, x)) (gget_mem h)
  | none => simp
theorem write_fits {s : DSt} {n : ByteArray} {p : List UInt8} (hf : s.fuse = none) (hn : nameOk n = true) (hl : s.files.length < 4096) (hr : totF s.files + p.length ≤ s.room) :
    wrS s n p = (0, ⟨s.room, none, wrFiles s.files n p⟩) := by
  have hc : wrCode s n p = 0 := by
    unfold wrCode
    rw [if_neg]
    rintro (h | ⟨_, h⟩) <;> omega
  have hn' : [n].all nameOk = true := by simpa using hn
  unfold wrS five
  rw [if_neg (by rw [hf]; simp), if_pos hn', hc, if_pos rfl, hf]
  rfl
theorem write_unfits {s : DSt} {n : ByteArray} {p : List UInt8} (hf : s.fuse = none) (hn : nameOk n = true) (hr : s.room < totF s.files + p.length) : wrS s n p = (6, s) := by
  have hc : wrCode s n p = 6 := by
    unfold wrCode
    rw [if_pos (.inl hr)]
  have hn' : [n].all nameOk = true := by simpa using hn
  unfold wrS five
  rw [if_neg (by rw [hf]; simp), if_pos hn', hc, if_neg (by decide)]
theorem wrFiles_len (l : Files) (n : ByteArray) (p : List UInt8) : (wrFiles l n p).length ≤ l.length + 1 := by
  unfold wrFiles
  split <;> (unfold gset; split <;> simp)
theorem DiskAt.tot {W : World} {d : Nat} {s : DSt} {F : Nat → Prop} (h : DiskAt W d s F) : totF s.files ≤ s.room := by
  obtain ⟨_, _, _, _, hC, _, hs, _⟩ := h
  rw [hs]
  exact hC.fits


set_option maxRecDepth 100000 in
set_option maxHeartbeats 2000000 in
theorem room_any (w : World) (room : Int) (a : Option Addr) (cap : Nat) (R : List Row) (hR : RowsAt w a R) (hl : R.length ≤ 140737488355328) :
    Calls Try.prog 4 #[.int .i64 room, .slice a R.length cap] w fun e w' => e = .returned (.bool true) ∧ Kp No w w' := by
  go_enter Try.func4, Try.ntmps4
  go_wp2_with fail
  go_loopg [5, 6] R.length (fun g n i wr => ∃ j : Nat, j ≤ R.length ∧ g = R.length - j ∧ i = .int .i64 j ∧ n = .int .i64 (wt (R.take j)) ∧ wr = w)
  case atStart => exact ⟨0, Nat.zero_le _, rfl, rfl, rfl, rfl⟩
  case round =>
    obtain ⟨j, hj, rfl, rfl, rfl, rfl⟩ := hrel
    by_cases hlt : j < R.length
    · obtain ⟨g0, off0, rfl, hg0, hc0, hr0, hm0⟩ := hR.at_ (Kp.refl _ _) hlt
      have hst := Lib.hid (wt_step R hlt)
      by_cases hn : wt (R.take j) ≤ 8000
      · go_wp2_with fail
        go_roundg (R.length - (j + 1))
        case measure => omega
        case rel => exact ⟨j + 1, by omega, rfl, by go_num, by rw [hst.out]; go_num, rfl⟩
      · go_wp2_with fail
        refine (known_any _).mono ?_
        rintro e w' ⟨rfl, hk⟩
        go_wp2_with fail
        go_ret
        exact ⟨rfl, hk⟩
    · by_cases hn : wt (R.take j) ≤ 8000
      · obtain rfl : j = R.length := by omega
        rw [List.take_length] at hn ⊢
        have hlw := wt_len R
        clear hlt hj
        rename World => w0
        have HR := Lib.hid hR
        clear hR
        by_cases hneg : room < 0
        · go_wp2_with fail
          refine (known_any _).mono ?_
          rintro e w' ⟨rfl, hk⟩
          go_wp2_with fail
          go_ret
          exact ⟨rfl, hk⟩
        by_cases hbig : 5000 < room
        · go_wp2_with fail
          refine (known_any _).mono ?_
          rintro e w' ⟨rfl, hk⟩
          go_wp2_with fail
          go_ret
          exact ⟨rfl, hk⟩
        by_cases hmany : 60 < R.length
        · go_wp2_with fail
          refine (known_any _).mono ?_
          rintro e w' ⟨rfl, hk⟩
          go_wp2_with fail
          go_ret
          exact ⟨rfl, hk⟩
        obtain ⟨rm, rfl⟩ : ∃ N : Nat, room = (N : Int) := ⟨room.toNat, by omega⟩
        go_wp2_with fail
        refine (new_any rm _ (by omega)).mono ?_
        rintro e W1 ⟨rfl, hk1, F1, hD1, hF1⟩
        have M1 : Mine w0 W1 (w0.heap.size + 1) ⟨rm, none, []⟩ F1 := ⟨hk1, hD1, hF1⟩
        clear hk1 hD1 hF1
        obtain ⟨d, hd⟩ : ∃ d, d = w0.heap.size + 1 := ⟨_, rfl⟩
        rw [← hd] at M1 ⊢
        clear hd
        go_wp2_with fail
        go_loopg [9] R.length (fun g i wi => ∃ (j : Nat) (s : DSt) (F : Nat → Prop), j ≤ R.length ∧ g = R.length - j ∧ i = .int .i64 j ∧ Hid (Mine w0 wi d s F) ∧ Hid (s.room = rm ∧ s.fuse = none ∧ s.files.length ≤ j))
        case atStart => exact ⟨0, ⟨rm, none, []⟩, F1, Nat.zero_le _, rfl, rfl, M1, rfl, rfl, Nat.le_refl _⟩
        case round =>
          clear M1
          obtain ⟨j, s, F, hj, rfl, rfl, hM, hI⟩ := hrel
          by_cases hlt : j < R.length
          · obtain ⟨g0, off0, rfl, hg0, hc0, hr0, hm0⟩ := HR.out.at_ (Kp.refl _ _) hlt
            have hg0r : g0 < wr.heap.size := hM.out.kp.lt hg0
            have hwl := wt_take R (j + 1)
            rw [wt_step R hlt] at hwl
            have htot := hM.out.disk.tot
            obtain ⟨hI1, hI2, hI3⟩ := hI.out
            rw [hI1] at htot
            obtain ⟨nm, hnm⟩ : ∃ nm : ByteArray, nm = ⟨#[102, UInt8.ofNat (j % 3)]⟩ := ⟨_, rfl⟩
            have hnok : nameOk nm = true := by rw [hnm]; rfl
            have hjm : ((UInt8.ofNat (j % 3)).toNat : Int) = (j : Int) % 3 := by
              rw [UInt8.toNat_ofNat_of_lt' (by show j % 3 < 256; omega)]
              omega
            have hcv : (convert 23 9 (.slice (some ⟨wr.heap.size, 0, none⟩) 2 2)).run Try.prog (wr.alloc (.cells #[.int .u8 102, .int .u8 ((j : Int) % 3)] 5)) = .ok (.string nm) (wr.alloc (.cells #[.int .u8 102, .int .u8 ((j : Int) % 3)] 5)) := by
              have := run_convert_bytes_back (P := Try.prog) (wr.alloc (.cells #[.int .u8 102, .int .u8 ((j : Int) % 3)] 5)) 23 9 5 ⟨wr.heap.size, 0, none⟩ 2 [102, UInt8.ofNat (j % 3)] Try.underlying23 Try.underlying5 Try.underlying9 (fun i hi => by
                rw [add_lit', cell_at (heap_alloc_new wr _)]
                have : i = 0 ∨ i = 1 := by simp at hi; omega
                rcases this with rfl | rfl
                · rfl
                · show some (Value.int .u8 ((j : Int) % 3)) = some (Value.int .u8 (((UInt8.ofNat (j % 3)).toNat : Nat) : Int))
                  rw [hjm])
              rw [hnm]
              exact this
            clear hnm hjm
            go_wp2_with fail
            obtain ⟨W2, hW2⟩ : ∃ W, W = wr.alloc (.cells #[.int .u8 102, .int .u8 ((j : Int) % 3)] 5) := ⟨_, rfl⟩
            have M2 : Mine w0 W2 d s F := by rw [hW2]; exact hM.out.no ((Kp.refl _ _).alloc _)
            rw [← hW2]
            clear hW2 hcv hM
            obtain ⟨was, c0, hwas⟩ : ∃ was c0, rdS s.files nm = (was, c0) := ⟨_, _, rfl⟩
            have hwasl := rdS_len s.files nm
            rw [hwas] at hwasl
            simp only at hwasl
            have HRd := Lib.hid (Read_any W2 d s F M2.disk nm)
            refine (HRd.out).mono ?_
            intro e W3 h
            obtain ⟨aw, cw, rfl, ho3, hk3, hb3⟩ := h.out hwas
            have T3 := M2.two.fst hk3 ho3 hb3
            clear h HRd ho3 hk3 hb3 M2
            go_wp2_with fail
            have HU := Lib.hid (Used_any W3 d s F T3.mine.disk)
            refine (HU.out).mono ?_
            rintro e W4 ⟨rfl, hk4⟩
            have T4 := T3.no hk4
            have hg4 : g0 < W4.heap.size := T4.mine.kp.lt hg0
            obtain ⟨g1, off1, e1, _, hc4, hr4, _⟩ := HR.out.at_ T4.mine.kp hlt
            injection e1 with e1
            injection e1 with e1 e2
            subst e1; subst e2
            have HW := Lib.hid (Write_any W4 d s F T4.mine.disk nm R[j].a R[j].cap R[j].data (hr4.mono T4.mine.kp.size (Nat.le_refl _)) hm0)
            have HT4 := Lib.hid T4
            have HH := Lib.hid (And.intro hI1 (And.intro hI2 (And.intro hnok hwas)))
            clear HU hk4 T3 T4 hr4 hc0 hr0 hI1 hI2 hnok hwas
            by_cases hfit : totF s.files + R[j].data.length ≤ rm
            · obtain ⟨hI1, hI2, hnok, hwas⟩ := HH.out
              have hws := write_fits (p := R[j].data) hI2 hnok (by omega) (by omega)
              have hrd := rdS_write s.files nm R[j].data
              rw [hwas] at hrd
              have HWS := Lib.hid hws
              have HRS := Lib.hid hrd
              clear hws hrd hI1 hI2 hnok hwas
              go_wp2_with fail
              refine (HW.out).mono ?_
              intro e W5 h
              obtain ⟨rfl, F5, T5⟩ := HT4.out.step h HWS.out
              clear h HW HT4 hc4
              go_wp2_with fail
              have HRd := Lib.hid (Read_any W5 d _ F5 T5.mine.disk nm)
              refine (HRd.out).mono ?_
              intro e W6 h
              obtain ⟨ab, cb, rfl, ho6, hk6, hb6⟩ := h.out HRS.out
              have T6 := T5.cpy hk6 ho6 hb6
              obtain ⟨X, hX⟩ : ∃ X, X = was ++ R[j].data := ⟨_, rfl⟩
              have hXl : X.length ≤ 16000 := by rw [hX, List.length_append]; omega
              rw [← hX] at T6 ⊢
              have hg6 : g0 < W6.heap.size := T6.mine.kp.lt hg0
              have HX := Lib.hid hX
              have HT6 := Lib.hid T6
              clear h HRd T5 ho6 hk6 hb6 hX T6
              have hcW : ∀ W, Kp No W6 W → W.cell? ⟨g0, off0 + j, none⟩ = some (.slice R[j].a R[j].data.length R[j].cap) := fun W hW => by
                obtain ⟨g1, off1, e1, _, hc9, _⟩ := HR.out.at_ (HT6.out.mine.kp.trans_same hW) hlt
                injection e1 with e1
                injection e1 with e1 e2
                subst e1; subst e2
                exact hc9
              have hg9 : ∀ W, Kp No W6 W → g0 < W.heap.size := fun W hW => hW.lt hg6
              have hc6 := hcW W6 (Kp.refl _ _)
              have htot5 := HT6.out.mine.disk.tot
              simp only at htot5
              rw [HH.out.1] at htot5
              obtain ⟨U, hU⟩ : ∃ U, totF (wrFiles s.files nm R[j].data) = U := ⟨_, rfl⟩
              rw [hU] at htot5
              have hdu : decide (rm < U) = false := by simp only [decide_eq_false_iff_not]; omega
              have HCW := Lib.hid hcW
              clear hcW
              have hdec : decide ((totF s.files : Int) + (R[j].data.length : Int) ≤ (rm : Int)) = true := by simp only [decide_eq_true_eq]; omega
              go_wp2_with fail
              clear hc6
              have hcW := HCW.out
              refine wp_region_held' (Kp No _) [0,0,0,0,0,0,2,0,0,0,0,0,0,0,0,0,1,0,0,0,2,0,0,0,0,0,0,0,0,0,2,0,2,0,0,0,0,2,1,0,0,0] [0,1,2,3,4,5,7,6,8,9,10,11,12,13,14,15,16,17,18,19,21,20,22,23,24,25,26,27,28,29,31,33,34,35,36,30,32,37,38,39,40,41] (by kernel_rfl) (by kernel_rfl) (fun _ n h => h.drewN n) (Kp.refl _ _) ?_
              repeat (first
                | (apply wpOrd_skip rfl (by decide) rfl; (focus (go_simp; rfl)))
                | (apply wpOrd_pure rfl rfl rfl; (focus (intro _ _; go_simp; (try go_ints); rfl)); (focus (go_simp; rfl)))
                | (apply wpOrd_read rfl rfl rfl; (focus (intro _; go_simp; (try go_ints); rfl)); (focus (go_simp; rfl))))
              refine wpOrd_eff rfl rfl (fun n6 => ?_)
              have hu7 := Used_any (W6.drewN n6) d _ _ (HT6.out.no ((Kp.refl _ _).drewN n6)).mine.disk
              (simp only at hu7; rw [hU] at hu7)
              have HU7 := Lib.hid hu7
              clear hu7
              go_wp2_with fail
              refine (HU7.out).mono ?_
              rintro e W7 ⟨rfl, hk7⟩
              go_wp2_with fail
              have hk67 : Kp No W6 W7 := hk7.of_drewN
              refine ⟨hk67, ?_⟩
              clear HU7 hk7
              repeat (first
                | (apply wpOrd_skip rfl (by decide) rfl; (focus (go_simp; rfl)))
                | (apply wpOrd_pure rfl rfl rfl; (focus (intro _ _; go_simp; (try go_ints); rfl)); (focus (go_simp; rfl)))
                | (apply wpOrd_read rfl rfl rfl; (focus (intro _; go_simp; (try go_ints); rfl)); (focus (go_simp; rfl))))
              refine wpOrd_shut rfl rfl rfl (by go_simp; try rfl) (fun n20 => ?_)
              refine ⟨hk67.drewN n20, ?_⟩
              repeat (first
                | (apply wpOrd_skip rfl (by decide) rfl; (focus (go_simp; rfl)))
                | (apply wpOrd_pure rfl rfl rfl; (focus (intro _ _; go_simp; (try go_ints); rfl)); (focus (go_simp; rfl)))
                | (apply wpOrd_read rfl rfl rfl; (focus (intro _; go_simp; (try go_ints); rfl)); (focus (go_simp; rfl))))
              refine wpOrd_eff rfl rfl (fun n30 => ?_)
              go_wp2_with fail
              have hkA : Kp No W6 ((W7.drewN (n20 + n30)).alloc (.cells #[] 5)) := (hk67.drewN (n20 + n30)).alloc _
              refine ⟨hkA, ?_⟩
              have own0 : Own ((W7.drewN (n20 + n30)).alloc (.cells #[] 5)) 5 1 (.slice (some ⟨W7.heap.size, 0, none⟩) 0 0) 0 [] :=
                Own.made (W7.drewN (n20 + n30)) 5 1 #[] 0 0 (Nat.le_refl _) (by simp [maxLen]) (by simp) rfl
              obtain ⟨WA, hWA⟩ : ∃ W, W = (W7.drewN (n20 + n30)).alloc (.cells #[] 5) := ⟨_, rfl⟩
              rw [← hWA] at hkA own0 ⊢
              clear hWA
              repeat (first
                | (apply wpOrd_skip rfl (by decide) rfl; (focus (go_simp; rfl)))
                | (apply wpOrd_pure rfl rfl rfl; (focus (intro _ _; go_simp; (try go_ints); rfl)); (focus (go_simp; rfl)))
                | (apply wpOrd_read rfl rfl rfl; (focus (intro _; go_simp; (try go_ints); rfl)); (focus (go_simp; rfl))))
              refine wpOrd_eff rfl rfl (fun n32 => ?_)
              obtain ⟨a9, c9, W9, hrun9, ho9, hk9, hb9⟩ := cpy_bytes' (WA.drewN n32) W7.heap.size (own0.drewN n32) was aw cw (HT6.out.o1.keep (hkA.drewN n32) fun _ _ x => x).rd' (by omega)
              have hs7 := hk67.size
              have hsA := hkA.size
              have hk69 : Kp No W6 W9 := (hkA.drewN n32).trans hk9 (fun k hk hg => by have hg' : k = W7.heap.size := hg; omega)
              refine wpList_append_wanted rfl rfl rfl rfl hrun9 (wpList_nil ⟨rfl, hk69, ?_⟩)
              have HO9 := Lib.hid ho9
              have HB9 := Lib.hid hb9
              clear hrun9 ho9 hk9 hb9 own0
              repeat (first
                | (apply wpOrd_skip rfl (by decide) rfl; (focus (go_simp; rfl)))
                | (apply wpOrd_pure rfl rfl rfl; (focus (intro _ _; go_simp; (try go_ints); rfl)); (focus (go_simp; rfl)))
                | (apply wpOrd_read rfl rfl rfl; (focus (intro _; go_simp; (try go_ints); rfl)); (focus (go_simp; rfl))))
              refine wpOrd_eff rfl rfl (fun n37 => ?_)
              obtain ⟨g1, off1, e1, _, _, hr9, _⟩ := HR.out.at_ (HT6.out.mine.kp.trans_same (hk69.drewN n37)) hlt
              obtain ⟨aX, cX, WX, hrunX, hoX, hkX, _⟩ := app_bytes (W9.drewN n37) _ was R[j].data (HO9.out.drewN n37) R[j].a R[j].cap (hr9.mono (HT6.out.mine.kp.trans_same (hk69.drewN n37)).size (Nat.le_refl _)) (by omega)
              rw [← HX.out] at hrunX hoX
              have hk6X : Kp No W6 WX := (hk69.drewN n37).trans hkX (fun k hk hv => by
                rcases HB9.out k hv with h | h
                · omega
                · have h' : WA.heap.size ≤ k := h
                  omega)
              have hrb := (HT6.out.o2.keep hk6X fun _ _ x => x).rd'
              have hsm : ∀ n, Calls Try.prog 16 #[.slice ab X.length cb, .slice aX X.length cX] (WX.drewN n) fun e w' => e = .returned (.bool true) ∧ ∃ m, w' = (WX.drewN n).drewN m := fun n => by
                have := same_any ab aX cb cX _ _ X X (WX.drewN n) (hrb.drewN n) (hoX.rd'.drewN n) (by omega)
                rw [decide_eq_true rfl] at this
                exact this
              refine wpList_append_wanted rfl rfl rfl rfl hrunX (wpList_nil ⟨rfl, hk6X, ?_⟩)
              have HSM := Lib.hid hsm
              clear hrunX hoX hkX hrb hsm hr9 e1
              repeat (first
                | (apply wpOrd_skip rfl (by decide) rfl; (focus (go_simp; rfl)))
                | (apply wpOrd_pure rfl rfl rfl; (focus (intro _ _; go_simp; (try go_ints); rfl)); (focus (go_simp; rfl)))
                | (apply wpOrd_read rfl rfl rfl; (focus (intro _; go_simp; (try go_ints); rfl)); (focus (go_simp; rfl))))
              refine wpOrd_call rfl rfl rfl (fun n => (by go_simp; try rfl)) HSM.out (by go_simp; try rfl) ?_
              repeat (first
                | (apply wpOrd_skip rfl (by decide) rfl; (focus (go_simp; rfl)))
                | (apply wpOrd_pure rfl rfl rfl; (focus (intro _ _; go_simp; (try go_ints); rfl)); (focus (go_simp; rfl)))
                | (apply wpOrd_read rfl rfl rfl; (focus (intro _; go_simp; (try go_ints); rfl)); (focus (go_simp; rfl))))
              refine wpOrd_nil (fun nq => ?_)
              go_wp2_with fail
              go_roundg (R.length - (j + 1))
              case measure => omega
              case rel =>
                obtain ⟨hI1, hI2, _, _⟩ := HH.out
                exact ⟨j + 1, _, F5, by omega, rfl, by go_num, (HT6.out.mine.no (hk6X.drewN nq)), hI1, rfl, Nat.le_trans (wrFiles_len _ _ _) (by omega)⟩
            · obtain ⟨hI1, hI2, hnok, hwas⟩ := HH.out
              have HWS := Lib.hid (write_unfits (p := R[j].data) hI2 hnok (by omega))
              clear hI1 hI2 hnok hwas
              go_wp2_with fail
              refine (HW.out).mono ?_
              intro e W5 h
              obtain ⟨rfl, F5, T5⟩ := HT4.out.step h HWS.out
              clear h HW HT4 hc4
              go_wp2_with fail
              have HRd := Lib.hid (Read_any W5 d _ F5 T5.mine.disk nm)
              refine (HRd.out).mono ?_
              intro e W6 h
              obtain ⟨ab, cb, rfl, ho6, hk6, hb6⟩ := h.out HH.out.2.2.2
              have T6 := T5.cpy hk6 ho6 hb6
              have hg6 : g0 < W6.heap.size := T6.mine.kp.lt hg0
              have HT6 := Lib.hid T6
              clear h HRd T5 ho6 hk6 hb6 T6
              have hc6 : W6.cell? ⟨g0, off0 + j, none⟩ = some (.slice R[j].a R[j].data.length R[j].cap) := by
                obtain ⟨g1, off1, e1, _, hc9, _⟩ := HR.out.at_ HT6.out.mine.kp hlt
                injection e1 with e1
                injection e1 with e1 e2
                subst e1; subst e2
                exact hc9
              have hdec : decide ((totF s.files : Int) + (R[j].data.length : Int) ≤ (rm : Int)) = false := by simp only [decide_eq_false_iff_not]; omega
              have hdu : decide (rm < totF s.files) = false := by simp only [decide_eq_false_iff_not]; omega
              go_wp2_with fail
              clear hc6
              refine wp_region_held' (Kp No _) [0,0,0,0,0,0,2,0,0,0,0,0,0,0,0,0,1,0,0,0,2,0,0,0,0,0,0,0,0,0,2,0,2,0,0,0,0,2,1,0,0,0] [0,1,2,3,4,5,7,6,8,9,10,11,12,13,14,15,16,17,18,19,21,20,22,23,24,25,26,27,28,29,31,33,34,35,36,30,32,37,38,39,40,41] (by kernel_rfl) (by kernel_rfl) (fun _ n h => h.drewN n) (Kp.refl _ _) ?_
              repeat (first
                | (apply wpOrd_skip rfl (by decide) rfl; (focus (go_simp; rfl)))
                | (apply wpOrd_pure rfl rfl rfl; (focus (intro _ _; go_simp; (try go_ints); rfl)); (focus (go_simp; rfl)))
                | (apply wpOrd_read rfl rfl rfl; (focus (intro _; go_simp; (try go_ints); rfl)); (focus (go_simp; rfl))))
              refine wpOrd_eff rfl rfl (fun n6 => ?_)
              have hu7 := Used_any (W6.drewN n6) d _ _ (HT6.out.no ((Kp.refl _ _).drewN n6)).mine.disk
              skip
              have HU7 := Lib.hid hu7
              clear hu7
              go_wp2_with fail
              refine (HU7.out).mono ?_
              rintro e W7 ⟨rfl, hk7⟩
              go_wp2_with fail
              have hk67 : Kp No W6 W7 := hk7.of_drewN
              refine ⟨hk67, ?_⟩
              clear HU7 hk7
              repeat (first
                | (apply wpOrd_skip rfl (by decide) rfl; (focus (go_simp; rfl)))
                | (apply wpOrd_pure rfl rfl rfl; (focus (intro _ _; go_simp; (try go_ints); rfl)); (focus (go_simp; rfl)))
                | (apply wpOrd_read rfl rfl rfl; (focus (intro _; go_simp; (try go_ints); rfl)); (focus (go_simp; rfl))))
              have hsm : ∀ n, Calls Try.prog 16 #[.slice ab was.length cb, .slice aw was.length cw] (W7.drewN n) fun e w' => e = .returned (.bool true) ∧ ∃ m, w' = (W7.drewN n).drewN m := fun n => by
                have := same_any ab aw cb cw _ _ was was (W7.drewN n) ((HT6.out.o2.keep hk67 fun _ _ x => x).rd'.drewN n) ((HT6.out.o1.keep hk67 fun _ _ x => x).rd'.drewN n) (by omega)
                rw [decide_eq_true rfl] at this
                exact this
              have HSM := Lib.hid hsm
              clear hsm
              refine wpOrd_call rfl rfl rfl (fun n => (by go_simp; try rfl)) HSM.out (by go_simp; try rfl) ?_
              repeat (first
                | (apply wpOrd_skip rfl (by decide) rfl; (focus (go_simp; rfl)))
                | (apply wpOrd_pure rfl rfl rfl; (focus (intro _ _; go_simp; (try go_ints); rfl)); (focus (go_simp; rfl)))
                | (apply wpOrd_read rfl rfl rfl; (focus (intro _; go_simp; (try go_ints); rfl)); (focus (go_simp; rfl))))
              refine wpOrd_eff rfl rfl (fun n20 => ?_)
              have HU8 := Lib.hid (Used_any (W7.drewN n20) d _ _ (HT6.out.no (hk67.drewN n20)).mine.disk)
              go_wp2_with fail
              refine (HU8.out).mono ?_
              rintro e W8 ⟨rfl, hk8⟩
              go_wp2_with fail
              have hk68 : Kp No W6 W8 := hk67.trans_same hk8.of_drewN
              refine ⟨hk68, ?_⟩
              clear HU8 hk8 HSM
              repeat (first
                | (apply wpOrd_skip rfl (by decide) rfl; (focus (go_simp; rfl)))
                | (apply wpOrd_pure rfl rfl rfl; (focus (intro _ _; go_simp; (try go_ints); rfl)); (focus (go_simp; rfl)))
                | (apply wpOrd_read rfl rfl rfl; (focus (intro _; go_simp; (try go_ints); rfl)); (focus (go_simp; rfl))))
              refine wpOrd_shut rfl rfl rfl (by go_simp; try rfl) (fun n30 => ?_)
              refine ⟨hk68.drewN n30, ?_⟩
              repeat (first
                | (apply wpOrd_skip rfl (by decide) rfl; (focus (go_simp; rfl)))
                | (apply wpOrd_pure rfl rfl rfl; (focus (intro _ _; go_simp; (try go_ints); rfl)); (focus (go_simp; rfl)))
                | (apply wpOrd_read rfl rfl rfl; (focus (intro _; go_simp; (try go_ints); rfl)); (focus (go_simp; rfl))))
              refine wpOrd_shut rfl rfl rfl (by go_simp; try rfl) (fun n32 => ?_)
              refine ⟨(hk68.drewN n30).drewN n32, ?_⟩
              repeat (first
                | (apply wpOrd_skip rfl (by decide) rfl; (focus (go_simp; rfl)))
                | (apply wpOrd_pure rfl rfl rfl; (focus (intro _ _; go_simp; (try go_ints); rfl)); (focus (go_simp; rfl)))
                | (apply wpOrd_read rfl rfl rfl; (focus (intro _; go_simp; (try go_ints); rfl)); (focus (go_simp; rfl))))
              refine wpOrd_shut rfl rfl rfl (by go_simp; try rfl) (fun n37 => ?_)
              refine ⟨((hk68.drewN n30).drewN n32).drewN n37, ?_⟩
              repeat (first
                | (apply wpOrd_skip rfl (by decide) rfl; (focus (go_simp; rfl)))
                | (apply wpOrd_pure rfl rfl rfl; (focus (intro _ _; go_simp; (try go_ints); rfl)); (focus (go_simp; rfl)))
                | (apply wpOrd_read rfl rfl rfl; (focus (intro _; go_simp; (try go_ints); rfl)); (focus (go_simp; rfl))))
              refine wpOrd_nil (fun nq => ?_)
              go_wp2_with fail
              go_roundg (R.length - (j + 1))
              case measure => omega
              case rel =>
                obtain ⟨hI1, hI2, _, _⟩ := HH.out
                exact ⟨j + 1, s, F5, by omega, rfl, by go_num, (HT6.out.mine.no (hk68.drewN _)), hI1, hI2, by omega⟩
          · go_wp2_with fail
            refine (known_any _).mono ?_
            rintro e w' ⟨rfl, hk⟩
            go_wp2_with fail
            go_ret
            exact ⟨rfl, hM.out.kp.trans_same hk⟩
      · go_wp2_with fail
        refine (known_any _).mono ?_
        rintro e w' ⟨rfl, hk⟩
        go_wp2_with fail
        go_ret
        exact ⟨rfl, hk⟩
end Go.Proofs.Ytenidddbjobblaa
