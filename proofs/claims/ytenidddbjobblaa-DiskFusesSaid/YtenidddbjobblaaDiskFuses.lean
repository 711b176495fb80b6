/-
  disk's law DiskFuses, walked: it answers true.
-/
import Derived.Test.YtenidddbjobblaaDiskKnown
import Derived.Test.YtenidddbjobblaaArgs
namespace Go.Proofs.Ytenidddbjobblaa
open Go.RowKit Go.Mer

/-! ### The count of what is handed in: more than is looked at, or all of it -/

/-! ### The plain law -/
theorem nameF : nameOk ⟨#[102]⟩ = true := rfl
structure InvF (N j b : Nat) (s : DSt) : Prop where
  room : s.room = 1048576
  fuse : s.fuse = some (N - j)
  files : s.files = [] ∨ ∃ x, s.files = [(⟨#[102]⟩, x)]
  tot : totF s.files ≤ b
theorem InvF.write {N j b : Nat} {s : DSt} (h : InvF N j b s) (p : List UInt8) (hb : b + p.length ≤ 1048576) :
    ∃ s', wrS s ⟨#[102]⟩ p = (if j < N then 0 else 9, s') ∧ InvF N (j + 1) (b + p.length) s' := by
  obtain ⟨h1, h2, h3, h4⟩ := h
  by_cases hj : j < N
  · have hne : ¬ s.fuse = some 0 := by rw [h2]; simp; omega
    have hc : wrCode s ⟨#[102]⟩ p = 0 := by
      unfold wrCode
      rw [if_neg]
      rintro (h | ⟨_, h⟩)
      · rw [h1] at h; omega
      · rcases h3 with h3 | ⟨x, h3⟩ <;> rw [h3] at h <;> simp at h
    refine ⟨{ s with fuse := s.fuse.map (· - 1), files := wrFiles s.files ⟨#[102]⟩ p }, ?_, ⟨h1, ?_, ?_, ?_⟩⟩
    · simp only [wrS, five, hne, if_false, hc, if_pos hj]
      simp [nameF]
    · rw [h2]; simp; omega
    · right
      rcases h3 with h3 | ⟨x, h3⟩
      · exact ⟨⟨p, 0⟩, by rw [h3]; rfl⟩
      · exact ⟨⟨x.data ++ p, x.lasts⟩, by rw [h3]; simp [wrFiles, gget, gset]⟩
    · rcases h3 with h3 | ⟨x, h3⟩
      · rw [h3, show wrFiles [] ⟨#[102]⟩ p = [(⟨#[102]⟩, ⟨p, 0⟩)] from rfl]
        simp only [totF_cons, totF_nil]; omega
      · rw [h3] at h4 ⊢
        rw [show wrFiles [(⟨#[102]⟩, x)] ⟨#[102]⟩ p = [(⟨#[102]⟩, ⟨x.data ++ p, x.lasts⟩)] from by simp [wrFiles, gget, gset]]
        simp only [totF_cons, totF_nil, List.length_append] at *; omega
  · have he : s.fuse = some 0 := by rw [h2]; simp; omega
    refine ⟨s, ?_, ⟨h1, ?_, h3, by omega⟩⟩
    · simp only [wrS, five, he, if_true, if_neg hj]
    · rw [h2]; simp; omega
theorem InvF.gone {N j b : Nat} {s : DSt} (h : InvF N j b s) : ∃ s', rgS s ⟨#[110, 111, 110, 101]⟩ = (if j < N then 7 else 9, s') ∧ s'.room = 1048576 ∧ s'.files = s.files ∧ gget s.files ⟨#[110, 111, 110, 101]⟩ = none := by
  obtain ⟨h1, h2, h3, h4⟩ := h
  have hg : gget s.files ⟨#[110, 111, 110, 101]⟩ = none := by rcases h3 with h3 | ⟨x, h3⟩ <;> rw [h3] <;> rfl
  refine ⟨s, ?_, h1, rfl, hg⟩
  by_cases hj : j < N
  · have hne : ¬ s.fuse = some 0 := by rw [h2]; simp; omega
    have hn : [(⟨#[110, 111, 110, 101]⟩ : ByteArray)].all nameOk = true := rfl
    unfold rgS five
    rw [if_neg hne, if_pos hn, if_neg (by decide), if_pos hj]
  · have he : s.fuse = some 0 := by rw [h2]; simp; omega
    unfold rgS five
    rw [if_pos he, if_neg hj]
theorem last_write {s : DSt} {b : Nat} (h1 : s.room = 1048576) (h2 : s.fuse = none) (h3 : s.files.length ≤ 1) (h4 : totF s.files ≤ b) (hb : b ≤ 1048576) :
    ∃ s', wrS s ⟨#[122]⟩ [] = (0, s') := by
  have hc : wrCode s ⟨#[122]⟩ [] = 0 := by
    unfold wrCode
    rw [if_neg]
    rintro (h | ⟨_, h⟩)
    · rw [h1] at h; simp at h; omega
    · omega
  refine ⟨{ s with fuse := s.fuse.map (· - 1), files := wrFiles s.files ⟨#[122]⟩ [] }, ?_⟩
  have hn : [(⟨#[122]⟩ : ByteArray)].all nameOk = true := rfl
  unfold wrS five
  rw [if_neg (by rw [h2]; simp), if_pos hn, hc, if_pos rfl]

theorem crash_tot (s : DSt) (k : Int) (t : UInt8) : totF (crS s k t).files ≤ totF s.files := by
  show totF (s.files.map fun p => (p.1, crF k t p.2)) ≤ _
  generalize s.files = l
  induction l with
  | nil => simp
  | cons p l ih =>
    rw [List.map_cons, totF_cons, totF_cons]
    have : (crF k t p.2).data.length ≤ p.2.data.length := by
      unfold crF
      simp only [torn_length, List.length_take]
      omega
    simp only at this ⊢
    omega

set_option maxRecDepth 100000 in
set_option maxHeartbeats 1000000 in
theorem fuses_any (w : World) (n : Int) (a : Option Addr) (cap : Nat) (R : List Row) (hR : RowsAt w a R) (hl : R.length ≤ 140737488355328) :
    Calls Try.prog 5 #[.int .i64 n, .slice a R.length cap] w fun e w' => e = .returned (.bool true) ∧ Kp No w w' := by
  go_enter Try.func5, Try.ntmps5
  go_wp2_with fail
  go_loopg [5, 6] R.length (fun g n i wr => ∃ j : Nat, j ≤ R.length ∧ g = R.length - j ∧ i = .int .i64 j ∧ n = .int .i64 (wt (R.take j)) ∧ wr = w)
  case atStart => exact ⟨0, Nat.zero_le _, rfl, rfl, rfl, rfl⟩
  case round =>
    obtain ⟨j, hj, rfl, rfl, rfl, rfl⟩ := hrel
    by_cases hlt : j < R.length
    · obtain ⟨g0, off0, rfl, hg0, hc0, hr0, hm0⟩ := hR.at_ (Kp.refl _ _) hlt
      have hst := Lib.hid (wt_step R hlt)
      by_cases hn : wt (R.take j) ≤ 8000
      · go_wp2_with fail
        go_roundg (R.length - (j + 1))
        case measure => omega
        case rel => exact ⟨j + 1, by omega, rfl, by go_num, by rw [hst.out]; go_num, rfl⟩
      · go_wp2_with fail
        refine (known_any _).mono ?_
        rintro e w' ⟨rfl, hk⟩
        go_wp2_with fail
        go_ret
        exact ⟨rfl, hk⟩
    · by_cases hn : wt (R.take j) ≤ 8000
      · obtain rfl : j = R.length := by omega
        rw [List.take_length] at hn ⊢
        have hlw := wt_len R
        clear hlt hj
        rename World => w0
        have HR := Lib.hid hR
        clear hR
        by_cases hneg : n < 0
        · go_wp2_with fail
          refine (known_any _).mono ?_
          rintro e w' ⟨rfl, hk⟩
          go_wp2_with fail
          go_ret
          exact ⟨rfl, hk⟩
        by_cases hbig : 1000 < n
        · go_wp2_with fail
          refine (known_any _).mono ?_
          rintro e w' ⟨rfl, hk⟩
          go_wp2_with fail
          go_ret
          exact ⟨rfl, hk⟩
        obtain ⟨N, rfl⟩ : ∃ N : Nat, n = (N : Int) := ⟨n.toNat, by omega⟩
        go_wp2_with fail
        refine (new_any 1048576 _ (by omega)).mono ?_
        rintro e W1 ⟨rfl, hk1, F1, hD1, hF1⟩
        have M1 : Mine w0 W1 (w0.heap.size + 1) ⟨1048576, none, []⟩ F1 := ⟨hk1, hD1, hF1⟩
        clear hk1 hD1 hF1
        go_wp2_with fail
        have HF := Lib.hid (Fuse_any W1 _ _ F1 M1.disk (N : Int) (by omega))
        refine (HF.out).mono ?_
        rintro e W2 ⟨rfl, hD2, hK2⟩
        have hdF : F1 (w0.heap.size + 1) := by
          obtain ⟨m, fused, left, L, _, _, _, hF, _⟩ := M1.disk
          exact hF _ (.inl rfl)
        have M2 : Mine w0 W2 (w0.heap.size + 1) (fuS ⟨1048576, none, []⟩ (N : Int)) F1 := M1.turn (hK2.mono fun i _ hi => by rw [show i = w0.heap.size + 1 from hi]; exact hdF) hD2
        have I2 : InvF N 0 0 (fuS ⟨1048576, none, []⟩ (N : Int)) := ⟨rfl, by simp [fuS], .inl rfl, by simp [fuS, totF]⟩
        clear HF hD2 hK2 hdF M1
        obtain ⟨d, hd⟩ : ∃ d, d = w0.heap.size + 1 := ⟨_, rfl⟩
        obtain ⟨s2, hs2⟩ : ∃ s, s = fuS ⟨1048576, none, []⟩ (N : Int) := ⟨_, rfl⟩
        rw [← hs2, ← hd] at M2
        rw [← hs2] at I2
        rw [← hd]
        clear hs2 hd
        go_wp2_with fail
        go_loopg [9] R.length (fun g i wi => ∃ (j : Nat) (s : DSt) (F : Nat → Prop), j ≤ R.length ∧ g = R.length - j ∧ i = .int .i64 j ∧ Hid (Mine w0 wi d s F) ∧ Hid (InvF N j (wt (R.take j)) s))
        case atStart => exact ⟨0, s2, F1, Nat.zero_le _, rfl, rfl, M2, I2⟩
        case round =>
          clear M2 I2
          obtain ⟨j, s, F, hj, rfl, rfl, hM, hI⟩ := hrel
          by_cases hlt : j < R.length
          · obtain ⟨g0, off0, rfl, hg0, hc0, hr0, hm0⟩ := HR.out.at_ hM.out.kp hlt
            have hst := Lib.hid (wt_step R hlt)
            have hgi : g0 < wr.heap.size := hM.out.kp.lt hg0
            have hwl := wt_take R (j + 1)
            have hlen : R[j].data.length ≤ 8000 := by have := hst.out; omega
            have HW := Lib.hid (Write_any wr d s F hM.out.disk ⟨#[102]⟩ R[j].a R[j].cap R[j].data (hr0.mono hM.out.kp.size (Nat.le_refl _)) hm0)
            obtain ⟨s', hws, hI'⟩ := hI.out.write R[j].data (by have := hst.out; omega)
            have HS := Lib.hid hws
            have HI' := Lib.hid hI'
            clear hr0 hws hI'
            by_cases hjn : j < N
            · go_wp2_with fail
              refine (HW.out).mono ?_
              intro e W3 h
              obtain ⟨rfl, F3, M3, _, _⟩ := hM.out.step (c := 0) (s' := s') h (by rw [HS.out, if_pos hjn])
              clear h HW
              go_wp2_with fail
              go_roundg (R.length - (j + 1))
              case measure => omega
              case rel => exact ⟨j + 1, s', F3, by omega, rfl, by go_num, M3, by
                obtain ⟨a1, a2, a3, a4⟩ := HI'.out
                exact ⟨a1, a2, a3, by rw [hst.out]; omega⟩⟩
            · go_wp2_with fail
              refine (HW.out).mono ?_
              intro e W3 h
              obtain ⟨rfl, F3, M3, _, _⟩ := hM.out.step (c := 9) (s' := s') h (by rw [HS.out, if_neg hjn])
              clear h HW
              go_wp2_with fail
              go_roundg (R.length - (j + 1))
              case measure => omega
              case rel => exact ⟨j + 1, s', F3, by omega, rfl, by go_num, M3, by
                obtain ⟨a1, a2, a3, a4⟩ := HI'.out
                exact ⟨a1, a2, a3, by rw [hst.out]; omega⟩⟩
          · obtain rfl : j = R.length := by omega
            clear hlt hj
            obtain ⟨s', hrg, hroom, hfiles, hno⟩ := hI.out.gone
            have HG := Lib.hid (Remove_gone wr d s F hM.out.disk ⟨#[110, 111, 110, 101]⟩ hno)
            have HS := Lib.hid hrg
            clear hrg
            have htot := hI.out.tot
            rw [List.take_length] at htot
            have hlen : s.files.length ≤ 1 := by rcases hI.out.files with h | ⟨x, h⟩ <;> rw [h] <;> simp
            have hcl : (crS s' 0 0).files.length ≤ 1 := by rw [← hfiles] at hlen; simpa [crS] using hlen
            have htc : totF (crS s' 0 0).files ≤ wt R := by
              have := crash_tot s' 0 0
              rw [hfiles] at this
              omega
            have hcr : (crS s' 0 0).room = 1048576 := hroom
            have hcf : (crS s' 0 0).fuse = none := rfl
            obtain ⟨s9, hs9⟩ := last_write hcr hcf hcl htc (by omega)
            have HS9 := Lib.hid hs9
            clear hroom hfiles hno htot hlen hcl htc hcr hcf hs9
            by_cases hjn : R.length < N
            · go_wp2_with fail
              refine (HG.out).mono ?_
              intro e W3 h
              obtain ⟨rfl, F3, M3, _, _⟩ := hM.out.step (c := 7) (s' := s') h (by rw [HS.out, if_pos hjn])
              clear h HG
              go_wp2_with fail
              have HC := Lib.hid (Crash_any W3 _ _ F3 M3.disk 0 (by decide) (by decide) 0)
              refine (HC.out).mono ?_
              rintro e W4 ⟨rfl, hD4, hK4⟩
              have M4 := M3.turn hK4 hD4
              clear HC hD4 hK4
              go_wp2_with fail
              have HW := Lib.hid (Write_any W4 d (crS s' 0 0) F3 M4.disk ⟨#[122]⟩ none 0 [] (Rd.nil _ _ _) (by decide))
              refine (HW.out).mono ?_
              intro e W5 h
              obtain ⟨rfl, F5, M5, _, _⟩ := M4.step (c := 0) (s' := s9) h HS9.out
              clear h HW
              go_wp2_with fail
              refine (known_any _).mono ?_
              rintro e w' ⟨rfl, hk⟩
              go_wp2_with fail
              go_ret
              exact ⟨rfl, M5.kp.trans_same hk⟩
            · go_wp2_with fail
              refine (HG.out).mono ?_
              intro e W3 h
              obtain ⟨rfl, F3, M3, _, _⟩ := hM.out.step (c := 9) (s' := s') h (by rw [HS.out, if_neg hjn])
              clear h HG
              go_wp2_with fail
              have HC := Lib.hid (Crash_any W3 _ _ F3 M3.disk 0 (by decide) (by decide) 0)
              refine (HC.out).mono ?_
              rintro e W4 ⟨rfl, hD4, hK4⟩
              have M4 := M3.turn hK4 hD4
              clear HC hD4 hK4
              go_wp2_with fail
              have HW := Lib.hid (Write_any W4 d (crS s' 0 0) F3 M4.disk ⟨#[122]⟩ none 0 [] (Rd.nil _ _ _) (by decide))
              refine (HW.out).mono ?_
              intro e W5 h
              obtain ⟨rfl, F5, M5, _, _⟩ := M4.step (c := 0) (s' := s9) h HS9.out
              clear h HW
              go_wp2_with fail
              refine (known_any _).mono ?_
              rintro e w' ⟨rfl, hk⟩
              go_wp2_with fail
              go_ret
              exact ⟨rfl, M5.kp.trans_same hk⟩
      · go_wp2_with fail
        refine (known_any _).mono ?_
        rintro e w' ⟨rfl, hk⟩
        go_wp2_with fail
        go_ret
        exact ⟨rfl, hk⟩
end Go.Proofs.Ytenidddbjobblaa
