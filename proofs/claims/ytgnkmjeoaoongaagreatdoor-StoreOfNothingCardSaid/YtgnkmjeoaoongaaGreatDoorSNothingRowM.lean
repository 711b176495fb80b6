/-
  StoreOfNothing answers true, whatever it is handed, and leaves what it was handed as it was. No condition; the listed variables of Go's library read as the program's text lays them (the card ties them).
-/
import Derived.Test.YtgnkmjeoaoongaaGreatDoorRows
import Derived.Test.YtgnkmjeoaoongaaGreatDoorCards
import Derived.Test.YtgnkmjeoaoongaaGreatDoorTie
import Derived.Test.YtgnkmjeoaoongaaGreatDoorSd2
import Derived.Test.YtgnkmjeoaoongaaGreatDoorSNothingF1
import Derived.Test.YtgnkmjeoaoongaaGreatDoorSNothingF2
import Derived.SevenTiedAt
namespace Go.Proofs.YtgnkmjeoaoongaaGreatDoor
open Go.ChangeShapes Go.WideShapes Go.ChangeAt Go.RowKit Go.Mer
abbrev laid5 : List (String × DataW Unit) := [("math/bits.deBruijn32tab", Rows.laid_math_bits_deBruijn32tab), ("math/bits.deBruijn64tab", Rows.laid_math_bits_deBruijn64tab), ("internal/strconv.uint64pow10", Rows.laid_internal_strconv_uint64pow10), ("unicode/utf8.acceptRanges", Rows.laid_unicode_utf8_acceptRanges), ("unicode/utf8.first", Rows.laid_unicode_utf8_first)]
theorem gPowType : (Tryz.prog.globals[0]?).map (·.type) = some 358 := by kernel_rfl
theorem pow_of {x y : String × DataW Unit} {rest : List (String × DataW Unit)} {W : World} (h : laidMet Tryz.prog (x :: y :: ("internal/strconv.uint64pow10", Rows.laid_internal_strconv_uint64pow10) :: rest) W) : Pow W :=
 Lib.tabIs_of_head (k := .u64) (zs := Lib.pow10Tab) gPow gPowType Tryz.underlying358 Tryz.underlying196 (by kernel_rfl) (by kernel_rfl) h.tail.tail
set_option maxRecDepth 100000 in
theorem f_lifted (os : Os) (started : os.Started) (H : Type) (enc : TypeId × Value → H) :
  ReturnsInHanded {} Tryz.checked os 9 .any (fun w args => (Rows.storeOfNothingSpec.pre enc Tryz.prog Tryz.f9 [] false w args ∧ laidMetH Tryz.prog laid5 w) ∧ sizedMet enc Tryz.prog Tryz.f9 (OpenSpec.ofChange Rows.storeOfNothingSpec) false w args)
   (Rows.storeOfNothingSpec.post enc Tryz.prog Tryz.f9 false true false false) := by
 refine returnsInHanded_of_change_and (C := Tryz.checked) (X := fun w _ => laidMetH Tryz.prog laid5 w) (fun _ _ _ hh h => h.of_heap hh) Tryz.own started (by kernel_rfl) Tryz.func9
  (ChangeSpec.witness_shaped (enc := enc) (C := Tryz.checked) (os := os) (X := fun w _ => laidMetH Tryz.prog laid5 w) false (World.laidAll Tryz.prog os laid5) #[.agg #[.int .i64 0, .int .i64 0, .string ⟨#[]⟩, .int .i64 0, .int .i64 0, .int .i64 0, .slice none 0 0, .bool false, .int .i64 0], .agg #[.int .i64 0, .int .i64 0], .int .i64 0] 8 (World.laidAll_os _ _ _) (World.shaped_of_ZipB (by kernel_rfl) (by kernel_rfl)) (by kernel_rfl) (by kernel_rfl) (by kernel_rfl) (by rw [MakeChecks.laidMetH_plain _ _ _ (by kernel_rfl)]; exact laidMet_laidAll _ (by kernel_rfl) (by kernel_rfl))) ?_
 intro W base args ds gs before hval0 hW _ hsz0 hL _
 have hsz : (DataW.weightsEach Tryz.prog (Tryz.f9.params.toList ++ Rows.storeOfNothingSpec.plain.varTypes Tryz.prog) (ds ++ gs)).all (· ≤ reachBytes) = true := hsz0
 have hval : ∀ (j : Nat) t v, Tryz.f9.params[j]? = some t → args[j]? = some v → Value.okWide Tryz.prog W .any base t v := hval0
 have hW' := hW
 obtain ⟨p, q, hA0, hV, rfl, _, _⟩ := hW
 have hA : DataW.TrodAll enc Tryz.prog W 0 (fun _ => true) true Tryz.f9.params.toList args.toList ds p := hA0
 have hA1 := hA
 rw [Tryz.params9] at hA1 hval hsz
 rw [MakeChecks.laidMetH_plain _ _ _ (by kernel_rfl)] at hL
 have hp : Pow W := pow_of hL
 obtain ⟨v0, v1, v2, d0, d1, d2, p0, p1, p2, rfl, rfl, rfl, h0, h1, h2⟩ := trodAll_three hA1
 obtain ⟨rfl, rfl⟩ := trodVars_none hV
 obtain ⟨cs0, rfl, _⟩ := okWide_struct Tryz.underlying46 (hval 0 46 v0 rfl rfl)
 obtain ⟨cs1, rfl, _⟩ := okWide_struct Tryz.underlying25 (hval 1 25 v1 rfl rfl)
 obtain ⟨n, rfl, _⟩ := open_i64 hsz (j := 2) rfl rfl (hval 2 3 v2 rfl rfl) h2
 obtain ⟨n0, g0⟩ := good_arg hsz (j := 0) rfl rfl h0
 obtain ⟨n1, g1⟩ := good_arg hsz (j := 1) rfl rfl h1
 obtain ⟨x, e0, _⟩ := good_rec (cs := cs0.toList) g0
 obtain ⟨t1, t2, e1, _⟩ := good_stamp (cs := cs1.toList) g1
 obtain rfl : cs0 = (recC x).toArray := by rw [← e0]
 obtain rfl : cs1 = #[.int .i64 t1, .int .i64 t2] := by rw [← Array.toList_inj, e1]
 refine (snothing_any W hp x t1 t2 n).mono fun e W' ⟨he, hk⟩ => ?_
 subst he
 exact ⟨_, rfl, post_law (tb := 4) Tryz.laidOut (by rw [Tryz.params9]; decide +kernel) (by kernel_rfl) Tryz.underlying4 rfl rfl rfl rfl hW' hA hk⟩
theorem row_holds : Rows.StoreOfNothingSaid :=
 OpenClaim.holds_of_wide 9 Tryz.f9 rfl rfl rfl rfl rfl rfl rfl ⟨rfl, rfl, rfl, rfl, rfl⟩ rfl rfl rfl rfl rfl (by kernel_rfl) Tryz.func9 storeOfNothing_joined
  (of_decide_eq_true (by kernel_rfl)) (by unfold Func.isWrapper; first | (rw [if_pos (by decide +kernel)]; kernel_rfl) | (rw [if_neg (by decide +kernel)]; exact ⟨rfl, rfl⟩))
  (fun os started H enc _ => f_lifted os started H enc)
theorem storeOfNothing_holds : Rows.StoreOfNothingCardSaid :=
 Claim7.holds_tied_plain_at .later [] [.data, .data, .data, .data, .pinned] true (true, "799af7e8b9fb1c5e93c3c4869e2ba8d04d7201ffac44eae06b41942ed7e7b957") true
  row_holds (fun _ h => by cases h) (by kernel_rfl) (fun _ h => by cases h) storeOfNothing_row_tie rfl ⟨rfl, rfl⟩ (by kernel_rfl) rfl
  (fun f fn hf hfn => by
   obtain rfl : f = 9 := Option.some.inj ((show Tryz.prog.funcNamed "meridian/meridianlaw16.StoreOfNothing" = some 9 by kernel_rfl).symm.trans hf) |>.symm
   obtain rfl : fn = Tryz.f9 := (Option.some.inj (Tryz.func9.symm.trans hfn)).symm
   exact ⟨by kernel_rfl, fun j t ht => by
    rw [Tryz.params9] at ht
    have hm : t ∈ [46, 25, 3] := by simpa using Array.mem_of_getElem? ht
    have hall : ([46, 25, 3].all fun u => !Tryz.prog.wantsStandIn u) = true := by kernel_rfl
    exact (show Tryz.prog.wantsStandIn t = false by simpa using List.all_eq_true.1 hall t hm)⟩)
  storeOfNothing_goes
end Go.Proofs.YtgnkmjeoaoongaaGreatDoor
#print axioms Go.Proofs.YtgnkmjeoaoongaaGreatDoor.storeOfNothing_holds

