/-
  StoreOrder answers true, whatever it is handed, and leaves what it was handed as it was. No condition; the listed variables of Go's library read as the program's text lays them (the card ties them).
-/
import Derived.Test.YtgnkmjeoaoongaaGreatDoorRows
import Derived.Test.YtgnkmjeoaoongaaGreatDoorCards
import Derived.Test.YtgnkmjeoaoongaaGreatDoorTie
import Derived.SevenTiedAt
import Derived.Test.YtgnkmjeoaoongaaGreatDoorSe4
import Derived.Test.YtgnkmjeoaoongaaGreatDoorSe5
import Derived.Test.YtgnkmjeoaoongaaGreatDoorSe6
import Derived.Test.YtgnkmjeoaoongaaGreatDoorSd2
import Derived.Test.YtgnkmjeoaoongaaGreatDoorSe0
namespace Go.Proofs.YtgnkmjeoaoongaaGreatDoor
open Go.ChangeShapes Go.WideShapes Go.ChangeAt Go.RowKit Go.Mer
abbrev laid5 : List (String × DataW Unit) := [("math/bits.deBruijn32tab", Rows.laid_math_bits_deBruijn32tab), ("math/bits.deBruijn64tab", Rows.laid_math_bits_deBruijn64tab), ("internal/strconv.uint64pow10", Rows.laid_internal_strconv_uint64pow10), ("unicode/utf8.acceptRanges", Rows.laid_unicode_utf8_acceptRanges), ("unicode/utf8.first", Rows.laid_unicode_utf8_first)]
theorem gPowType : (Tryz.prog.globals[0]?).map (·.type) = some 358 := by kernel_rfl
theorem pow_of {x y : String × DataW Unit} {rest : List (String × DataW Unit)} {W : World} (h : laidMet Tryz.prog (x :: y :: ("internal/strconv.uint64pow10", Rows.laid_internal_strconv_uint64pow10) :: rest) W) : Pow W :=
 Lib.tabIs_of_head (k := .u64) (zs := Lib.pow10Tab) gPow gPowType Tryz.underlying358 Tryz.underlying196 (by kernel_rfl) (by kernel_rfl) h.tail.tail
set_option maxRecDepth 100000 in
theorem f_lifted (os : Os) (started : os.Started) (H : Type) (enc : TypeId × Value → H) :
  ReturnsInHanded {} Tryz.checked os 3 .any (fun w args => (Rows.storeOrderSpec.pre enc Tryz.prog Tryz.f3 [] false w args ∧ laidMetH Tryz.prog laid5 w) ∧ sizedMet enc Tryz.prog Tryz.f3 (OpenSpec.ofChange Rows.storeOrderSpec) false w args)
   (Rows.storeOrderSpec.post enc Tryz.prog Tryz.f3 false true false false) := by
 refine returnsInHanded_of_change_and (C := Tryz.checked) (X := fun w _ => laidMetH Tryz.prog laid5 w) (fun _ _ _ hh h => h.of_heap hh) Tryz.own started (by kernel_rfl) Tryz.func3
  (ChangeSpec.witness_shaped (enc := enc) (C := Tryz.checked) (os := os) (X := fun w _ => laidMetH Tryz.prog laid5 w) false (World.laidAll Tryz.prog os laid5) #[.slice none 0 0, .int .i64 0, .int .i64 0] 8 (World.laidAll_os _ _ _) (World.shaped_of_ZipB (by kernel_rfl) (by kernel_rfl)) (by kernel_rfl) (by kernel_rfl) (by kernel_rfl) (by rw [MakeChecks.laidMetH_plain _ _ _ (by kernel_rfl)]; exact laidMet_laidAll _ (by kernel_rfl) (by kernel_rfl))) ?_
 intro W base args ds gs before hval0 hW _ hsz0 hL _
 have hsz : (DataW.weightsEach Tryz.prog (Tryz.f3.params.toList ++ Rows.storeOrderSpec.plain.varTypes Tryz.prog) (ds ++ gs)).all (· ≤ reachBytes) = true := hsz0
 have hval : ∀ (j : Nat) t v, Tryz.f3.params[j]? = some t → args[j]? = some v → Value.okWide Tryz.prog W .any base t v := hval0
 have hW' := hW
 obtain ⟨p, q, hA0, hV, rfl, _, _⟩ := hW
 have hA : DataW.TrodAll enc Tryz.prog W 0 (fun _ => true) true Tryz.f3.params.toList args.toList ds p := hA0
 have hA1 := hA
 rw [Tryz.params3] at hA1 hval hsz
 rw [MakeChecks.laidMetH_plain _ _ _ (by kernel_rfl)] at hL
 have hp : Pow W := pow_of hL
 obtain ⟨v0, v1, v2, d0, d1, d2, p0, p1, p2, rfl, rfl, rfl, h0, h1, h2⟩ := trodAll_three hA1
 obtain ⟨rfl, rfl⟩ := trodVars_none hV
 obtain ⟨a, len, cap, rfl⟩ := okWide_slice Tryz.underlying22 (hval 0 22 v0 rfl rfl)
 obtain ⟨n, rfl, _⟩ := open_i64 hsz (j := 1) rfl rfl (hval 1 3 v1 rfl rfl) h1
 obtain ⟨k, rfl, _⟩ := open_i64 hsz (j := 2) rfl rfl (hval 2 3 v2 rfl rfl) h2
 obtain ⟨n0, g0⟩ := good_arg hsz (j := 0) rfl rfl h0
 obtain ⟨a', cap', L, e0, hrows, hlc, hcap⟩ := good_rows (cs := [.slice a len cap]) g0
 injection e0 with e0
 injection e0 with ea el ec
 subst ea; subst el; subst ec
 refine (sorder_any W hp a cap L hrows (by omega) n k).mono fun e W' ⟨he, hk⟩ => ?_
 subst he
 exact ⟨_, rfl, post_law (tb := 4) Tryz.laidOut (by rw [Tryz.params3]; decide +kernel) (by kernel_rfl) Tryz.underlying4 rfl rfl rfl rfl hW' hA hk⟩
theorem row_holds : Rows.StoreOrderSaid :=
 OpenClaim.holds_of_wide 3 Tryz.f3 rfl rfl rfl rfl rfl rfl rfl ⟨rfl, rfl, rfl, rfl, rfl⟩ rfl rfl rfl rfl rfl (by kernel_rfl) Tryz.func3 storeOrder_joined
  (of_decide_eq_true (by kernel_rfl)) (by unfold Func.isWrapper; first | (rw [if_pos (by decide +kernel)]; kernel_rfl) | (rw [if_neg (by decide +kernel)]; exact ⟨rfl, rfl⟩))
  (fun os started H enc _ => f_lifted os started H enc)
theorem storeOrder_holds : Rows.StoreOrderCardSaid :=
 Claim7.holds_tied_plain_at .later [] [.data, .data, .data, .data, .pinned] true (true, "799af7e8b9fb1c5e93c3c4869e2ba8d04d7201ffac44eae06b41942ed7e7b957") true
  row_holds (fun _ h => by cases h) (by kernel_rfl) (fun _ h => by cases h) storeOrder_row_tie rfl ⟨rfl, rfl⟩ (by kernel_rfl) rfl
  (fun f fn hf hfn => by
   obtain rfl : f = 3 := Option.some.inj ((show Tryz.prog.funcNamed "meridian/meridianlaw16.StoreOrder" = some 3 by kernel_rfl).symm.trans hf) |>.symm
   obtain rfl : fn = Tryz.f3 := (Option.some.inj (Tryz.func3.symm.trans hfn)).symm
   exact ⟨by kernel_rfl, fun j t ht => by
    rw [Tryz.params3] at ht
    have hm : t ∈ [22, 3] := by simpa using Array.mem_of_getElem? ht
    have hall : ([22, 3].all fun u => !Tryz.prog.wantsStandIn u) = true := by kernel_rfl
    exact (show Tryz.prog.wantsStandIn t = false by simpa using List.all_eq_true.1 hall t hm)⟩)
  storeOrder_goes
end Go.Proofs.YtgnkmjeoaoongaaGreatDoor
#print axioms Go.Proofs.YtgnkmjeoaoongaaGreatDoor.storeOrder_holds
