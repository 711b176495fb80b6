/-
  CausalStamps answers true, whatever it is handed, and leaves what it was handed as it was. No condition.
-/
import Derived.Test.YtojlccligmfcaaaRows
import Derived.Test.YtojlccligmfcaaaCStamps
import Derived.Lib.SmallJoins
import Derived.OpenShut
namespace Go.Proofs.Ytojlccligmfcaaa
open Go.ChangeShapes Go.WideShapes Go.ChangeAt Go.RowKit Go.Mer

theorem Try.own : ownKnob Try.prog.godebug = none := by kernel_rfl
theorem Try.laidOut : laidOutB Try.prog = true := by kernel_rfl
section
variable {H : Type} {enc : TypeId × Value → H} {W : World} {ts : List TypeId} {ds : List (DataW H)}
set_option maxRecDepth 100000 in
theorem open_stamp {r : Reach} {b0 : Nat} (hsz : (DataW.weightsEach Try.prog ts ds).all (· ≤ reachBytes) = true) {j : Nat} {d : DataW H} (hj : ts[j]? = some 32) (hd : ds[j]? = some d) {v : Value} {p : List MemPlace} (hv : Value.okWide Try.prog W r b0 32 v)
    (h : DataW.Trod enc Try.prog W 0 (fun _ => true) true 32 v d p) : ∃ m c : Int, v = stv m c ∧ I64 m ∧ I64 c := by
  obtain ⟨n, hg⟩ := good_arg hsz hj hd h
  obtain ⟨v0, v1, y0, y1, n', rfl, _, _, h0, h1⟩ := Joins.open_agg2 Try.underlying32 (by kernel_rfl) (by kernel_rfl) hv h
  obtain ⟨x, y, hxy, hx, hy⟩ := good_stamp hg
  have hxy' : [v0, v1] = [.int .i64 x, .int .i64 y] := hxy
  injection hxy' with e0 e1
  injection e1 with e1
  subst e0; subst e1
  exact ⟨x, y, rfl, hx, hy⟩
end
set_option maxRecDepth 100000 in
theorem f_lifted (os : Os) (started : os.Started) (H : Type) (enc : TypeId × Value → H) :
    ReturnsInHanded {} Try.checked os 5 .any (Rows.causalStampsSpec.pre6 enc Try.prog Try.f5 Rows.causalStampsRow.domain false) (Rows.causalStampsSpec.post enc Try.prog Try.f5 false true false false) := by
  refine returnsInHanded_of_change_sized (C := Try.checked) Try.own started (by kernel_rfl) Try.func5
    (ChangeSpec.witness6 (enc := enc) (C := Try.checked) false ⟨#[], #[.agg #[.int .i64 0, .int .i64 0], .agg #[.int .i64 0, .int .i64 0], .bool false], []⟩ 8 (by kernel_rfl) (by kernel_rfl) (by kernel_rfl) (by kernel_rfl)) ?_
  intro W base args ds gs before hval0 hW _ hsz0 _
  have hsz : (DataW.weightsEach Try.prog (Try.f5.params.toList ++ Rows.causalStampsSpec.plain.varTypes Try.prog) (ds ++ gs)).all (· ≤ reachBytes) = true := hsz0
  have hval : ∀ (j : Nat) t v, Try.f5.params[j]? = some t → args[j]? = some v → Value.okWide Try.prog W .any base t v := hval0
  have hW' := hW
  obtain ⟨p, q, hA0, hV, rfl, _, _⟩ := hW
  have hA : DataW.TrodAll enc Try.prog W 0 (fun _ => true) true Try.f5.params.toList args.toList ds p := hA0
  have hA1 := hA
  rw [Try.params5] at hA1 hval hsz
  obtain ⟨v0, v1, v2, d0, d1, d2, p0, p1, p2, rfl, rfl, rfl, h0, h1, h2⟩ := trodAll_three hA1
  obtain ⟨rfl, rfl⟩ := trodVars_none hV
  obtain ⟨m, c, rfl, hm, hc⟩ := open_stamp hsz (j := 0) rfl rfl (hval 0 32 v0 rfl rfl) h0
  obtain ⟨t1, t2, rfl, ht1, ht2⟩ := open_stamp hsz (j := 1) rfl rfl (hval 1 32 v1 rfl rfl) h1
  obtain ⟨n2, g2⟩ := good_arg hsz (j := 2) rfl rfl h2
  obtain ⟨b, rfl⟩ : ∃ b, v2 = .bool b := by
    obtain ⟨fuel, h⟩ := h2
    obtain ⟨b, hb, _⟩ := DataW.trod_bool Try.underlying4 h
    refine ⟨b, ?_⟩
    have hok := hval 2 4 v2 rfl rfl
    cases v2 <;> simp_all [Value.cells, Value.okWide, Try.underlying4, Cell.okWide, Cell.ok]
  refine (stamps_any W m c t1 t2 b hm hc ht1 ht2).mono fun e W' ⟨he, hk⟩ => ?_
  subst he
  exact ⟨_, rfl, post_law (tb := 4) Try.laidOut (by rw [Try.params5]; decide +kernel) (by kernel_rfl) Try.underlying4 rfl rfl rfl rfl hW' hA hk⟩

theorem causalStamps_holds : Rows.CausalStampsSaid :=
  OpenClaim.holds_of_wide 5 Try.f5 rfl rfl rfl rfl rfl rfl rfl ⟨rfl, rfl, rfl, rfl, rfl⟩ rfl rfl rfl rfl rfl (by kernel_rfl) Try.func5 (by kernel_rfl)
    (of_decide_eq_true (by kernel_rfl)) (by unfold Func.isWrapper; first | (rw [if_pos (by decide +kernel)]; kernel_rfl) | (rw [if_neg (by decide +kernel)]; exact ⟨rfl, rfl⟩))
    (fun os started H enc _ => f_lifted os started H enc)
end Go.Proofs.Ytojlccligmfcaaa
#print axioms Go.Proofs.Ytojlccligmfcaaa.causalStamps_holds
