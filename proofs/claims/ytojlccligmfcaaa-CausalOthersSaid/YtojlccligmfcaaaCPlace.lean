/-
  A snapshot at a place, as a map's key.
-/
import Derived.Test.YtojlccligmfcaaaProg
import Derived.Test.YtojlccligmfcaaaMapS
import Derived.Test.YtojlccligmfcaaaCmp
import Derived.DeepKeys3
import Derived.WalkKit
namespace Go.Proofs.Ytojlccligmfcaaa
open Go.RowKit Go.Mer

abbrev placeV (k : Int × Int) : Value := .agg #[.int .i64 k.1, .int .i64 k.2]
theorem place_eq (w : World) (a b : Int × Int) : (Op.equal 64 (placeV a) (placeV b)).run Try.prog w = .ok (decide (a = b)) w := by
  have h : (Op.equal 64 (placeV a) (placeV b)).run Try.prog w = .ok (a.1 == b.1 && a.2 == b.2) w := by
    unfold Op.equal
    rw [show Op.maxDepth = 9998 + 1 + 1 from rfl]
    go_simp
    by_cases h1 : a.1 = b.1 <;> by_cases h2 : a.2 = b.2 <;> simp [h1, h2]
  rw [h]
  congr 1
  rw [Bool.eq_iff_iff]
  simp [Prod.ext_iff]
theorem place_check (w : World) (e : Bool) (k : Int × Int) : (Instr.checkKey e 10000 64 (placeV k)).run Try.prog w = .ok () w := by
  unfold Instr.checkKey
  go_simp
  rw [MapKept.run_checkKey (n := 9998) (k := .int .i64 k.1) Try.underlying3 rfl e]
  exact MapKept.run_checkKey (n := 9998) (k := .int .i64 k.2) Try.underlying3 rfl e
theorem placeLaw : KeyLaw Try.prog 64 placeV where
  inj := fun a b h => by
    injection h with h
    simp only [Array.mk.injEq, List.cons.injEq, Value.int.injEq, true_and, and_true] at h
    exact Prod.ext h.1 h.2
  check := place_check
  bits := fun k => by simp [Instr.sameBits]
  eq := place_eq
  now := ⟨_, Try.underlying64, fun a b => rfl⟩
theorem zeroStamp (w : World) : (zeroValue 32).run Try.prog w = .ok (stv 0 0) w := by kernel_rfl
end Go.Proofs.Ytojlccligmfcaaa
