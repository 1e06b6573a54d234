/- The reference's comparing, measuring and making of whole numbers, as plain mathematics. Conditions: limbs in range, lengths to 10^9. -/
import Derived.Test.YtbmjakaoniegfaaDoorPur0
import Derived.Test.YtbmjakaoniegfaaDoorMathM
namespace Go.Proofs.YtbmjakaoniegfaaDoor.Pur
open Go.RowKit Go.Proofs.YtbmjakaoniegfaaDoor.X Go.Proofs.YtbmjakaoniegfaaDoorW.PrintWords Go.Proofs.YtbmjakaoniegfaaDoorW.PrintLast Go.Proofs.YtbmjakaoniegfaaDoor.Math
set_option linter.unusedVariables false
set_option linter.unusedSimpArgs false

/-- One unit of fuel more. -/
theorem Ev.step {α : Type} {F g : Nat → Option α} {r : α} (h : ∀ k, F (k + 1) = g k) (e : Ev g r) : Ev F r := by
  obtain ⟨K, hK⟩ := e
  refine ⟨K + 1, fun k hk => ?_⟩
  obtain ⟨k, rfl⟩ : ∃ m, k = m + 1 := ⟨k - 1, by omega⟩
  rw [h]
  exact hK k (by omega)
/-- Read as another. -/
theorem Ev.as {α : Type} {F g : Nat → Option α} {r : α} (h : ∀ k, F k = g k) (e : Ev g r) : Ev F r := by
  obtain ⟨K, hK⟩ := e
  exact ⟨K, fun k hk => by rw [h]; exact hK k hk⟩
end Go.Proofs.YtbmjakaoniegfaaDoor.Pur
