/- The law FnExactWholeOf, as a plain statement: it answers true at every int64. -/
import Derived.Test.YtbmjakaoniegfaaDoorPur2
import Derived.Test.YtbmjakaoniegfaaDoorX2
import Derived.Test.YtbmjakaoniegfaaDoorBnd3
namespace Go.Proofs.YtbmjakaoniegfaaDoor.Pur
open Go.RowKit Go.Proofs.YtbmjakaoniegfaaDoor Go.Proofs.YtbmjakaoniegfaaDoor.Big Go.Proofs.YtbmjakaoniegfaaDoor.X Go.Proofs.YtbmjakaoniegfaaDoorW.PrintWords Go.Proofs.YtbmjakaoniegfaaDoorW.PrintLast Go.Proofs.YtbmjakaoniegfaaDoor.Math
set_option linter.unusedVariables false
set_option linter.unusedSimpArgs false

theorem wfit_small {n : Int} (h0 : -9223372036854775808 ≤ n) (h1 : n ≤ 9223372036854775807) : wfit n = (sgn n, limbs n.natAbs, 0) := by
  unfold wfit
  rw [if_pos]
  exact Nat.le_trans (blen_le.2 (show n.natAbs < 2 ^ 64 from by omega)) (by decide)
theorem implWholeOf {n : Int} (h0 : -9223372036854775808 ≤ n) (h1 : n ≤ 9223372036854775807) : impl_WholeOf.f n = some (sgn n, limbs n.natAbs, 0) := by
  unfold impl_WholeOf.f
  rw [if_pos ⟨h0, h1⟩, wfit_small h0 h1]
theorem specWholeOf {n : Int} (h0 : -9223372036854775808 ≤ n) (h1 : n ≤ 9223372036854775807) : Ev (fun k => spec_WholeOf.f k n) (sgn n, limbs n.natAbs, 0) := by
  unfold spec_WholeOf.f
  exact Ev.bind (f := fun _ t => some (t.1, t.2, (0 : Int))) (l02Of h0 h1) (Ev.now _)
theorem wf_i64 {a : Int} (h : (Lit.int .i64 a).wf = true) : -9223372036854775808 ≤ a ∧ a ≤ 9223372036854775807 := by
  simp [Lit.wf, IntKind.min, IntKind.max, IntKind.signed, IntKind.bits] at h
  omega
theorem lawWholeOf (a : Int) (h : (Lit.int .i64 a).wf = true) : ∃ k, laws_FnExactWholeOf.f k a = some true := by
  obtain ⟨h0, h1⟩ := wf_i64 h
  refine Ev.rounds ?_
  have hl : (limbs a.natAbs).length ≤ 3 := limbs_length_le (by omega)
  unfold laws_FnExactWholeOf.f
  refine Ev.bind (specWholeOf h0 h1) ?_
  simp only [implWholeOf h0 h1, Option.bind_some]
  refine Ev.bind (eqWhole _ _ (by omega)) ?_
  simp only [if_true, bne_self_eq_false]
  refine Ev.step (fun k => by rw [laws_FnExactWholeOf.j0, if_neg (by simp)]) ?_
  refine Ev.bind (markWhole _ _ 1 (by omega) (by omega) (by omega)) ?_
  refine Ev.bind (heldWhole _ _ 1 (by omega) (by omega) (by omega)) ?_
  simp only [if_neg (show ¬ (1 : Int) + ((limbs a.natAbs).length : Int) < 0 from by omega), if_true, implWholeOf h0 h1, Option.bind_some]
  refine Ev.bind (eqWhole _ _ (by omega)) ?_
  simp only [if_true, bne_self_eq_false]
  refine Ev.step (fun k => by rw [laws_FnExactWholeOf.j1, if_neg (by simp)]) ?_
  refine Ev.bind (heldWhole _ _ 1 (by omega) (by omega) (by omega)) ?_
  simp only [if_neg (show ¬ (1 : Int) + ((limbs a.natAbs).length : Int) < 0 from by omega), if_true]
  exact Ev.now true
end Go.Proofs.YtbmjakaoniegfaaDoor.Pur
