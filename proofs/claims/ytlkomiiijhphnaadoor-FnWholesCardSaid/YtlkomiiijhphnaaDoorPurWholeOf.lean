/- The law FnExactWholeOf, as a plain statement: it answers true at every int64. -/
import Derived.Test.YtlkomiiijhphnaaDoorG20
import Derived.Test.YtlkomiiijhphnaaDoorBndB
namespace Go.Proofs.YtlkomiiijhphnaaDoor.Pur
open Go.RowKit Go.Proofs.YtlkomiiijhphnaaDoor Go.Proofs.YtlkomiiijhphnaaDoor.Big Go.Proofs.YtlkomiiijhphnaaDoor.X Go.Proofs.YtlkomiiijhphnaaDoorW.PrintWords Go.Proofs.YtlkomiiijhphnaaDoorW.PrintLast Go.Proofs.YtlkomiiijhphnaaDoor.Math
set_option linter.unusedVariables false
set_option linter.unusedSimpArgs false
theorem wfit_small {n : Int} (h0 : -9223372036854775808 ≤ n) (h1 : n ≤ 9223372036854775807) : wfit n = (sgn n, limbs n.natAbs, 0) := by
 unfold wfit
 rw [if_pos]
 exact Nat.le_trans (blen_le.2 (show n.natAbs < 2 ^ 64 from by omega)) (by decide)
theorem implWholeOf {n : Int} (h0 : -9223372036854775808 ≤ n) (h1 : n ≤ 9223372036854775807) : impl_WholeOf.f n = some (sgn n, limbs n.natAbs, 0) := by
 unfold impl_WholeOf.f
 rw [if_pos ⟨h0, h1⟩, wfit_small h0 h1]
theorem wf_i64 {a : Int} (h : (Lit.int .i64 a).wf = true) : -9223372036854775808 ≤ a ∧ a ≤ 9223372036854775807 := by
 simp [Lit.wf, IntKind.min, IntKind.max, IntKind.signed, IntKind.bits] at h
 omega
end Go.Proofs.YtlkomiiijhphnaaDoor.Pur
