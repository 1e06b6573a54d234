/- The law FnExactIsWhole, as a plain statement: it answers true at every sign and limbs. -/
import Derived.Test.YtlkomiiijhphnaaDoorG20
import Derived.Test.YtlkomiiijhphnaaDoorBnd0
namespace Go.Proofs.YtlkomiiijhphnaaDoor.Pur
open Go.RowKit Go.Proofs.YtlkomiiijhphnaaDoor Go.Proofs.YtlkomiiijhphnaaDoor.X Go.Proofs.YtlkomiiijhphnaaDoorW.PrintWords Go.Proofs.YtlkomiiijhphnaaDoorW.PrintLast Go.Proofs.YtlkomiiijhphnaaDoor.Math
set_option linter.unusedVariables false
set_option linter.unusedSimpArgs false
theorem implIsWhole (s : Int) (l : List Int) (hl : l.length ≤ 1000000000) : impl_IsWhole.f s l = some (isW s l) := by
 unfold impl_IsWhole.f
 rw [if_pos hl]
end Go.Proofs.YtlkomiiijhphnaaDoor.Pur
