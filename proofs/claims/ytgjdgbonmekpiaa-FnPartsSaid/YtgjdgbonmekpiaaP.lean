/- Functions of the program as plain Lean functions, each with a proof that its call does what that function says. Printed by a program over the kit's print; conditions stand in each contract. -/
import Derived.Test.YtgjdgbonmekpiaaG15
namespace Go.Proofs.Ytgjdgbonmekpiaa.P
open Go.RowKit Go.Proofs.YtgjdgbonmekpiaaW.PrintWords Go.Proofs.YtgjdgbonmekpiaaW.PrintLast Go.Proofs.YtgjdgbonmekpiaaW.PrintMore
attribute [local go_sem] max2_int min2_int max_two min_two max_three min_three max_four min_four   -- for this text's walks alone
set_option linter.unusedVariables false
set_option linter.unusedSimpArgs false
end Go.Proofs.Ytgjdgbonmekpiaa.P
