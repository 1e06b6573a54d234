/- A part of a proof about the given program. -/
import Derived.Test.YtdbdhgimokaooaaDoorWWords
namespace Go.Proofs.YtdbdhgimokaooaaDoorW.PrintWords
open Go.RowKit
section
variable {P : Program} {ops : Array Oper} {rest : List Oper} {o : Oper} {a : Act} {Q : Exit → Act → World → Prop} {W : World}
end
end Go.Proofs.YtdbdhgimokaooaaDoorW.PrintWords
