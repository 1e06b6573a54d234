/- A part of a proof about the given program. -/
import Derived.Test.YtdbdhgimokaooaaDoorWWords
import Derived.Laws.StructEq
namespace Go.Proofs.YtdbdhgimokaooaaDoorW.PrintWords
open Go.RowKit
section
variable {P : Program} {d : Nat} {xs ys : Array Value} {f : Field} {fs : List Field} {a b : Value} {r s : Bool} {w : World}
end
end Go.Proofs.YtdbdhgimokaooaaDoorW.PrintWords
