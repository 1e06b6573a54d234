/- A part of a proof about the given program. -/
import Derived.Test.YtlkomiiijhphnaaDoorWWords
import Derived.Laws.StructEq
namespace Go.Proofs.YtlkomiiijhphnaaDoorW.PrintWords
open Go.RowKit
section
variable {P : Program} {d : Nat} {xs ys : Array Value} {f : Field} {fs : List Field} {a b : Value} {r s : Bool} {w : World}
end
end Go.Proofs.YtlkomiiijhphnaaDoorW.PrintWords
