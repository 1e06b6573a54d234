/- A part of a proof about the given program. -/
import Derived.SizedLaws
import Derived.ChangeSlices
namespace Go.Proofs.YtdbdhgimokaooaaDoorW.PrintWords
open Go.ChangeShapes Go.WideShapes
end Go.Proofs.YtdbdhgimokaooaaDoorW.PrintWords
