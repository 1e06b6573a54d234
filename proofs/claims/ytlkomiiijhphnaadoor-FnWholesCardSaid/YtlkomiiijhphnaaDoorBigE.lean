/- The library's TrailingZeros32, by the kit's proved contract, at this translation's numbers. Conditions: the table of the library holds its numbers. -/
import Derived.Shelf.Spec.TrailingZeros
import Derived.Test.YtlkomiiijhphnaaDoorProg
import Derived.Test.YtlkomiiijhphnaaDoorBigD
import Derived.Test.YtlkomiiijhphnaaDoorMathM
import Derived.Test.YtlkomiiijhphnaaDoorG6
/- The walk of TrailingZeroBits. Conditions: the pointer leads to a bigInt, of at most 1000000 digits; the library's table holds its numbers. -/
/- The walk of Rsh for every number: divided by a power of 2, rounded down. Conditions: the pointers lead to bigInts, of at most 1000000 digits; the library's table holds its numbers. -/
namespace Go.Proofs.YtlkomiiijhphnaaDoor.Shelf
open Go.Shelf
abbrev tabNo : Nat := 0
end Go.Proofs.YtlkomiiijhphnaaDoor.Shelf
namespace Go.Proofs.YtlkomiiijhphnaaDoor.Big
open Go.RowKit Go.Proofs.YtlkomiiijhphnaaDoorW.PrintWords Go.Proofs.YtlkomiiijhphnaaDoorW.PrintLast Go.Proofs.YtlkomiiijhphnaaDoorW.PrintMore Go.Proofs.YtlkomiiijhphnaaDoor.Math
set_option linter.unusedVariables false
set_option linter.unusedSimpArgs false
abbrev Tab (w : World) : Prop := TabAt Shelf.tabNo Lib.deBruijn32tab w
theorem Tab.below {w w1 : World} (h : Tab w) (hb : Below w.heap.size w w1) : Tab w1 := fun j hj => pw_cell_below hb (h j hj)
end Go.Proofs.YtlkomiiijhphnaaDoor.Big
namespace Go.Proofs.YtlkomiiijhphnaaDoor.Big
open Go.RowKit Go.Proofs.YtlkomiiijhphnaaDoorW.PrintWords Go.Proofs.YtlkomiiijhphnaaDoorW.PrintLast Go.Proofs.YtlkomiiijhphnaaDoorW.PrintMore Go.Proofs.YtlkomiiijhphnaaDoor.Math
set_option linter.unusedVariables false
set_option linter.unusedSimpArgs false
theorem Digs.one (w : World) (a : Int) : Digs (w.alloc (.cells #[.int .u32 a] 85)) (.slice (some ⟨w.heap.size, 0, none⟩) 1 1) [a] :=
 (Own.digs (own_lit w w.heap.size 85 .u32 [a] (Nat.le_refl _) (by simp)))
end Go.Proofs.YtlkomiiijhphnaaDoor.Big
