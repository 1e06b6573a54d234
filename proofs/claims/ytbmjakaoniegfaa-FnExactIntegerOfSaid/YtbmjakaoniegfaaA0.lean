/- Functions of the program as plain Lean functions, each with a proof that its call does what that function says. Printed by a program over the kit's print; conditions stand in each contract. -/
import Derived.Test.YtbmjakaoniegfaaProg
import Derived.Below
import Derived.Deep.Draws
import Derived.Deep.AppendLies
import Derived.Maps.AppendAt
import Derived.OwnWalk
import Derived.Laws.BytesArg
import Derived.Laws.MakeOwn
import Derived.Laws.OwnMore
import Derived.Deep.OwnRows
import Derived.Tactics
import Derived.Lib.ConvBytes
import Derived.Laws.Slices
import Derived.WalkKit
import Derived.KernelRfl
import Derived.RowKit3
import Derived.Deep.LoopGhost
import Derived.Deep.QuietTactic
import Derived.BigQuiet
import Derived.WideLaws
import Derived.Deep.DeepCutAuto
import Derived.Deep.CutBlock
import Derived.Deep.RegionHeld3
import Derived.Laws.Rows
import Derived.Lib.AppendStr
import Derived.ArgAppend
import Derived.Laws.IdiomCopy
import Derived.OrdersHeld
import Derived.Laws.BitsLemmas
import Derived.RowKit
import Derived.Test.YtbmjakaoniegfaaWWords
import Derived.Test.YtbmjakaoniegfaaWLast
import Derived.Test.YtbmjakaoniegfaaWTab
import Derived.Test.YtbmjakaoniegfaaWFour
import Derived.Test.YtbmjakaoniegfaaWQPut
import Derived.Test.YtbmjakaoniegfaaWApart
import Derived.Test.YtbmjakaoniegfaaWArr
import Derived.Test.YtbmjakaoniegfaaWZeros
import Derived.Test.YtbmjakaoniegfaaWFoot
import Derived.Test.YtbmjakaoniegfaaWKept
import Derived.Test.YtbmjakaoniegfaaWShare
import Derived.Test.YtbmjakaoniegfaaWN
import Derived.Test.YtbmjakaoniegfaaWFootNe
import Derived.Test.YtbmjakaoniegfaaWAt
import Derived.Test.YtbmjakaoniegfaaWEqStruct
import Derived.Test.YtbmjakaoniegfaaWRepsOne
import Derived.Test.YtbmjakaoniegfaaWInv
import Derived.Test.YtbmjakaoniegfaaWInvWords
import Derived.Test.YtbmjakaoniegfaaWGuard
import Derived.Test.YtbmjakaoniegfaaWNEv
import Derived.Test.YtbmjakaoniegfaaWMore
namespace Go.Proofs.Ytbmjakaoniegfaa.A
open Go.RowKit Go.Proofs.YtbmjakaoniegfaaW.PrintWords Go.Proofs.YtbmjakaoniegfaaW.PrintLast Go.Proofs.YtbmjakaoniegfaaW.PrintMore
attribute [local go_sem] max2_int min2_int max_two min_two max_three min_three max_four min_four   -- for this text's walks alone
set_option linter.unusedVariables false
set_option linter.unusedSimpArgs false



def errW : Option Int → Value
  | none => .nilIface
  | some c => .iface 0 (.int .i64 c)
theorem errW_none : errW none = .nilIface := rfl
theorem errW_some (c : Int) : errW (some c) = .iface 0 (.int .i64 c) := rfl

-- the values' own types

end Go.Proofs.Ytbmjakaoniegfaa.A
