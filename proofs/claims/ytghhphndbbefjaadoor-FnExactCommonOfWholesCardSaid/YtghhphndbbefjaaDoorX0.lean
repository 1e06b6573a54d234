/- Functions of the program as plain Lean functions, each with a proof that its call does what that function says. Printed by a program over the kit's print; conditions stand in each contract. -/
import Derived.Test.YtghhphndbbefjaaDoorProg
import Derived.Below
import Derived.Deep.Draws
import Derived.Deep.AppendLies
import Derived.Maps.AppendAt
import Derived.OwnWalk
import Derived.Laws.BytesArg
import Derived.Laws.MakeOwn
import Derived.Laws.OwnMore
import Derived.Deep.OwnRows
import Derived.Tactics
import Derived.Lib.ConvBytes
import Derived.Laws.Slices
import Derived.WalkKit
import Derived.KernelRfl
import Derived.RowKit3
import Derived.Deep.LoopGhost
import Derived.Deep.QuietTactic
import Derived.BigQuiet
import Derived.WideLaws
import Derived.Deep.DeepCutAuto
import Derived.Deep.CutBlock
import Derived.Deep.RegionHeld3
import Derived.Laws.Rows
import Derived.Lib.AppendStr
import Derived.ArgAppend
import Derived.Laws.IdiomCopy
import Derived.OrdersHeld
import Derived.Laws.BitsLemmas
import Derived.RowKit
import Derived.Test.YtghhphndbbefjaaDoorWWords
import Derived.Test.YtghhphndbbefjaaDoorWLast
import Derived.Test.YtghhphndbbefjaaDoorWTab
import Derived.Test.YtghhphndbbefjaaDoorWFour
import Derived.Test.YtghhphndbbefjaaDoorWQPut
import Derived.Test.YtghhphndbbefjaaDoorWApart
import Derived.Test.YtghhphndbbefjaaDoorWArr
import Derived.Test.YtghhphndbbefjaaDoorWZeros
import Derived.Test.YtghhphndbbefjaaDoorWFoot
import Derived.Test.YtghhphndbbefjaaDoorWKept
import Derived.Test.YtghhphndbbefjaaDoorWShare
import Derived.Test.YtghhphndbbefjaaDoorWN
import Derived.Test.YtghhphndbbefjaaDoorWFootNe
import Derived.Test.YtghhphndbbefjaaDoorWAt
import Derived.Test.YtghhphndbbefjaaDoorWEqStruct
import Derived.Test.YtghhphndbbefjaaDoorWRepsOne
import Derived.Test.YtghhphndbbefjaaDoorWInv
import Derived.Test.YtghhphndbbefjaaDoorWInvWords
import Derived.Test.YtghhphndbbefjaaDoorWGuard
import Derived.Test.YtghhphndbbefjaaDoorWNEv
import Derived.Test.YtghhphndbbefjaaDoorWMore
namespace Go.Proofs.YtghhphndbbefjaaDoor.X
open Go.RowKit Go.Proofs.YtghhphndbbefjaaDoorW.PrintWords Go.Proofs.YtghhphndbbefjaaDoorW.PrintLast Go.Proofs.YtghhphndbbefjaaDoorW.PrintMore
attribute [local go_sem] max2_int min2_int max_two min_two max_three min_three max_four min_four   -- for this text's walks alone
set_option linter.unusedVariables false
set_option linter.unusedSimpArgs false



def errW : Option Int → Value
  | none => .nilIface
  | some c => .iface 0 (.int .i64 c)
theorem errW_none : errW none = .nilIface := rfl
theorem errW_some (c : Int) : errW (some c) = .iface 0 (.int .i64 c) := rfl

theorem info2 : (Tryd.prog.info? 2).map (fun i => (i.zero, i.size, i.bytes)) = some (some (.int .i64 0), 1, 8) := by kernel_rfl
-- the values' own types

end Go.Proofs.YtghhphndbbefjaaDoor.X
