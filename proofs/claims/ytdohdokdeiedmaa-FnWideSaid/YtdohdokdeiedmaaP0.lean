/- Functions of the program as plain Lean functions, each with a proof that its call does what that function says. Printed by a program over the kit's print; conditions stand in each contract. -/
import Derived.Test.YtdohdokdeiedmaaProg
import Derived.Below
import Derived.Deep.Draws
import Derived.Deep.AppendLies
import Derived.Maps.AppendAt
import Derived.OwnWalk
import Derived.Laws.BytesArg
import Derived.Laws.MakeOwn
import Derived.Laws.OwnMore
import Derived.Deep.OwnRows
import Derived.Tactics
import Derived.Lib.ConvBytes
import Derived.Laws.Slices
import Derived.WalkKit
import Derived.KernelRfl
import Derived.RowKit3
import Derived.Deep.LoopGhost
import Derived.Deep.QuietTactic
import Derived.BigQuiet
import Derived.WideLaws
import Derived.Deep.DeepCutAuto
import Derived.Deep.CutBlock
import Derived.Deep.RegionHeld3
import Derived.Laws.Rows
import Derived.Lib.AppendStr
import Derived.ArgAppend
import Derived.Laws.IdiomCopy
import Derived.OrdersHeld
import Derived.Laws.BitsLemmas
import Derived.RowKit
import Derived.Test.YtdohdokdeiedmaaWWords
import Derived.Test.YtdohdokdeiedmaaWLast
import Derived.Test.YtdohdokdeiedmaaWTab
import Derived.Test.YtdohdokdeiedmaaWFour
import Derived.Test.YtdohdokdeiedmaaWQPut
import Derived.Test.YtdohdokdeiedmaaWApart
import Derived.Test.YtdohdokdeiedmaaWArr
import Derived.Test.YtdohdokdeiedmaaWZeros
import Derived.Test.YtdohdokdeiedmaaWFoot
import Derived.Test.YtdohdokdeiedmaaWKept
import Derived.Test.YtdohdokdeiedmaaWShare
import Derived.Test.YtdohdokdeiedmaaWN
import Derived.Test.YtdohdokdeiedmaaWFootNe
import Derived.Test.YtdohdokdeiedmaaWAt
import Derived.Test.YtdohdokdeiedmaaWEqStruct
import Derived.Test.YtdohdokdeiedmaaWRepsOne
import Derived.Test.YtdohdokdeiedmaaWInv
import Derived.Test.YtdohdokdeiedmaaWInvWords
import Derived.Test.YtdohdokdeiedmaaWGuard
import Derived.Test.YtdohdokdeiedmaaWNEv
import Derived.Test.YtdohdokdeiedmaaWMore
namespace Go.Proofs.Ytdohdokdeiedmaa.P
open Go.RowKit Go.Proofs.YtdohdokdeiedmaaW.PrintWords Go.Proofs.YtdohdokdeiedmaaW.PrintLast Go.Proofs.YtdohdokdeiedmaaW.PrintMore
attribute [local go_sem] max2_int min2_int max_two min_two max_three min_three max_four min_four   -- for this text's walks alone
set_option linter.unusedVariables false
set_option linter.unusedSimpArgs false



def errW : Option Int → Value
  | none => .nilIface
  | some c => .iface 0 (.int .i64 c)
theorem errW_none : errW none = .nilIface := rfl
theorem errW_some (c : Int) : errW (some c) = .iface 0 (.int .i64 c) := rfl

-- the values' own types

end Go.Proofs.Ytdohdokdeiedmaa.P
