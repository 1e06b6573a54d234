/- Functions of the program as plain Lean functions, each with a proof that its call does what that function says. Printed by a program over the kit's print; conditions stand in each contract. -/
import Derived.Test.YteefmpcmfkfmnaaProg
import Derived.Below
import Derived.Deep.Draws
import Derived.Deep.AppendLies
import Derived.Maps.AppendAt
import Derived.OwnWalk
import Derived.Laws.BytesArg
import Derived.Laws.MakeOwn
import Derived.Laws.OwnMore
import Derived.Deep.OwnRows
import Derived.Tactics
import Derived.Lib.ConvBytes
import Derived.Laws.Slices
import Derived.WalkKit
import Derived.KernelRfl
import Derived.RowKit3
import Derived.Deep.LoopGhost
import Derived.Deep.QuietTactic
import Derived.BigQuiet
import Derived.WideLaws
import Derived.Deep.DeepCutAuto
import Derived.Deep.CutBlock
import Derived.Deep.RegionHeld3
import Derived.Laws.Rows
import Derived.Lib.AppendStr
import Derived.ArgAppend
import Derived.Laws.IdiomCopy
import Derived.OrdersHeld
import Derived.Laws.BitsLemmas
import Derived.RowKit
import Derived.Test.YteefmpcmfkfmnaaWWords
import Derived.Test.YteefmpcmfkfmnaaWLast
import Derived.Test.YteefmpcmfkfmnaaWTab
import Derived.Test.YteefmpcmfkfmnaaWFour
import Derived.Test.YteefmpcmfkfmnaaWQPut
import Derived.Test.YteefmpcmfkfmnaaWApart
import Derived.Test.YteefmpcmfkfmnaaWArr
import Derived.Test.YteefmpcmfkfmnaaWZeros
import Derived.Test.YteefmpcmfkfmnaaWFoot
import Derived.Test.YteefmpcmfkfmnaaWKept
import Derived.Test.YteefmpcmfkfmnaaWShare
import Derived.Test.YteefmpcmfkfmnaaWN
import Derived.Test.YteefmpcmfkfmnaaWFootNe
import Derived.Test.YteefmpcmfkfmnaaWAt
import Derived.Test.YteefmpcmfkfmnaaWEqStruct
import Derived.Test.YteefmpcmfkfmnaaWRepsOne
import Derived.Test.YteefmpcmfkfmnaaWInv
import Derived.Test.YteefmpcmfkfmnaaWInvWords
import Derived.Test.YteefmpcmfkfmnaaWGuard
import Derived.Test.YteefmpcmfkfmnaaWNEv
import Derived.Test.YteefmpcmfkfmnaaWMore
namespace Go.Proofs.Yteefmpcmfkfmnaa.P
open Go.RowKit Go.Proofs.YteefmpcmfkfmnaaW.PrintWords Go.Proofs.YteefmpcmfkfmnaaW.PrintLast Go.Proofs.YteefmpcmfkfmnaaW.PrintMore
attribute [local go_sem] max2_int min2_int max_two min_two max_three min_three max_four min_four   -- for this text's walks alone
set_option linter.unusedVariables false
set_option linter.unusedSimpArgs false



def errW : Option Int → Value
  | none => .nilIface
  | some c => .iface 0 (.int .i64 c)
theorem errW_none : errW none = .nilIface := rfl
theorem errW_some (c : Int) : errW (some c) = .iface 0 (.int .i64 c) := rfl

theorem info2 : (Try.prog.info? 2).map (fun i => (i.zero, i.size, i.bytes)) = some (some (.int .i64 0), 1, 8) := by kernel_rfl
-- the values' own types

end Go.Proofs.Yteefmpcmfkfmnaa.P
