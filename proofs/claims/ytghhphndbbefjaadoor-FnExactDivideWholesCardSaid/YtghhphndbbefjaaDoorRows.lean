/-
  NARROWER THAN 'FOR EVERY INPUT', by the rows' own cells (each row's printed sentence says how): FnExactDivideWholes: laid · FnExactWholeText: laid · FnExactRootOfWhole: laid · FnExactCommonOfWholes: laid · FnExactAddExacts: laid · FnExactSquareOfExact: laid · FnExactMultiplyExacts: laid · FnExactRootAbove: laid.
  DERIVED. THE GIVEN ROWS OF THIS SEAT. 8 by the template 'for every input the law returns true; each argument reads behind the call as it read before'; 0 by the template 'total and deterministic' (their statements: YtghhphndbbefjaaDoorTotals.lean).
  GIVEN WITH THE SEED: the statements are not yours to turn. If you find one false, say at which input.
  Laid BY PROGRAM, IN A SANDBOX (cutbox-rows.mjs): the forced cells as the released guide's own fill.sh prints them over the translation d9f501893fcc8f78… (all of the seat's roots in one cut). By AI agents, Wed Nov 11 2026. No macro, syntax, notation, axiom, sorry.
-/
import Derived.Test.YtghhphndbbefjaaDoorChecked
import GoSem.Claim
import GoSem.ClaimJoined
import GoSem.ClaimMapViews
import Derived.JoinedTies
import Derived.KernelRfl
namespace Go.Proofs.YtghhphndbbefjaaDoor
/- THE CELL 'sum', in the pinned program and in every row, IS THE sha256 OF THE DUMP (.gsa) THAT YtghhphndbbefjaaDoorProg.lean LOADS. Nothing in Lean hashes anything: it is a label: what it is worth is what the hold of that sum in a sandbox is worth. -/
noncomputable def Tryd.pinned : Pinned := { name := "ytghhphndbbefjaadoor", sum := "d9f501893fcc8f7807144c3ae0a0b296d73acc6fb119860f3fbffb52ca58084c", checked := Tryd.checked }
namespace Rows
def none {H : Type} : Left H := { results := [], args := [] }

/- WHAT THE LISTED PACKAGE-LEVEL VARIABLES READ AS WHEN THE CALL BEGINS. Each datum BY PROGRAM (the guide's laid-datum.mjs) off the statement by which the dump's own 'gosem.cut.vars' lays the variable. In a bare row this is a premise. The card (YtghhphndbbefjaaDoorCards.lean) ties it to the program's text. -/
def laid_math_bits_deBruijn32tab {H : Type} : DataW H := .agg [.lit (.int .u8 0), .lit (.int .u8 1), .lit (.int .u8 28), .lit (.int .u8 2), .lit (.int .u8 29), .lit (.int .u8 14), .lit (.int .u8 24), .lit (.int .u8 3), .lit (.int .u8 30), .lit (.int .u8 22), .lit (.int .u8 20), .lit (.int .u8 15), .lit (.int .u8 25), .lit (.int .u8 17), .lit (.int .u8 4), .lit (.int .u8 8), .lit (.int .u8 31), .lit (.int .u8 27), .lit (.int .u8 13), .lit (.int .u8 23), .lit (.int .u8 21), .lit (.int .u8 19), .lit (.int .u8 16), .lit (.int .u8 7), .lit (.int .u8 26), .lit (.int .u8 12), .lit (.int .u8 18), .lit (.int .u8 6), .lit (.int .u8 11), .lit (.int .u8 5), .lit (.int .u8 10), .lit (.int .u8 9)]

/-- 'laws.FnExactDivideWholes': WHATEVER THE INPUT: true; the input reads as it did. -/
def fnExactDivideWholesSpec : ChangeSpec := { name := "fnExactDivideWholes", fn := fun _ => fun
  | [d1, d2] => { results := [.lit (.bool true)], args := [d1, d2] }
  | _ => none }
def fnExactDivideWholesRow : OpenClaim := { program := "ytghhphndbbefjaadoor", sum := "d9f501893fcc8f7807144c3ae0a0b296d73acc6fb119860f3fbffb52ca58084c", func := "loop.example/g01156/laws.FnExactDivideWholes", spec := "fnExactDivideWholes", named := ["math/bits.deBruijn32tab"], apart := false, laid := [("math/bits.deBruijn32tab", laid_math_bits_deBruijn32tab)] }
def FnExactDivideWholesSaid : Prop := fnExactDivideWholesRow.holds Tryd.pinned (OpenSpec.ofChange fnExactDivideWholesSpec)

/-- ITS FALSE NEIGHBOUR: 'it returns false'. Refute it at one input. -/
def fnExactDivideWholesWrong : ChangeSpec := { name := "fnExactDivideWholes", fn := fun _ => fun
  | [d1, d2] => { results := [.lit (.bool false)], args := [d1, d2] }
  | _ => none }
def FnExactDivideWholesWrongFalsely : Prop := fnExactDivideWholesRow.holds Tryd.pinned (OpenSpec.ofChange fnExactDivideWholesWrong)

/-- 'laws.FnExactWholeText': WHATEVER THE INPUT: true; the input reads as it did. -/
def fnExactWholeTextSpec : ChangeSpec := { name := "fnExactWholeText", fn := fun _ => fun
  | [d] => { results := [.lit (.bool true)], args := [d] }
  | _ => none }
def fnExactWholeTextRow : OpenClaim := { program := "ytghhphndbbefjaadoor", sum := "d9f501893fcc8f7807144c3ae0a0b296d73acc6fb119860f3fbffb52ca58084c", func := "loop.example/g01156/laws.FnExactWholeText", spec := "fnExactWholeText", recurses := true, named := ["math/bits.deBruijn32tab"], apart := false, laid := [("math/bits.deBruijn32tab", laid_math_bits_deBruijn32tab)] }
def FnExactWholeTextSaid : Prop := fnExactWholeTextRow.holds Tryd.pinned (OpenSpec.ofChange fnExactWholeTextSpec)

/-- ITS FALSE NEIGHBOUR: 'it returns false'. Refute it at one input. -/
def fnExactWholeTextWrong : ChangeSpec := { name := "fnExactWholeText", fn := fun _ => fun
  | [d] => { results := [.lit (.bool false)], args := [d] }
  | _ => none }
def FnExactWholeTextWrongFalsely : Prop := fnExactWholeTextRow.holds Tryd.pinned (OpenSpec.ofChange fnExactWholeTextWrong)

/-- 'laws.FnExactRootOfWhole': WHATEVER THE INPUT: true; the input reads as it did. -/
def fnExactRootOfWholeSpec : ChangeSpec := { name := "fnExactRootOfWhole", fn := fun _ => fun
  | [d] => { results := [.lit (.bool true)], args := [d] }
  | _ => none }
def fnExactRootOfWholeRow : OpenClaim := { program := "ytghhphndbbefjaadoor", sum := "d9f501893fcc8f7807144c3ae0a0b296d73acc6fb119860f3fbffb52ca58084c", func := "loop.example/g01156/laws.FnExactRootOfWhole", spec := "fnExactRootOfWhole", named := ["math/bits.deBruijn32tab"], apart := false, laid := [("math/bits.deBruijn32tab", laid_math_bits_deBruijn32tab)] }
def FnExactRootOfWholeSaid : Prop := fnExactRootOfWholeRow.holds Tryd.pinned (OpenSpec.ofChange fnExactRootOfWholeSpec)

/-- ITS FALSE NEIGHBOUR: 'it returns false'. Refute it at one input. -/
def fnExactRootOfWholeWrong : ChangeSpec := { name := "fnExactRootOfWhole", fn := fun _ => fun
  | [d] => { results := [.lit (.bool false)], args := [d] }
  | _ => none }
def FnExactRootOfWholeWrongFalsely : Prop := fnExactRootOfWholeRow.holds Tryd.pinned (OpenSpec.ofChange fnExactRootOfWholeWrong)

/-- 'laws.FnExactCommonOfWholes': WHATEVER THE INPUT: true; the input reads as it did. -/
def fnExactCommonOfWholesSpec : ChangeSpec := { name := "fnExactCommonOfWholes", fn := fun _ => fun
  | [d1, d2] => { results := [.lit (.bool true)], args := [d1, d2] }
  | _ => none }
def fnExactCommonOfWholesRow : OpenClaim := { program := "ytghhphndbbefjaadoor", sum := "d9f501893fcc8f7807144c3ae0a0b296d73acc6fb119860f3fbffb52ca58084c", func := "loop.example/g01156/laws.FnExactCommonOfWholes", spec := "fnExactCommonOfWholes", unfollowed := true, recurses := true, named := ["math/bits.deBruijn32tab"], apart := false, laid := [("math/bits.deBruijn32tab", laid_math_bits_deBruijn32tab)] }
def FnExactCommonOfWholesSaid : Prop := fnExactCommonOfWholesRow.holds Tryd.pinned (OpenSpec.ofChange fnExactCommonOfWholesSpec)

/-- ITS FALSE NEIGHBOUR: 'it returns false'. Refute it at one input. -/
def fnExactCommonOfWholesWrong : ChangeSpec := { name := "fnExactCommonOfWholes", fn := fun _ => fun
  | [d1, d2] => { results := [.lit (.bool false)], args := [d1, d2] }
  | _ => none }
def FnExactCommonOfWholesWrongFalsely : Prop := fnExactCommonOfWholesRow.holds Tryd.pinned (OpenSpec.ofChange fnExactCommonOfWholesWrong)

/-- 'laws.FnExactAddExacts': WHATEVER THE INPUT: true; the input reads as it did. -/
def fnExactAddExactsSpec : ChangeSpec := { name := "fnExactAddExacts", fn := fun _ => fun
  | [d1, d2] => { results := [.lit (.bool true)], args := [d1, d2] }
  | _ => none }
def fnExactAddExactsRow : OpenClaim := { program := "ytghhphndbbefjaadoor", sum := "d9f501893fcc8f7807144c3ae0a0b296d73acc6fb119860f3fbffb52ca58084c", func := "loop.example/g01156/laws.FnExactAddExacts", spec := "fnExactAddExacts", named := ["math/bits.deBruijn32tab"], apart := false, laid := [("math/bits.deBruijn32tab", laid_math_bits_deBruijn32tab)] }
def FnExactAddExactsSaid : Prop := fnExactAddExactsRow.holds Tryd.pinned (OpenSpec.ofChange fnExactAddExactsSpec)

/-- ITS FALSE NEIGHBOUR: 'it returns false'. Refute it at one input. -/
def fnExactAddExactsWrong : ChangeSpec := { name := "fnExactAddExacts", fn := fun _ => fun
  | [d1, d2] => { results := [.lit (.bool false)], args := [d1, d2] }
  | _ => none }
def FnExactAddExactsWrongFalsely : Prop := fnExactAddExactsRow.holds Tryd.pinned (OpenSpec.ofChange fnExactAddExactsWrong)

/-- 'laws.FnExactSquareOfExact': WHATEVER THE INPUT: true; the input reads as it did. -/
def fnExactSquareOfExactSpec : ChangeSpec := { name := "fnExactSquareOfExact", fn := fun _ => fun
  | [d] => { results := [.lit (.bool true)], args := [d] }
  | _ => none }
def fnExactSquareOfExactRow : OpenClaim := { program := "ytghhphndbbefjaadoor", sum := "d9f501893fcc8f7807144c3ae0a0b296d73acc6fb119860f3fbffb52ca58084c", func := "loop.example/g01156/laws.FnExactSquareOfExact", spec := "fnExactSquareOfExact", named := ["math/bits.deBruijn32tab"], apart := false, laid := [("math/bits.deBruijn32tab", laid_math_bits_deBruijn32tab)] }
def FnExactSquareOfExactSaid : Prop := fnExactSquareOfExactRow.holds Tryd.pinned (OpenSpec.ofChange fnExactSquareOfExactSpec)

/-- ITS FALSE NEIGHBOUR: 'it returns false'. Refute it at one input. -/
def fnExactSquareOfExactWrong : ChangeSpec := { name := "fnExactSquareOfExact", fn := fun _ => fun
  | [d] => { results := [.lit (.bool false)], args := [d] }
  | _ => none }
def FnExactSquareOfExactWrongFalsely : Prop := fnExactSquareOfExactRow.holds Tryd.pinned (OpenSpec.ofChange fnExactSquareOfExactWrong)

/-- 'laws.FnExactMultiplyExacts': WHATEVER THE INPUT: true; the input reads as it did. -/
def fnExactMultiplyExactsSpec : ChangeSpec := { name := "fnExactMultiplyExacts", fn := fun _ => fun
  | [d1, d2] => { results := [.lit (.bool true)], args := [d1, d2] }
  | _ => none }
def fnExactMultiplyExactsRow : OpenClaim := { program := "ytghhphndbbefjaadoor", sum := "d9f501893fcc8f7807144c3ae0a0b296d73acc6fb119860f3fbffb52ca58084c", func := "loop.example/g01156/laws.FnExactMultiplyExacts", spec := "fnExactMultiplyExacts", named := ["math/bits.deBruijn32tab"], apart := false, laid := [("math/bits.deBruijn32tab", laid_math_bits_deBruijn32tab)] }
def FnExactMultiplyExactsSaid : Prop := fnExactMultiplyExactsRow.holds Tryd.pinned (OpenSpec.ofChange fnExactMultiplyExactsSpec)

/-- ITS FALSE NEIGHBOUR: 'it returns false'. Refute it at one input. -/
def fnExactMultiplyExactsWrong : ChangeSpec := { name := "fnExactMultiplyExacts", fn := fun _ => fun
  | [d1, d2] => { results := [.lit (.bool false)], args := [d1, d2] }
  | _ => none }
def FnExactMultiplyExactsWrongFalsely : Prop := fnExactMultiplyExactsRow.holds Tryd.pinned (OpenSpec.ofChange fnExactMultiplyExactsWrong)

/-- 'laws.FnExactRootAbove': WHATEVER THE INPUT: true; the input reads as it did. -/
def fnExactRootAboveSpec : ChangeSpec := { name := "fnExactRootAbove", fn := fun _ => fun
  | [d1, d2] => { results := [.lit (.bool true)], args := [d1, d2] }
  | _ => none }
def fnExactRootAboveRow : OpenClaim := { program := "ytghhphndbbefjaadoor", sum := "d9f501893fcc8f7807144c3ae0a0b296d73acc6fb119860f3fbffb52ca58084c", func := "loop.example/g01156/laws.FnExactRootAbove", spec := "fnExactRootAbove", named := ["math/bits.deBruijn32tab"], apart := false, laid := [("math/bits.deBruijn32tab", laid_math_bits_deBruijn32tab)] }
def FnExactRootAboveSaid : Prop := fnExactRootAboveRow.holds Tryd.pinned (OpenSpec.ofChange fnExactRootAboveSpec)

/-- ITS FALSE NEIGHBOUR: 'it returns false'. Refute it at one input. -/
def fnExactRootAboveWrong : ChangeSpec := { name := "fnExactRootAbove", fn := fun _ => fun
  | [d1, d2] => { results := [.lit (.bool false)], args := [d1, d2] }
  | _ => none }
def FnExactRootAboveWrongFalsely : Prop := fnExactRootAboveRow.holds Tryd.pinned (OpenSpec.ofChange fnExactRootAboveWrong)

/- THE SECOND FORM. 'bulk': how many values and letters a reading holds, each counted each time it is reached (what is shared counts as often as it is met; a slice's spare places count too). A statement '..UptoSaid' is the law's where the arguments, and the package variables that the reading takes, are together of bulk at most 1048576: NARROWER than '..Said'. Prove '..Said' where nothing that the law and all that it calls make is longer than what came in: it says more and counts as full. Else prove '..UptoSaid'. A law counts once. -/
mutual
def uptoBulk {H : Type} : DataW H → Nat
  | .lit (.string bytes) => bytes.length + 1
  | .lit _ => 1
  | .nil => 1
  | .ptr d => uptoBulk d + 1
  | .slice elems spare => uptoBulkAll elems + uptoBulkAll spare + 1
  | .agg parts => uptoBulkAll parts + 1
  | .iface _ d => uptoBulk d + 1
  | .map entries => uptoBulkEntries entries + 1
  | .held _ => 1
def uptoBulkAll {H : Type} : List (DataW H) → Nat
  | [] => 0
  | d :: r => uptoBulk d + uptoBulkAll r
def uptoBulkEntries {H : Type} : List (Lit × DataW H) → Nat
  | [] => 0
  | x :: r => uptoBulkEntry x + uptoBulkEntries r
def uptoBulkEntry {H : Type} : Lit × DataW H → Nat
  | (.string bytes, d) => bytes.length + uptoBulk d + 1
  | (_, d) => uptoBulk d + 1
 end
def uptoSmall : (H : Type) → List (DataW H) → Bool := fun _ ds => decide (uptoBulkAll ds ≤ 1048576)
def OpenSpec.upto (s : _root_.Go.ChangeSpec) : _root_.Go.OpenSpec := { _root_.Go.OpenSpec.ofChange s with cond := some uptoSmall }

/-- 'laws.FnExactDivideWholes', WHERE WHAT IT READS IS OF BULK AT MOST 1048576: true; the input reads as it did. -/
def fnExactDivideWholesUptoRow : OpenClaim := { program := "ytghhphndbbefjaadoor", sum := "d9f501893fcc8f7807144c3ae0a0b296d73acc6fb119860f3fbffb52ca58084c", func := "loop.example/g01156/laws.FnExactDivideWholes", spec := "fnExactDivideWholes", named := ["math/bits.deBruijn32tab"], apart := false, laid := [("math/bits.deBruijn32tab", laid_math_bits_deBruijn32tab)], narrowed := true }
def FnExactDivideWholesUptoSaid : Prop := fnExactDivideWholesUptoRow.holds Tryd.pinned (OpenSpec.upto fnExactDivideWholesSpec)

/-- 'laws.FnExactWholeText', WHERE WHAT IT READS IS OF BULK AT MOST 1048576: true; the input reads as it did. -/
def fnExactWholeTextUptoRow : OpenClaim := { program := "ytghhphndbbefjaadoor", sum := "d9f501893fcc8f7807144c3ae0a0b296d73acc6fb119860f3fbffb52ca58084c", func := "loop.example/g01156/laws.FnExactWholeText", spec := "fnExactWholeText", recurses := true, named := ["math/bits.deBruijn32tab"], apart := false, laid := [("math/bits.deBruijn32tab", laid_math_bits_deBruijn32tab)], narrowed := true }
def FnExactWholeTextUptoSaid : Prop := fnExactWholeTextUptoRow.holds Tryd.pinned (OpenSpec.upto fnExactWholeTextSpec)

/-- 'laws.FnExactRootOfWhole', WHERE WHAT IT READS IS OF BULK AT MOST 1048576: true; the input reads as it did. -/
def fnExactRootOfWholeUptoRow : OpenClaim := { program := "ytghhphndbbefjaadoor", sum := "d9f501893fcc8f7807144c3ae0a0b296d73acc6fb119860f3fbffb52ca58084c", func := "loop.example/g01156/laws.FnExactRootOfWhole", spec := "fnExactRootOfWhole", named := ["math/bits.deBruijn32tab"], apart := false, laid := [("math/bits.deBruijn32tab", laid_math_bits_deBruijn32tab)], narrowed := true }
def FnExactRootOfWholeUptoSaid : Prop := fnExactRootOfWholeUptoRow.holds Tryd.pinned (OpenSpec.upto fnExactRootOfWholeSpec)

/-- 'laws.FnExactCommonOfWholes', WHERE WHAT IT READS IS OF BULK AT MOST 1048576: true; the input reads as it did. -/
def fnExactCommonOfWholesUptoRow : OpenClaim := { program := "ytghhphndbbefjaadoor", sum := "d9f501893fcc8f7807144c3ae0a0b296d73acc6fb119860f3fbffb52ca58084c", func := "loop.example/g01156/laws.FnExactCommonOfWholes", spec := "fnExactCommonOfWholes", unfollowed := true, recurses := true, named := ["math/bits.deBruijn32tab"], apart := false, laid := [("math/bits.deBruijn32tab", laid_math_bits_deBruijn32tab)], narrowed := true }
def FnExactCommonOfWholesUptoSaid : Prop := fnExactCommonOfWholesUptoRow.holds Tryd.pinned (OpenSpec.upto fnExactCommonOfWholesSpec)

/-- 'laws.FnExactAddExacts', WHERE WHAT IT READS IS OF BULK AT MOST 1048576: true; the input reads as it did. -/
def fnExactAddExactsUptoRow : OpenClaim := { program := "ytghhphndbbefjaadoor", sum := "d9f501893fcc8f7807144c3ae0a0b296d73acc6fb119860f3fbffb52ca58084c", func := "loop.example/g01156/laws.FnExactAddExacts", spec := "fnExactAddExacts", named := ["math/bits.deBruijn32tab"], apart := false, laid := [("math/bits.deBruijn32tab", laid_math_bits_deBruijn32tab)], narrowed := true }
def FnExactAddExactsUptoSaid : Prop := fnExactAddExactsUptoRow.holds Tryd.pinned (OpenSpec.upto fnExactAddExactsSpec)

/-- 'laws.FnExactSquareOfExact', WHERE WHAT IT READS IS OF BULK AT MOST 1048576: true; the input reads as it did. -/
def fnExactSquareOfExactUptoRow : OpenClaim := { program := "ytghhphndbbefjaadoor", sum := "d9f501893fcc8f7807144c3ae0a0b296d73acc6fb119860f3fbffb52ca58084c", func := "loop.example/g01156/laws.FnExactSquareOfExact", spec := "fnExactSquareOfExact", named := ["math/bits.deBruijn32tab"], apart := false, laid := [("math/bits.deBruijn32tab", laid_math_bits_deBruijn32tab)], narrowed := true }
def FnExactSquareOfExactUptoSaid : Prop := fnExactSquareOfExactUptoRow.holds Tryd.pinned (OpenSpec.upto fnExactSquareOfExactSpec)

/-- 'laws.FnExactMultiplyExacts', WHERE WHAT IT READS IS OF BULK AT MOST 1048576: true; the input reads as it did. -/
def fnExactMultiplyExactsUptoRow : OpenClaim := { program := "ytghhphndbbefjaadoor", sum := "d9f501893fcc8f7807144c3ae0a0b296d73acc6fb119860f3fbffb52ca58084c", func := "loop.example/g01156/laws.FnExactMultiplyExacts", spec := "fnExactMultiplyExacts", named := ["math/bits.deBruijn32tab"], apart := false, laid := [("math/bits.deBruijn32tab", laid_math_bits_deBruijn32tab)], narrowed := true }
def FnExactMultiplyExactsUptoSaid : Prop := fnExactMultiplyExactsUptoRow.holds Tryd.pinned (OpenSpec.upto fnExactMultiplyExactsSpec)

/-- 'laws.FnExactRootAbove', WHERE WHAT IT READS IS OF BULK AT MOST 1048576: true; the input reads as it did. -/
def fnExactRootAboveUptoRow : OpenClaim := { program := "ytghhphndbbefjaadoor", sum := "d9f501893fcc8f7807144c3ae0a0b296d73acc6fb119860f3fbffb52ca58084c", func := "loop.example/g01156/laws.FnExactRootAbove", spec := "fnExactRootAbove", named := ["math/bits.deBruijn32tab"], apart := false, laid := [("math/bits.deBruijn32tab", laid_math_bits_deBruijn32tab)], narrowed := true }
def FnExactRootAboveUptoSaid : Prop := fnExactRootAboveUptoRow.holds Tryd.pinned (OpenSpec.upto fnExactRootAboveSpec)

end Rows
end Go.Proofs.YtghhphndbbefjaaDoor
