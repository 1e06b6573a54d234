/-
  NARROWER THAN 'FOR EVERY INPUT', by the rows' own cells (each row's printed sentence says how): FnExactTwosIn: laid · FnExactWholeOf: laid · FnExactParseWhole: laid · FnExactWholeText: laid · FnExactMultiplyWholes: laid · FnExactPowerOfWhole: laid · FnExactAddWholes: laid · FnExactSubtractWholes: laid · FnExactDivideWholes: laid · FnExactShiftWhole: laid · FnExactRootOfWhole: laid · FnExactCommonOfWholes: laid · FnWholeTexts: laid · FnWholes: laid · FnWholeRoots: laid.
  DERIVED. THE GIVEN ROWS OF THIS SEAT. 15 by the template 'for every input the law returns true; each argument reads behind the call as it read before'; 0 by the template 'total and deterministic' (their statements: YtbmjakaoniegfaaDoorTotals.lean).
  GIVEN WITH THE SEED: the statements are not yours to turn. If you find one false, say at which input.
  Laid BY PROGRAM, IN A SANDBOX (cutbox-rows.mjs): the forced cells as the released guide's own fill.sh prints them over the translation ae0dda9d284ef122… (all of the seat's roots in one cut). By AI agents, Wed Nov 11 2026. No macro, syntax, notation, axiom, sorry.
-/
import Derived.Test.YtbmjakaoniegfaaDoorChecked
import GoSem.Claim
import GoSem.ClaimJoined
import GoSem.ClaimMapViews
import Derived.JoinedTies
import Derived.KernelRfl
namespace Go.Proofs.YtbmjakaoniegfaaDoor
/- THE CELL 'sum', in the pinned program and in every row, IS THE sha256 OF THE DUMP (.gsa) THAT YtbmjakaoniegfaaDoorProg.lean LOADS. Nothing in Lean hashes anything: it is a label: what it is worth is what the hold of that sum in a sandbox is worth. -/
noncomputable def Tryd.pinned : Pinned := { name := "ytbmjakaoniegfaadoor", sum := "ae0dda9d284ef12227105488346ae655a9cd699cdde0a04e8dcf5bc0e0c1989e", checked := Tryd.checked }
namespace Rows
def none {H : Type} : Left H := { results := [], args := [] }

/- WHAT THE LISTED PACKAGE-LEVEL VARIABLES READ AS WHEN THE CALL BEGINS. Each datum BY PROGRAM (the guide's laid-datum.mjs) off the statement by which the dump's own 'gosem.cut.vars' lays the variable. In a bare row this is a premise. The card (YtbmjakaoniegfaaDoorCards.lean) ties it to the program's text. -/
def laid_math_bits_deBruijn32tab {H : Type} : DataW H := .agg [.lit (.int .u8 0), .lit (.int .u8 1), .lit (.int .u8 28), .lit (.int .u8 2), .lit (.int .u8 29), .lit (.int .u8 14), .lit (.int .u8 24), .lit (.int .u8 3), .lit (.int .u8 30), .lit (.int .u8 22), .lit (.int .u8 20), .lit (.int .u8 15), .lit (.int .u8 25), .lit (.int .u8 17), .lit (.int .u8 4), .lit (.int .u8 8), .lit (.int .u8 31), .lit (.int .u8 27), .lit (.int .u8 13), .lit (.int .u8 23), .lit (.int .u8 21), .lit (.int .u8 19), .lit (.int .u8 16), .lit (.int .u8 7), .lit (.int .u8 26), .lit (.int .u8 12), .lit (.int .u8 18), .lit (.int .u8 6), .lit (.int .u8 11), .lit (.int .u8 5), .lit (.int .u8 10), .lit (.int .u8 9)]

/-- 'laws.FnExactTwosIn': WHATEVER THE INPUT: true; the input reads as it did. -/
def fnExactTwosInSpec : ChangeSpec := { name := "fnExactTwosIn", fn := fun _ => fun
  | [d] => { results := [.lit (.bool true)], args := [d] }
  | _ => none }
def fnExactTwosInRow : OpenClaim := { program := "ytbmjakaoniegfaadoor", sum := "ae0dda9d284ef12227105488346ae655a9cd699cdde0a04e8dcf5bc0e0c1989e", func := "loop.example/g01156/laws.FnExactTwosIn", spec := "fnExactTwosIn", named := ["math/bits.deBruijn32tab"], apart := false, laid := [("math/bits.deBruijn32tab", laid_math_bits_deBruijn32tab)] }
def FnExactTwosInSaid : Prop := fnExactTwosInRow.holds Tryd.pinned (OpenSpec.ofChange fnExactTwosInSpec)

/-- ITS FALSE NEIGHBOUR: 'it returns false'. Refute it at one input. -/
def fnExactTwosInWrong : ChangeSpec := { name := "fnExactTwosIn", fn := fun _ => fun
  | [d] => { results := [.lit (.bool false)], args := [d] }
  | _ => none }
def FnExactTwosInWrongFalsely : Prop := fnExactTwosInRow.holds Tryd.pinned (OpenSpec.ofChange fnExactTwosInWrong)

/-- 'laws.FnExactWholeOf': WHATEVER THE INPUT: true; the input reads as it did. -/
def fnExactWholeOfSpec : ChangeSpec := { name := "fnExactWholeOf", fn := fun _ => fun
  | [d] => { results := [.lit (.bool true)], args := [d] }
  | _ => none }
def fnExactWholeOfRow : OpenClaim := { program := "ytbmjakaoniegfaadoor", sum := "ae0dda9d284ef12227105488346ae655a9cd699cdde0a04e8dcf5bc0e0c1989e", func := "loop.example/g01156/laws.FnExactWholeOf", spec := "fnExactWholeOf", named := ["math/bits.deBruijn32tab"], apart := false, laid := [("math/bits.deBruijn32tab", laid_math_bits_deBruijn32tab)] }
def FnExactWholeOfSaid : Prop := fnExactWholeOfRow.holds Tryd.pinned (OpenSpec.ofChange fnExactWholeOfSpec)

/-- ITS FALSE NEIGHBOUR: 'it returns false'. Refute it at one input. -/
def fnExactWholeOfWrong : ChangeSpec := { name := "fnExactWholeOf", fn := fun _ => fun
  | [d] => { results := [.lit (.bool false)], args := [d] }
  | _ => none }
def FnExactWholeOfWrongFalsely : Prop := fnExactWholeOfRow.holds Tryd.pinned (OpenSpec.ofChange fnExactWholeOfWrong)

/-- 'laws.FnExactParseWhole': WHATEVER THE INPUT: true; the input reads as it did. -/
def fnExactParseWholeSpec : ChangeSpec := { name := "fnExactParseWhole", fn := fun _ => fun
  | [d] => { results := [.lit (.bool true)], args := [d] }
  | _ => none }
def fnExactParseWholeRow : OpenClaim := { program := "ytbmjakaoniegfaadoor", sum := "ae0dda9d284ef12227105488346ae655a9cd699cdde0a04e8dcf5bc0e0c1989e", func := "loop.example/g01156/laws.FnExactParseWhole", spec := "fnExactParseWhole", named := ["math/bits.deBruijn32tab"], apart := false, laid := [("math/bits.deBruijn32tab", laid_math_bits_deBruijn32tab)] }
def FnExactParseWholeSaid : Prop := fnExactParseWholeRow.holds Tryd.pinned (OpenSpec.ofChange fnExactParseWholeSpec)

/-- ITS FALSE NEIGHBOUR: 'it returns false'. Refute it at one input. -/
def fnExactParseWholeWrong : ChangeSpec := { name := "fnExactParseWhole", fn := fun _ => fun
  | [d] => { results := [.lit (.bool false)], args := [d] }
  | _ => none }
def FnExactParseWholeWrongFalsely : Prop := fnExactParseWholeRow.holds Tryd.pinned (OpenSpec.ofChange fnExactParseWholeWrong)

/-- 'laws.FnExactWholeText': WHATEVER THE INPUT: true; the input reads as it did. -/
def fnExactWholeTextSpec : ChangeSpec := { name := "fnExactWholeText", fn := fun _ => fun
  | [d] => { results := [.lit (.bool true)], args := [d] }
  | _ => none }
def fnExactWholeTextRow : OpenClaim := { program := "ytbmjakaoniegfaadoor", sum := "ae0dda9d284ef12227105488346ae655a9cd699cdde0a04e8dcf5bc0e0c1989e", func := "loop.example/g01156/laws.FnExactWholeText", spec := "fnExactWholeText", recurses := true, named := ["math/bits.deBruijn32tab"], apart := false, laid := [("math/bits.deBruijn32tab", laid_math_bits_deBruijn32tab)] }
def FnExactWholeTextSaid : Prop := fnExactWholeTextRow.holds Tryd.pinned (OpenSpec.ofChange fnExactWholeTextSpec)

/-- ITS FALSE NEIGHBOUR: 'it returns false'. Refute it at one input. -/
def fnExactWholeTextWrong : ChangeSpec := { name := "fnExactWholeText", fn := fun _ => fun
  | [d] => { results := [.lit (.bool false)], args := [d] }
  | _ => none }
def FnExactWholeTextWrongFalsely : Prop := fnExactWholeTextRow.holds Tryd.pinned (OpenSpec.ofChange fnExactWholeTextWrong)

/-- 'laws.FnExactMultiplyWholes': WHATEVER THE INPUT: true; the input reads as it did. -/
def fnExactMultiplyWholesSpec : ChangeSpec := { name := "fnExactMultiplyWholes", fn := fun _ => fun
  | [d1, d2] => { results := [.lit (.bool true)], args := [d1, d2] }
  | _ => none }
def fnExactMultiplyWholesRow : OpenClaim := { program := "ytbmjakaoniegfaadoor", sum := "ae0dda9d284ef12227105488346ae655a9cd699cdde0a04e8dcf5bc0e0c1989e", func := "loop.example/g01156/laws.FnExactMultiplyWholes", spec := "fnExactMultiplyWholes", unfollowed := true, recurses := true, named := ["math/bits.deBruijn32tab"], apart := false, laid := [("math/bits.deBruijn32tab", laid_math_bits_deBruijn32tab)] }
def FnExactMultiplyWholesSaid : Prop := fnExactMultiplyWholesRow.holds Tryd.pinned (OpenSpec.ofChange fnExactMultiplyWholesSpec)

/-- ITS FALSE NEIGHBOUR: 'it returns false'. Refute it at one input. -/
def fnExactMultiplyWholesWrong : ChangeSpec := { name := "fnExactMultiplyWholes", fn := fun _ => fun
  | [d1, d2] => { results := [.lit (.bool false)], args := [d1, d2] }
  | _ => none }
def FnExactMultiplyWholesWrongFalsely : Prop := fnExactMultiplyWholesRow.holds Tryd.pinned (OpenSpec.ofChange fnExactMultiplyWholesWrong)

/-- 'laws.FnExactPowerOfWhole': WHATEVER THE INPUT: true; the input reads as it did. -/
def fnExactPowerOfWholeSpec : ChangeSpec := { name := "fnExactPowerOfWhole", fn := fun _ => fun
  | [d1, d2] => { results := [.lit (.bool true)], args := [d1, d2] }
  | _ => none }
def fnExactPowerOfWholeRow : OpenClaim := { program := "ytbmjakaoniegfaadoor", sum := "ae0dda9d284ef12227105488346ae655a9cd699cdde0a04e8dcf5bc0e0c1989e", func := "loop.example/g01156/laws.FnExactPowerOfWhole", spec := "fnExactPowerOfWhole", named := ["math/bits.deBruijn32tab"], apart := false, laid := [("math/bits.deBruijn32tab", laid_math_bits_deBruijn32tab)] }
def FnExactPowerOfWholeSaid : Prop := fnExactPowerOfWholeRow.holds Tryd.pinned (OpenSpec.ofChange fnExactPowerOfWholeSpec)

/-- ITS FALSE NEIGHBOUR: 'it returns false'. Refute it at one input. -/
def fnExactPowerOfWholeWrong : ChangeSpec := { name := "fnExactPowerOfWhole", fn := fun _ => fun
  | [d1, d2] => { results := [.lit (.bool false)], args := [d1, d2] }
  | _ => none }
def FnExactPowerOfWholeWrongFalsely : Prop := fnExactPowerOfWholeRow.holds Tryd.pinned (OpenSpec.ofChange fnExactPowerOfWholeWrong)

/-- 'laws.FnExactAddWholes': WHATEVER THE INPUT: true; the input reads as it did. -/
def fnExactAddWholesSpec : ChangeSpec := { name := "fnExactAddWholes", fn := fun _ => fun
  | [d1, d2] => { results := [.lit (.bool true)], args := [d1, d2] }
  | _ => none }
def fnExactAddWholesRow : OpenClaim := { program := "ytbmjakaoniegfaadoor", sum := "ae0dda9d284ef12227105488346ae655a9cd699cdde0a04e8dcf5bc0e0c1989e", func := "loop.example/g01156/laws.FnExactAddWholes", spec := "fnExactAddWholes", unfollowed := true, recurses := true, named := ["math/bits.deBruijn32tab"], apart := false, laid := [("math/bits.deBruijn32tab", laid_math_bits_deBruijn32tab)] }
def FnExactAddWholesSaid : Prop := fnExactAddWholesRow.holds Tryd.pinned (OpenSpec.ofChange fnExactAddWholesSpec)

/-- ITS FALSE NEIGHBOUR: 'it returns false'. Refute it at one input. -/
def fnExactAddWholesWrong : ChangeSpec := { name := "fnExactAddWholes", fn := fun _ => fun
  | [d1, d2] => { results := [.lit (.bool false)], args := [d1, d2] }
  | _ => none }
def FnExactAddWholesWrongFalsely : Prop := fnExactAddWholesRow.holds Tryd.pinned (OpenSpec.ofChange fnExactAddWholesWrong)

/-- 'laws.FnExactSubtractWholes': WHATEVER THE INPUT: true; the input reads as it did. -/
def fnExactSubtractWholesSpec : ChangeSpec := { name := "fnExactSubtractWholes", fn := fun _ => fun
  | [d1, d2] => { results := [.lit (.bool true)], args := [d1, d2] }
  | _ => none }
def fnExactSubtractWholesRow : OpenClaim := { program := "ytbmjakaoniegfaadoor", sum := "ae0dda9d284ef12227105488346ae655a9cd699cdde0a04e8dcf5bc0e0c1989e", func := "loop.example/g01156/laws.FnExactSubtractWholes", spec := "fnExactSubtractWholes", unfollowed := true, recurses := true, named := ["math/bits.deBruijn32tab"], apart := false, laid := [("math/bits.deBruijn32tab", laid_math_bits_deBruijn32tab)] }
def FnExactSubtractWholesSaid : Prop := fnExactSubtractWholesRow.holds Tryd.pinned (OpenSpec.ofChange fnExactSubtractWholesSpec)

/-- ITS FALSE NEIGHBOUR: 'it returns false'. Refute it at one input. -/
def fnExactSubtractWholesWrong : ChangeSpec := { name := "fnExactSubtractWholes", fn := fun _ => fun
  | [d1, d2] => { results := [.lit (.bool false)], args := [d1, d2] }
  | _ => none }
def FnExactSubtractWholesWrongFalsely : Prop := fnExactSubtractWholesRow.holds Tryd.pinned (OpenSpec.ofChange fnExactSubtractWholesWrong)

/-- 'laws.FnExactDivideWholes': WHATEVER THE INPUT: true; the input reads as it did. -/
def fnExactDivideWholesSpec : ChangeSpec := { name := "fnExactDivideWholes", fn := fun _ => fun
  | [d1, d2] => { results := [.lit (.bool true)], args := [d1, d2] }
  | _ => none }
def fnExactDivideWholesRow : OpenClaim := { program := "ytbmjakaoniegfaadoor", sum := "ae0dda9d284ef12227105488346ae655a9cd699cdde0a04e8dcf5bc0e0c1989e", func := "loop.example/g01156/laws.FnExactDivideWholes", spec := "fnExactDivideWholes", named := ["math/bits.deBruijn32tab"], apart := false, laid := [("math/bits.deBruijn32tab", laid_math_bits_deBruijn32tab)] }
def FnExactDivideWholesSaid : Prop := fnExactDivideWholesRow.holds Tryd.pinned (OpenSpec.ofChange fnExactDivideWholesSpec)

/-- ITS FALSE NEIGHBOUR: 'it returns false'. Refute it at one input. -/
def fnExactDivideWholesWrong : ChangeSpec := { name := "fnExactDivideWholes", fn := fun _ => fun
  | [d1, d2] => { results := [.lit (.bool false)], args := [d1, d2] }
  | _ => none }
def FnExactDivideWholesWrongFalsely : Prop := fnExactDivideWholesRow.holds Tryd.pinned (OpenSpec.ofChange fnExactDivideWholesWrong)

/-- 'laws.FnExactShiftWhole': WHATEVER THE INPUT: true; the input reads as it did. -/
def fnExactShiftWholeSpec : ChangeSpec := { name := "fnExactShiftWhole", fn := fun _ => fun
  | [d1, d2] => { results := [.lit (.bool true)], args := [d1, d2] }
  | _ => none }
def fnExactShiftWholeRow : OpenClaim := { program := "ytbmjakaoniegfaadoor", sum := "ae0dda9d284ef12227105488346ae655a9cd699cdde0a04e8dcf5bc0e0c1989e", func := "loop.example/g01156/laws.FnExactShiftWhole", spec := "fnExactShiftWhole", named := ["math/bits.deBruijn32tab"], apart := false, laid := [("math/bits.deBruijn32tab", laid_math_bits_deBruijn32tab)] }
def FnExactShiftWholeSaid : Prop := fnExactShiftWholeRow.holds Tryd.pinned (OpenSpec.ofChange fnExactShiftWholeSpec)

/-- ITS FALSE NEIGHBOUR: 'it returns false'. Refute it at one input. -/
def fnExactShiftWholeWrong : ChangeSpec := { name := "fnExactShiftWhole", fn := fun _ => fun
  | [d1, d2] => { results := [.lit (.bool false)], args := [d1, d2] }
  | _ => none }
def FnExactShiftWholeWrongFalsely : Prop := fnExactShiftWholeRow.holds Tryd.pinned (OpenSpec.ofChange fnExactShiftWholeWrong)

/-- 'laws.FnExactRootOfWhole': WHATEVER THE INPUT: true; the input reads as it did. -/
def fnExactRootOfWholeSpec : ChangeSpec := { name := "fnExactRootOfWhole", fn := fun _ => fun
  | [d] => { results := [.lit (.bool true)], args := [d] }
  | _ => none }
def fnExactRootOfWholeRow : OpenClaim := { program := "ytbmjakaoniegfaadoor", sum := "ae0dda9d284ef12227105488346ae655a9cd699cdde0a04e8dcf5bc0e0c1989e", func := "loop.example/g01156/laws.FnExactRootOfWhole", spec := "fnExactRootOfWhole", named := ["math/bits.deBruijn32tab"], apart := false, laid := [("math/bits.deBruijn32tab", laid_math_bits_deBruijn32tab)] }
def FnExactRootOfWholeSaid : Prop := fnExactRootOfWholeRow.holds Tryd.pinned (OpenSpec.ofChange fnExactRootOfWholeSpec)

/-- ITS FALSE NEIGHBOUR: 'it returns false'. Refute it at one input. -/
def fnExactRootOfWholeWrong : ChangeSpec := { name := "fnExactRootOfWhole", fn := fun _ => fun
  | [d] => { results := [.lit (.bool false)], args := [d] }
  | _ => none }
def FnExactRootOfWholeWrongFalsely : Prop := fnExactRootOfWholeRow.holds Tryd.pinned (OpenSpec.ofChange fnExactRootOfWholeWrong)

/-- 'laws.FnExactCommonOfWholes': WHATEVER THE INPUT: true; the input reads as it did. -/
def fnExactCommonOfWholesSpec : ChangeSpec := { name := "fnExactCommonOfWholes", fn := fun _ => fun
  | [d1, d2] => { results := [.lit (.bool true)], args := [d1, d2] }
  | _ => none }
def fnExactCommonOfWholesRow : OpenClaim := { program := "ytbmjakaoniegfaadoor", sum := "ae0dda9d284ef12227105488346ae655a9cd699cdde0a04e8dcf5bc0e0c1989e", func := "loop.example/g01156/laws.FnExactCommonOfWholes", spec := "fnExactCommonOfWholes", unfollowed := true, recurses := true, named := ["math/bits.deBruijn32tab"], apart := false, laid := [("math/bits.deBruijn32tab", laid_math_bits_deBruijn32tab)] }
def FnExactCommonOfWholesSaid : Prop := fnExactCommonOfWholesRow.holds Tryd.pinned (OpenSpec.ofChange fnExactCommonOfWholesSpec)

/-- ITS FALSE NEIGHBOUR: 'it returns false'. Refute it at one input. -/
def fnExactCommonOfWholesWrong : ChangeSpec := { name := "fnExactCommonOfWholes", fn := fun _ => fun
  | [d1, d2] => { results := [.lit (.bool false)], args := [d1, d2] }
  | _ => none }
def FnExactCommonOfWholesWrongFalsely : Prop := fnExactCommonOfWholesRow.holds Tryd.pinned (OpenSpec.ofChange fnExactCommonOfWholesWrong)

/-- 'laws.FnWholeTexts': WHATEVER THE INPUT: true; the input reads as it did. -/
def fnWholeTextsSpec : ChangeSpec := { name := "fnWholeTexts", fn := fun _ => fun
  | [d] => { results := [.lit (.bool true)], args := [d] }
  | _ => none }
def fnWholeTextsRow : OpenClaim := { program := "ytbmjakaoniegfaadoor", sum := "ae0dda9d284ef12227105488346ae655a9cd699cdde0a04e8dcf5bc0e0c1989e", func := "loop.example/g01156/laws.FnWholeTexts", spec := "fnWholeTexts", unfollowed := true, recurses := true, named := ["math/bits.deBruijn32tab"], apart := false, laid := [("math/bits.deBruijn32tab", laid_math_bits_deBruijn32tab)] }
def FnWholeTextsSaid : Prop := fnWholeTextsRow.holds Tryd.pinned (OpenSpec.ofChange fnWholeTextsSpec)

/-- ITS FALSE NEIGHBOUR: 'it returns false'. Refute it at one input. -/
def fnWholeTextsWrong : ChangeSpec := { name := "fnWholeTexts", fn := fun _ => fun
  | [d] => { results := [.lit (.bool false)], args := [d] }
  | _ => none }
def FnWholeTextsWrongFalsely : Prop := fnWholeTextsRow.holds Tryd.pinned (OpenSpec.ofChange fnWholeTextsWrong)

/-- 'laws.FnWholes': WHATEVER THE INPUT: true; the input reads as it did. -/
def fnWholesSpec : ChangeSpec := { name := "fnWholes", fn := fun _ => fun
  | [d] => { results := [.lit (.bool true)], args := [d] }
  | _ => none }
def fnWholesRow : OpenClaim := { program := "ytbmjakaoniegfaadoor", sum := "ae0dda9d284ef12227105488346ae655a9cd699cdde0a04e8dcf5bc0e0c1989e", func := "loop.example/g01156/laws.FnWholes", spec := "fnWholes", unfollowed := true, recurses := true, named := ["math/bits.deBruijn32tab"], apart := false, laid := [("math/bits.deBruijn32tab", laid_math_bits_deBruijn32tab)] }
def FnWholesSaid : Prop := fnWholesRow.holds Tryd.pinned (OpenSpec.ofChange fnWholesSpec)

/-- ITS FALSE NEIGHBOUR: 'it returns false'. Refute it at one input. -/
def fnWholesWrong : ChangeSpec := { name := "fnWholes", fn := fun _ => fun
  | [d] => { results := [.lit (.bool false)], args := [d] }
  | _ => none }
def FnWholesWrongFalsely : Prop := fnWholesRow.holds Tryd.pinned (OpenSpec.ofChange fnWholesWrong)

/-- 'laws.FnWholeRoots': WHATEVER THE INPUT: true; the input reads as it did. -/
def fnWholeRootsSpec : ChangeSpec := { name := "fnWholeRoots", fn := fun _ => fun
  | [d] => { results := [.lit (.bool true)], args := [d] }
  | _ => none }
def fnWholeRootsRow : OpenClaim := { program := "ytbmjakaoniegfaadoor", sum := "ae0dda9d284ef12227105488346ae655a9cd699cdde0a04e8dcf5bc0e0c1989e", func := "loop.example/g01156/laws.FnWholeRoots", spec := "fnWholeRoots", unfollowed := true, recurses := true, named := ["math/bits.deBruijn32tab"], apart := false, laid := [("math/bits.deBruijn32tab", laid_math_bits_deBruijn32tab)] }
def FnWholeRootsSaid : Prop := fnWholeRootsRow.holds Tryd.pinned (OpenSpec.ofChange fnWholeRootsSpec)

/-- ITS FALSE NEIGHBOUR: 'it returns false'. Refute it at one input. -/
def fnWholeRootsWrong : ChangeSpec := { name := "fnWholeRoots", fn := fun _ => fun
  | [d] => { results := [.lit (.bool false)], args := [d] }
  | _ => none }
def FnWholeRootsWrongFalsely : Prop := fnWholeRootsRow.holds Tryd.pinned (OpenSpec.ofChange fnWholeRootsWrong)

/- THE SECOND FORM. 'bulk': how many values and letters a reading holds, each counted each time it is reached (what is shared counts as often as it is met; a slice's spare places count too). A statement '..UptoSaid' is the law's where the arguments, and the package variables that the reading takes, are together of bulk at most 1048576: NARROWER than '..Said'. Prove '..Said' where nothing that the law and all that it calls make is longer than what came in: it says more and counts as full. Else prove '..UptoSaid'. A law counts once. -/
mutual
def uptoBulk {H : Type} : DataW H → Nat
  | .lit (.string bytes) => bytes.length + 1
  | .lit _ => 1
  | .nil => 1
  | .ptr d => uptoBulk d + 1
  | .slice elems spare => uptoBulkAll elems + uptoBulkAll spare + 1
  | .agg parts => uptoBulkAll parts + 1
  | .iface _ d => uptoBulk d + 1
  | .map entries => uptoBulkEntries entries + 1
  | .held _ => 1
def uptoBulkAll {H : Type} : List (DataW H) → Nat
  | [] => 0
  | d :: r => uptoBulk d + uptoBulkAll r
def uptoBulkEntries {H : Type} : List (Lit × DataW H) → Nat
  | [] => 0
  | x :: r => uptoBulkEntry x + uptoBulkEntries r
def uptoBulkEntry {H : Type} : Lit × DataW H → Nat
  | (.string bytes, d) => bytes.length + uptoBulk d + 1
  | (_, d) => uptoBulk d + 1
 end
def uptoSmall : (H : Type) → List (DataW H) → Bool := fun _ ds => decide (uptoBulkAll ds ≤ 1048576)
def OpenSpec.upto (s : _root_.Go.ChangeSpec) : _root_.Go.OpenSpec := { _root_.Go.OpenSpec.ofChange s with cond := some uptoSmall }

/-- 'laws.FnExactTwosIn', WHERE WHAT IT READS IS OF BULK AT MOST 1048576: true; the input reads as it did. -/
def fnExactTwosInUptoRow : OpenClaim := { program := "ytbmjakaoniegfaadoor", sum := "ae0dda9d284ef12227105488346ae655a9cd699cdde0a04e8dcf5bc0e0c1989e", func := "loop.example/g01156/laws.FnExactTwosIn", spec := "fnExactTwosIn", named := ["math/bits.deBruijn32tab"], apart := false, laid := [("math/bits.deBruijn32tab", laid_math_bits_deBruijn32tab)], narrowed := true }
def FnExactTwosInUptoSaid : Prop := fnExactTwosInUptoRow.holds Tryd.pinned (OpenSpec.upto fnExactTwosInSpec)

/-- 'laws.FnExactWholeOf', WHERE WHAT IT READS IS OF BULK AT MOST 1048576: true; the input reads as it did. -/
def fnExactWholeOfUptoRow : OpenClaim := { program := "ytbmjakaoniegfaadoor", sum := "ae0dda9d284ef12227105488346ae655a9cd699cdde0a04e8dcf5bc0e0c1989e", func := "loop.example/g01156/laws.FnExactWholeOf", spec := "fnExactWholeOf", named := ["math/bits.deBruijn32tab"], apart := false, laid := [("math/bits.deBruijn32tab", laid_math_bits_deBruijn32tab)], narrowed := true }
def FnExactWholeOfUptoSaid : Prop := fnExactWholeOfUptoRow.holds Tryd.pinned (OpenSpec.upto fnExactWholeOfSpec)

/-- 'laws.FnExactParseWhole', WHERE WHAT IT READS IS OF BULK AT MOST 1048576: true; the input reads as it did. -/
def fnExactParseWholeUptoRow : OpenClaim := { program := "ytbmjakaoniegfaadoor", sum := "ae0dda9d284ef12227105488346ae655a9cd699cdde0a04e8dcf5bc0e0c1989e", func := "loop.example/g01156/laws.FnExactParseWhole", spec := "fnExactParseWhole", named := ["math/bits.deBruijn32tab"], apart := false, laid := [("math/bits.deBruijn32tab", laid_math_bits_deBruijn32tab)], narrowed := true }
def FnExactParseWholeUptoSaid : Prop := fnExactParseWholeUptoRow.holds Tryd.pinned (OpenSpec.upto fnExactParseWholeSpec)

/-- 'laws.FnExactWholeText', WHERE WHAT IT READS IS OF BULK AT MOST 1048576: true; the input reads as it did. -/
def fnExactWholeTextUptoRow : OpenClaim := { program := "ytbmjakaoniegfaadoor", sum := "ae0dda9d284ef12227105488346ae655a9cd699cdde0a04e8dcf5bc0e0c1989e", func := "loop.example/g01156/laws.FnExactWholeText", spec := "fnExactWholeText", recurses := true, named := ["math/bits.deBruijn32tab"], apart := false, laid := [("math/bits.deBruijn32tab", laid_math_bits_deBruijn32tab)], narrowed := true }
def FnExactWholeTextUptoSaid : Prop := fnExactWholeTextUptoRow.holds Tryd.pinned (OpenSpec.upto fnExactWholeTextSpec)

/-- 'laws.FnExactMultiplyWholes', WHERE WHAT IT READS IS OF BULK AT MOST 1048576: true; the input reads as it did. -/
def fnExactMultiplyWholesUptoRow : OpenClaim := { program := "ytbmjakaoniegfaadoor", sum := "ae0dda9d284ef12227105488346ae655a9cd699cdde0a04e8dcf5bc0e0c1989e", func := "loop.example/g01156/laws.FnExactMultiplyWholes", spec := "fnExactMultiplyWholes", unfollowed := true, recurses := true, named := ["math/bits.deBruijn32tab"], apart := false, laid := [("math/bits.deBruijn32tab", laid_math_bits_deBruijn32tab)], narrowed := true }
def FnExactMultiplyWholesUptoSaid : Prop := fnExactMultiplyWholesUptoRow.holds Tryd.pinned (OpenSpec.upto fnExactMultiplyWholesSpec)

/-- 'laws.FnExactPowerOfWhole', WHERE WHAT IT READS IS OF BULK AT MOST 1048576: true; the input reads as it did. -/
def fnExactPowerOfWholeUptoRow : OpenClaim := { program := "ytbmjakaoniegfaadoor", sum := "ae0dda9d284ef12227105488346ae655a9cd699cdde0a04e8dcf5bc0e0c1989e", func := "loop.example/g01156/laws.FnExactPowerOfWhole", spec := "fnExactPowerOfWhole", named := ["math/bits.deBruijn32tab"], apart := false, laid := [("math/bits.deBruijn32tab", laid_math_bits_deBruijn32tab)], narrowed := true }
def FnExactPowerOfWholeUptoSaid : Prop := fnExactPowerOfWholeUptoRow.holds Tryd.pinned (OpenSpec.upto fnExactPowerOfWholeSpec)

/-- 'laws.FnExactAddWholes', WHERE WHAT IT READS IS OF BULK AT MOST 1048576: true; the input reads as it did. -/
def fnExactAddWholesUptoRow : OpenClaim := { program := "ytbmjakaoniegfaadoor", sum := "ae0dda9d284ef12227105488346ae655a9cd699cdde0a04e8dcf5bc0e0c1989e", func := "loop.example/g01156/laws.FnExactAddWholes", spec := "fnExactAddWholes", unfollowed := true, recurses := true, named := ["math/bits.deBruijn32tab"], apart := false, laid := [("math/bits.deBruijn32tab", laid_math_bits_deBruijn32tab)], narrowed := true }
def FnExactAddWholesUptoSaid : Prop := fnExactAddWholesUptoRow.holds Tryd.pinned (OpenSpec.upto fnExactAddWholesSpec)

/-- 'laws.FnExactSubtractWholes', WHERE WHAT IT READS IS OF BULK AT MOST 1048576: true; the input reads as it did. -/
def fnExactSubtractWholesUptoRow : OpenClaim := { program := "ytbmjakaoniegfaadoor", sum := "ae0dda9d284ef12227105488346ae655a9cd699cdde0a04e8dcf5bc0e0c1989e", func := "loop.example/g01156/laws.FnExactSubtractWholes", spec := "fnExactSubtractWholes", unfollowed := true, recurses := true, named := ["math/bits.deBruijn32tab"], apart := false, laid := [("math/bits.deBruijn32tab", laid_math_bits_deBruijn32tab)], narrowed := true }
def FnExactSubtractWholesUptoSaid : Prop := fnExactSubtractWholesUptoRow.holds Tryd.pinned (OpenSpec.upto fnExactSubtractWholesSpec)

/-- 'laws.FnExactDivideWholes', WHERE WHAT IT READS IS OF BULK AT MOST 1048576: true; the input reads as it did. -/
def fnExactDivideWholesUptoRow : OpenClaim := { program := "ytbmjakaoniegfaadoor", sum := "ae0dda9d284ef12227105488346ae655a9cd699cdde0a04e8dcf5bc0e0c1989e", func := "loop.example/g01156/laws.FnExactDivideWholes", spec := "fnExactDivideWholes", named := ["math/bits.deBruijn32tab"], apart := false, laid := [("math/bits.deBruijn32tab", laid_math_bits_deBruijn32tab)], narrowed := true }
def FnExactDivideWholesUptoSaid : Prop := fnExactDivideWholesUptoRow.holds Tryd.pinned (OpenSpec.upto fnExactDivideWholesSpec)

/-- 'laws.FnExactShiftWhole', WHERE WHAT IT READS IS OF BULK AT MOST 1048576: true; the input reads as it did. -/
def fnExactShiftWholeUptoRow : OpenClaim := { program := "ytbmjakaoniegfaadoor", sum := "ae0dda9d284ef12227105488346ae655a9cd699cdde0a04e8dcf5bc0e0c1989e", func := "loop.example/g01156/laws.FnExactShiftWhole", spec := "fnExactShiftWhole", named := ["math/bits.deBruijn32tab"], apart := false, laid := [("math/bits.deBruijn32tab", laid_math_bits_deBruijn32tab)], narrowed := true }
def FnExactShiftWholeUptoSaid : Prop := fnExactShiftWholeUptoRow.holds Tryd.pinned (OpenSpec.upto fnExactShiftWholeSpec)

/-- 'laws.FnExactRootOfWhole', WHERE WHAT IT READS IS OF BULK AT MOST 1048576: true; the input reads as it did. -/
def fnExactRootOfWholeUptoRow : OpenClaim := { program := "ytbmjakaoniegfaadoor", sum := "ae0dda9d284ef12227105488346ae655a9cd699cdde0a04e8dcf5bc0e0c1989e", func := "loop.example/g01156/laws.FnExactRootOfWhole", spec := "fnExactRootOfWhole", named := ["math/bits.deBruijn32tab"], apart := false, laid := [("math/bits.deBruijn32tab", laid_math_bits_deBruijn32tab)], narrowed := true }
def FnExactRootOfWholeUptoSaid : Prop := fnExactRootOfWholeUptoRow.holds Tryd.pinned (OpenSpec.upto fnExactRootOfWholeSpec)

/-- 'laws.FnExactCommonOfWholes', WHERE WHAT IT READS IS OF BULK AT MOST 1048576: true; the input reads as it did. -/
def fnExactCommonOfWholesUptoRow : OpenClaim := { program := "ytbmjakaoniegfaadoor", sum := "ae0dda9d284ef12227105488346ae655a9cd699cdde0a04e8dcf5bc0e0c1989e", func := "loop.example/g01156/laws.FnExactCommonOfWholes", spec := "fnExactCommonOfWholes", unfollowed := true, recurses := true, named := ["math/bits.deBruijn32tab"], apart := false, laid := [("math/bits.deBruijn32tab", laid_math_bits_deBruijn32tab)], narrowed := true }
def FnExactCommonOfWholesUptoSaid : Prop := fnExactCommonOfWholesUptoRow.holds Tryd.pinned (OpenSpec.upto fnExactCommonOfWholesSpec)

/-- 'laws.FnWholeTexts', WHERE WHAT IT READS IS OF BULK AT MOST 1048576: true; the input reads as it did. -/
def fnWholeTextsUptoRow : OpenClaim := { program := "ytbmjakaoniegfaadoor", sum := "ae0dda9d284ef12227105488346ae655a9cd699cdde0a04e8dcf5bc0e0c1989e", func := "loop.example/g01156/laws.FnWholeTexts", spec := "fnWholeTexts", unfollowed := true, recurses := true, named := ["math/bits.deBruijn32tab"], apart := false, laid := [("math/bits.deBruijn32tab", laid_math_bits_deBruijn32tab)], narrowed := true }
def FnWholeTextsUptoSaid : Prop := fnWholeTextsUptoRow.holds Tryd.pinned (OpenSpec.upto fnWholeTextsSpec)

/-- 'laws.FnWholes', WHERE WHAT IT READS IS OF BULK AT MOST 1048576: true; the input reads as it did. -/
def fnWholesUptoRow : OpenClaim := { program := "ytbmjakaoniegfaadoor", sum := "ae0dda9d284ef12227105488346ae655a9cd699cdde0a04e8dcf5bc0e0c1989e", func := "loop.example/g01156/laws.FnWholes", spec := "fnWholes", unfollowed := true, recurses := true, named := ["math/bits.deBruijn32tab"], apart := false, laid := [("math/bits.deBruijn32tab", laid_math_bits_deBruijn32tab)], narrowed := true }
def FnWholesUptoSaid : Prop := fnWholesUptoRow.holds Tryd.pinned (OpenSpec.upto fnWholesSpec)

/-- 'laws.FnWholeRoots', WHERE WHAT IT READS IS OF BULK AT MOST 1048576: true; the input reads as it did. -/
def fnWholeRootsUptoRow : OpenClaim := { program := "ytbmjakaoniegfaadoor", sum := "ae0dda9d284ef12227105488346ae655a9cd699cdde0a04e8dcf5bc0e0c1989e", func := "loop.example/g01156/laws.FnWholeRoots", spec := "fnWholeRoots", unfollowed := true, recurses := true, named := ["math/bits.deBruijn32tab"], apart := false, laid := [("math/bits.deBruijn32tab", laid_math_bits_deBruijn32tab)], narrowed := true }
def FnWholeRootsUptoSaid : Prop := fnWholeRootsUptoRow.holds Tryd.pinned (OpenSpec.upto fnWholeRootsSpec)

end Rows
end Go.Proofs.YtbmjakaoniegfaaDoor
