/-
  NARROWER THAN 'FOR EVERY INPUT', by the rows' own cells (each row's printed sentence says how): FnExactAddDyadics: laid · FnExactCeilDyadic: laid · FnExactCompareDyadics: laid · FnExactFloorDyadic: laid · FnExactMakeDyadic: laid · FnExactMultiplyDyadics: laid · FnExactScaleDyadic: laid · FnExactSubtractDyadics: laid.
  DERIVED. THE GIVEN ROWS OF THIS SEAT. 8 by the template 'for every input the law returns true; each argument reads behind the call as it read before'; 0 by the template 'total and deterministic' (their statements: YthddlechoibdkaaDoorTotals.lean).
  GIVEN WITH THE SEED: the statements are not yours to turn. If you find one false, say at which input.
  Laid BY PROGRAM, IN A SANDBOX (cutbox-rows.mjs): the forced cells as the released guide's own fill.sh prints them over the translation 5dbe8d8510437d61… (all of the seat's roots in one cut). By AI agents, Wed Nov 11 2026. No macro, syntax, notation, axiom, sorry.
-/
import Derived.Test.YthddlechoibdkaaDoorChecked
import GoSem.Claim
import GoSem.ClaimJoined
import GoSem.ClaimMapViews
import Derived.JoinedTies
import Derived.KernelRfl
namespace Go.Proofs.YthddlechoibdkaaDoor
/- THE CELL 'sum', in the pinned program and in every row, IS THE sha256 OF THE DUMP (.gsa) THAT YthddlechoibdkaaDoorProg.lean LOADS. Nothing in Lean hashes anything: it is a label: what it is worth is what the hold of that sum in a sandbox is worth. -/
noncomputable def Tryd.pinned : Pinned := { name := "ythddlechoibdkaadoor", sum := "5dbe8d8510437d610efd80654634f2fac7c0745d2c5c4fda9a5084268287078b", checked := Tryd.checked }
namespace Rows
def none {H : Type} : Left H := { results := [], args := [] }

/- WHAT THE LISTED PACKAGE-LEVEL VARIABLES READ AS WHEN THE CALL BEGINS. Each datum BY PROGRAM (the guide's laid-datum.mjs) off the statement by which the dump's own 'gosem.cut.vars' lays the variable. In a bare row this is a premise. The card (YthddlechoibdkaaDoorCards.lean) ties it to the program's text. -/
def laid_math_bits_deBruijn32tab {H : Type} : DataW H := .agg [.lit (.int .u8 0), .lit (.int .u8 1), .lit (.int .u8 28), .lit (.int .u8 2), .lit (.int .u8 29), .lit (.int .u8 14), .lit (.int .u8 24), .lit (.int .u8 3), .lit (.int .u8 30), .lit (.int .u8 22), .lit (.int .u8 20), .lit (.int .u8 15), .lit (.int .u8 25), .lit (.int .u8 17), .lit (.int .u8 4), .lit (.int .u8 8), .lit (.int .u8 31), .lit (.int .u8 27), .lit (.int .u8 13), .lit (.int .u8 23), .lit (.int .u8 21), .lit (.int .u8 19), .lit (.int .u8 16), .lit (.int .u8 7), .lit (.int .u8 26), .lit (.int .u8 12), .lit (.int .u8 18), .lit (.int .u8 6), .lit (.int .u8 11), .lit (.int .u8 5), .lit (.int .u8 10), .lit (.int .u8 9)]

/-- 'laws.FnExactAddDyadics': WHATEVER THE INPUT: true; the input reads as it did. -/
def fnExactAddDyadicsSpec : ChangeSpec := { name := "fnExactAddDyadics", fn := fun _ => fun
  | [d1, d2] => { results := [.lit (.bool true)], args := [d1, d2] }
  | _ => none }
def fnExactAddDyadicsRow : OpenClaim := { program := "ythddlechoibdkaadoor", sum := "5dbe8d8510437d610efd80654634f2fac7c0745d2c5c4fda9a5084268287078b", func := "loop.example/g01156/laws.FnExactAddDyadics", spec := "fnExactAddDyadics", unfollowed := true, recurses := true, named := ["math/bits.deBruijn32tab"], apart := false, laid := [("math/bits.deBruijn32tab", laid_math_bits_deBruijn32tab)] }
def FnExactAddDyadicsSaid : Prop := fnExactAddDyadicsRow.holds Tryd.pinned (OpenSpec.ofChange fnExactAddDyadicsSpec)

/-- ITS FALSE NEIGHBOUR: 'it returns false'. Refute it at one input. -/
def fnExactAddDyadicsWrong : ChangeSpec := { name := "fnExactAddDyadics", fn := fun _ => fun
  | [d1, d2] => { results := [.lit (.bool false)], args := [d1, d2] }
  | _ => none }
def FnExactAddDyadicsWrongFalsely : Prop := fnExactAddDyadicsRow.holds Tryd.pinned (OpenSpec.ofChange fnExactAddDyadicsWrong)

/-- 'laws.FnExactCeilDyadic': WHATEVER THE INPUT: true; the input reads as it did. -/
def fnExactCeilDyadicSpec : ChangeSpec := { name := "fnExactCeilDyadic", fn := fun _ => fun
  | [d1, d2] => { results := [.lit (.bool true)], args := [d1, d2] }
  | _ => none }
def fnExactCeilDyadicRow : OpenClaim := { program := "ythddlechoibdkaadoor", sum := "5dbe8d8510437d610efd80654634f2fac7c0745d2c5c4fda9a5084268287078b", func := "loop.example/g01156/laws.FnExactCeilDyadic", spec := "fnExactCeilDyadic", named := ["math/bits.deBruijn32tab"], apart := false, laid := [("math/bits.deBruijn32tab", laid_math_bits_deBruijn32tab)] }
def FnExactCeilDyadicSaid : Prop := fnExactCeilDyadicRow.holds Tryd.pinned (OpenSpec.ofChange fnExactCeilDyadicSpec)

/-- ITS FALSE NEIGHBOUR: 'it returns false'. Refute it at one input. -/
def fnExactCeilDyadicWrong : ChangeSpec := { name := "fnExactCeilDyadic", fn := fun _ => fun
  | [d1, d2] => { results := [.lit (.bool false)], args := [d1, d2] }
  | _ => none }
def FnExactCeilDyadicWrongFalsely : Prop := fnExactCeilDyadicRow.holds Tryd.pinned (OpenSpec.ofChange fnExactCeilDyadicWrong)

/-- 'laws.FnExactCompareDyadics': WHATEVER THE INPUT: true; the input reads as it did. -/
def fnExactCompareDyadicsSpec : ChangeSpec := { name := "fnExactCompareDyadics", fn := fun _ => fun
  | [d1, d2] => { results := [.lit (.bool true)], args := [d1, d2] }
  | _ => none }
def fnExactCompareDyadicsRow : OpenClaim := { program := "ythddlechoibdkaadoor", sum := "5dbe8d8510437d610efd80654634f2fac7c0745d2c5c4fda9a5084268287078b", func := "loop.example/g01156/laws.FnExactCompareDyadics", spec := "fnExactCompareDyadics", named := ["math/bits.deBruijn32tab"], apart := false, laid := [("math/bits.deBruijn32tab", laid_math_bits_deBruijn32tab)] }
def FnExactCompareDyadicsSaid : Prop := fnExactCompareDyadicsRow.holds Tryd.pinned (OpenSpec.ofChange fnExactCompareDyadicsSpec)

/-- ITS FALSE NEIGHBOUR: 'it returns false'. Refute it at one input. -/
def fnExactCompareDyadicsWrong : ChangeSpec := { name := "fnExactCompareDyadics", fn := fun _ => fun
  | [d1, d2] => { results := [.lit (.bool false)], args := [d1, d2] }
  | _ => none }
def FnExactCompareDyadicsWrongFalsely : Prop := fnExactCompareDyadicsRow.holds Tryd.pinned (OpenSpec.ofChange fnExactCompareDyadicsWrong)

/-- 'laws.FnExactFloorDyadic': WHATEVER THE INPUT: true; the input reads as it did. -/
def fnExactFloorDyadicSpec : ChangeSpec := { name := "fnExactFloorDyadic", fn := fun _ => fun
  | [d1, d2] => { results := [.lit (.bool true)], args := [d1, d2] }
  | _ => none }
def fnExactFloorDyadicRow : OpenClaim := { program := "ythddlechoibdkaadoor", sum := "5dbe8d8510437d610efd80654634f2fac7c0745d2c5c4fda9a5084268287078b", func := "loop.example/g01156/laws.FnExactFloorDyadic", spec := "fnExactFloorDyadic", named := ["math/bits.deBruijn32tab"], apart := false, laid := [("math/bits.deBruijn32tab", laid_math_bits_deBruijn32tab)] }
def FnExactFloorDyadicSaid : Prop := fnExactFloorDyadicRow.holds Tryd.pinned (OpenSpec.ofChange fnExactFloorDyadicSpec)

/-- ITS FALSE NEIGHBOUR: 'it returns false'. Refute it at one input. -/
def fnExactFloorDyadicWrong : ChangeSpec := { name := "fnExactFloorDyadic", fn := fun _ => fun
  | [d1, d2] => { results := [.lit (.bool false)], args := [d1, d2] }
  | _ => none }
def FnExactFloorDyadicWrongFalsely : Prop := fnExactFloorDyadicRow.holds Tryd.pinned (OpenSpec.ofChange fnExactFloorDyadicWrong)

/-- 'laws.FnExactMakeDyadic': WHATEVER THE INPUT: true; the input reads as it did. -/
def fnExactMakeDyadicSpec : ChangeSpec := { name := "fnExactMakeDyadic", fn := fun _ => fun
  | [d1, d2] => { results := [.lit (.bool true)], args := [d1, d2] }
  | _ => none }
def fnExactMakeDyadicRow : OpenClaim := { program := "ythddlechoibdkaadoor", sum := "5dbe8d8510437d610efd80654634f2fac7c0745d2c5c4fda9a5084268287078b", func := "loop.example/g01156/laws.FnExactMakeDyadic", spec := "fnExactMakeDyadic", named := ["math/bits.deBruijn32tab"], apart := false, laid := [("math/bits.deBruijn32tab", laid_math_bits_deBruijn32tab)] }
def FnExactMakeDyadicSaid : Prop := fnExactMakeDyadicRow.holds Tryd.pinned (OpenSpec.ofChange fnExactMakeDyadicSpec)

/-- ITS FALSE NEIGHBOUR: 'it returns false'. Refute it at one input. -/
def fnExactMakeDyadicWrong : ChangeSpec := { name := "fnExactMakeDyadic", fn := fun _ => fun
  | [d1, d2] => { results := [.lit (.bool false)], args := [d1, d2] }
  | _ => none }
def FnExactMakeDyadicWrongFalsely : Prop := fnExactMakeDyadicRow.holds Tryd.pinned (OpenSpec.ofChange fnExactMakeDyadicWrong)

/-- 'laws.FnExactMultiplyDyadics': WHATEVER THE INPUT: true; the input reads as it did. -/
def fnExactMultiplyDyadicsSpec : ChangeSpec := { name := "fnExactMultiplyDyadics", fn := fun _ => fun
  | [d1, d2] => { results := [.lit (.bool true)], args := [d1, d2] }
  | _ => none }
def fnExactMultiplyDyadicsRow : OpenClaim := { program := "ythddlechoibdkaadoor", sum := "5dbe8d8510437d610efd80654634f2fac7c0745d2c5c4fda9a5084268287078b", func := "loop.example/g01156/laws.FnExactMultiplyDyadics", spec := "fnExactMultiplyDyadics", unfollowed := true, recurses := true, named := ["math/bits.deBruijn32tab"], apart := false, laid := [("math/bits.deBruijn32tab", laid_math_bits_deBruijn32tab)] }
def FnExactMultiplyDyadicsSaid : Prop := fnExactMultiplyDyadicsRow.holds Tryd.pinned (OpenSpec.ofChange fnExactMultiplyDyadicsSpec)

/-- ITS FALSE NEIGHBOUR: 'it returns false'. Refute it at one input. -/
def fnExactMultiplyDyadicsWrong : ChangeSpec := { name := "fnExactMultiplyDyadics", fn := fun _ => fun
  | [d1, d2] => { results := [.lit (.bool false)], args := [d1, d2] }
  | _ => none }
def FnExactMultiplyDyadicsWrongFalsely : Prop := fnExactMultiplyDyadicsRow.holds Tryd.pinned (OpenSpec.ofChange fnExactMultiplyDyadicsWrong)

/-- 'laws.FnExactScaleDyadic': WHATEVER THE INPUT: true; the input reads as it did. -/
def fnExactScaleDyadicSpec : ChangeSpec := { name := "fnExactScaleDyadic", fn := fun _ => fun
  | [d1, d2] => { results := [.lit (.bool true)], args := [d1, d2] }
  | _ => none }
def fnExactScaleDyadicRow : OpenClaim := { program := "ythddlechoibdkaadoor", sum := "5dbe8d8510437d610efd80654634f2fac7c0745d2c5c4fda9a5084268287078b", func := "loop.example/g01156/laws.FnExactScaleDyadic", spec := "fnExactScaleDyadic", named := ["math/bits.deBruijn32tab"], apart := false, laid := [("math/bits.deBruijn32tab", laid_math_bits_deBruijn32tab)] }
def FnExactScaleDyadicSaid : Prop := fnExactScaleDyadicRow.holds Tryd.pinned (OpenSpec.ofChange fnExactScaleDyadicSpec)

/-- ITS FALSE NEIGHBOUR: 'it returns false'. Refute it at one input. -/
def fnExactScaleDyadicWrong : ChangeSpec := { name := "fnExactScaleDyadic", fn := fun _ => fun
  | [d1, d2] => { results := [.lit (.bool false)], args := [d1, d2] }
  | _ => none }
def FnExactScaleDyadicWrongFalsely : Prop := fnExactScaleDyadicRow.holds Tryd.pinned (OpenSpec.ofChange fnExactScaleDyadicWrong)

/-- 'laws.FnExactSubtractDyadics': WHATEVER THE INPUT: true; the input reads as it did. -/
def fnExactSubtractDyadicsSpec : ChangeSpec := { name := "fnExactSubtractDyadics", fn := fun _ => fun
  | [d1, d2] => { results := [.lit (.bool true)], args := [d1, d2] }
  | _ => none }
def fnExactSubtractDyadicsRow : OpenClaim := { program := "ythddlechoibdkaadoor", sum := "5dbe8d8510437d610efd80654634f2fac7c0745d2c5c4fda9a5084268287078b", func := "loop.example/g01156/laws.FnExactSubtractDyadics", spec := "fnExactSubtractDyadics", unfollowed := true, recurses := true, named := ["math/bits.deBruijn32tab"], apart := false, laid := [("math/bits.deBruijn32tab", laid_math_bits_deBruijn32tab)] }
def FnExactSubtractDyadicsSaid : Prop := fnExactSubtractDyadicsRow.holds Tryd.pinned (OpenSpec.ofChange fnExactSubtractDyadicsSpec)

/-- ITS FALSE NEIGHBOUR: 'it returns false'. Refute it at one input. -/
def fnExactSubtractDyadicsWrong : ChangeSpec := { name := "fnExactSubtractDyadics", fn := fun _ => fun
  | [d1, d2] => { results := [.lit (.bool false)], args := [d1, d2] }
  | _ => none }
def FnExactSubtractDyadicsWrongFalsely : Prop := fnExactSubtractDyadicsRow.holds Tryd.pinned (OpenSpec.ofChange fnExactSubtractDyadicsWrong)

/- THE SECOND FORM. 'bulk': how many values and letters a reading holds, each counted each time it is reached (what is shared counts as often as it is met; a slice's spare places count too). A statement '..UptoSaid' is the law's where the arguments, and the package variables that the reading takes, are together of bulk at most 1048576: NARROWER than '..Said'. Prove '..Said' where nothing that the law and all that it calls make is longer than what came in: it says more and counts as full. Else prove '..UptoSaid'. A law counts once. -/
mutual
def uptoBulk {H : Type} : DataW H → Nat
  | .lit (.string bytes) => bytes.length + 1
  | .lit _ => 1
  | .nil => 1
  | .ptr d => uptoBulk d + 1
  | .slice elems spare => uptoBulkAll elems + uptoBulkAll spare + 1
  | .agg parts => uptoBulkAll parts + 1
  | .iface _ d => uptoBulk d + 1
  | .map entries => uptoBulkEntries entries + 1
  | .held _ => 1
def uptoBulkAll {H : Type} : List (DataW H) → Nat
  | [] => 0
  | d :: r => uptoBulk d + uptoBulkAll r
def uptoBulkEntries {H : Type} : List (Lit × DataW H) → Nat
  | [] => 0
  | x :: r => uptoBulkEntry x + uptoBulkEntries r
def uptoBulkEntry {H : Type} : Lit × DataW H → Nat
  | (.string bytes, d) => bytes.length + uptoBulk d + 1
  | (_, d) => uptoBulk d + 1
 end
def uptoSmall : (H : Type) → List (DataW H) → Bool := fun _ ds => decide (uptoBulkAll ds ≤ 1048576)
def OpenSpec.upto (s : _root_.Go.ChangeSpec) : _root_.Go.OpenSpec := { _root_.Go.OpenSpec.ofChange s with cond := some uptoSmall }

/-- 'laws.FnExactAddDyadics', WHERE WHAT IT READS IS OF BULK AT MOST 1048576: true; the input reads as it did. -/
def fnExactAddDyadicsUptoRow : OpenClaim := { program := "ythddlechoibdkaadoor", sum := "5dbe8d8510437d610efd80654634f2fac7c0745d2c5c4fda9a5084268287078b", func := "loop.example/g01156/laws.FnExactAddDyadics", spec := "fnExactAddDyadics", unfollowed := true, recurses := true, named := ["math/bits.deBruijn32tab"], apart := false, laid := [("math/bits.deBruijn32tab", laid_math_bits_deBruijn32tab)], narrowed := true }
def FnExactAddDyadicsUptoSaid : Prop := fnExactAddDyadicsUptoRow.holds Tryd.pinned (OpenSpec.upto fnExactAddDyadicsSpec)

/-- 'laws.FnExactCeilDyadic', WHERE WHAT IT READS IS OF BULK AT MOST 1048576: true; the input reads as it did. -/
def fnExactCeilDyadicUptoRow : OpenClaim := { program := "ythddlechoibdkaadoor", sum := "5dbe8d8510437d610efd80654634f2fac7c0745d2c5c4fda9a5084268287078b", func := "loop.example/g01156/laws.FnExactCeilDyadic", spec := "fnExactCeilDyadic", named := ["math/bits.deBruijn32tab"], apart := false, laid := [("math/bits.deBruijn32tab", laid_math_bits_deBruijn32tab)], narrowed := true }
def FnExactCeilDyadicUptoSaid : Prop := fnExactCeilDyadicUptoRow.holds Tryd.pinned (OpenSpec.upto fnExactCeilDyadicSpec)

/-- 'laws.FnExactCompareDyadics', WHERE WHAT IT READS IS OF BULK AT MOST 1048576: true; the input reads as it did. -/
def fnExactCompareDyadicsUptoRow : OpenClaim := { program := "ythddlechoibdkaadoor", sum := "5dbe8d8510437d610efd80654634f2fac7c0745d2c5c4fda9a5084268287078b", func := "loop.example/g01156/laws.FnExactCompareDyadics", spec := "fnExactCompareDyadics", named := ["math/bits.deBruijn32tab"], apart := false, laid := [("math/bits.deBruijn32tab", laid_math_bits_deBruijn32tab)], narrowed := true }
def FnExactCompareDyadicsUptoSaid : Prop := fnExactCompareDyadicsUptoRow.holds Tryd.pinned (OpenSpec.upto fnExactCompareDyadicsSpec)

/-- 'laws.FnExactFloorDyadic', WHERE WHAT IT READS IS OF BULK AT MOST 1048576: true; the input reads as it did. -/
def fnExactFloorDyadicUptoRow : OpenClaim := { program := "ythddlechoibdkaadoor", sum := "5dbe8d8510437d610efd80654634f2fac7c0745d2c5c4fda9a5084268287078b", func := "loop.example/g01156/laws.FnExactFloorDyadic", spec := "fnExactFloorDyadic", named := ["math/bits.deBruijn32tab"], apart := false, laid := [("math/bits.deBruijn32tab", laid_math_bits_deBruijn32tab)], narrowed := true }
def FnExactFloorDyadicUptoSaid : Prop := fnExactFloorDyadicUptoRow.holds Tryd.pinned (OpenSpec.upto fnExactFloorDyadicSpec)

/-- 'laws.FnExactMakeDyadic', WHERE WHAT IT READS IS OF BULK AT MOST 1048576: true; the input reads as it did. -/
def fnExactMakeDyadicUptoRow : OpenClaim := { program := "ythddlechoibdkaadoor", sum := "5dbe8d8510437d610efd80654634f2fac7c0745d2c5c4fda9a5084268287078b", func := "loop.example/g01156/laws.FnExactMakeDyadic", spec := "fnExactMakeDyadic", named := ["math/bits.deBruijn32tab"], apart := false, laid := [("math/bits.deBruijn32tab", laid_math_bits_deBruijn32tab)], narrowed := true }
def FnExactMakeDyadicUptoSaid : Prop := fnExactMakeDyadicUptoRow.holds Tryd.pinned (OpenSpec.upto fnExactMakeDyadicSpec)

/-- 'laws.FnExactMultiplyDyadics', WHERE WHAT IT READS IS OF BULK AT MOST 1048576: true; the input reads as it did. -/
def fnExactMultiplyDyadicsUptoRow : OpenClaim := { program := "ythddlechoibdkaadoor", sum := "5dbe8d8510437d610efd80654634f2fac7c0745d2c5c4fda9a5084268287078b", func := "loop.example/g01156/laws.FnExactMultiplyDyadics", spec := "fnExactMultiplyDyadics", unfollowed := true, recurses := true, named := ["math/bits.deBruijn32tab"], apart := false, laid := [("math/bits.deBruijn32tab", laid_math_bits_deBruijn32tab)], narrowed := true }
def FnExactMultiplyDyadicsUptoSaid : Prop := fnExactMultiplyDyadicsUptoRow.holds Tryd.pinned (OpenSpec.upto fnExactMultiplyDyadicsSpec)

/-- 'laws.FnExactScaleDyadic', WHERE WHAT IT READS IS OF BULK AT MOST 1048576: true; the input reads as it did. -/
def fnExactScaleDyadicUptoRow : OpenClaim := { program := "ythddlechoibdkaadoor", sum := "5dbe8d8510437d610efd80654634f2fac7c0745d2c5c4fda9a5084268287078b", func := "loop.example/g01156/laws.FnExactScaleDyadic", spec := "fnExactScaleDyadic", named := ["math/bits.deBruijn32tab"], apart := false, laid := [("math/bits.deBruijn32tab", laid_math_bits_deBruijn32tab)], narrowed := true }
def FnExactScaleDyadicUptoSaid : Prop := fnExactScaleDyadicUptoRow.holds Tryd.pinned (OpenSpec.upto fnExactScaleDyadicSpec)

/-- 'laws.FnExactSubtractDyadics', WHERE WHAT IT READS IS OF BULK AT MOST 1048576: true; the input reads as it did. -/
def fnExactSubtractDyadicsUptoRow : OpenClaim := { program := "ythddlechoibdkaadoor", sum := "5dbe8d8510437d610efd80654634f2fac7c0745d2c5c4fda9a5084268287078b", func := "loop.example/g01156/laws.FnExactSubtractDyadics", spec := "fnExactSubtractDyadics", unfollowed := true, recurses := true, named := ["math/bits.deBruijn32tab"], apart := false, laid := [("math/bits.deBruijn32tab", laid_math_bits_deBruijn32tab)], narrowed := true }
def FnExactSubtractDyadicsUptoSaid : Prop := fnExactSubtractDyadicsUptoRow.holds Tryd.pinned (OpenSpec.upto fnExactSubtractDyadicsSpec)

end Rows
end Go.Proofs.YthddlechoibdkaaDoor
