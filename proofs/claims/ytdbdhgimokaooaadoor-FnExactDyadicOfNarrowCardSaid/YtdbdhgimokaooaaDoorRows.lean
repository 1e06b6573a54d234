/-
  NARROWER THAN 'FOR EVERY INPUT', by the rows' own cells (each row's printed sentence says how): FnExactMakeDyadic: laid · FnExactCompareDyadics: laid · FnExactDyadicOf: laid · FnExactMultiplyDyadics: laid · FnExactDyadicOfNarrow: laid · FnExactSubtractDyadics: laid · FnExactCeilDyadic: laid.
  DERIVED. THE GIVEN ROWS OF THIS SEAT. 7 by the template 'for every input the law returns true; each argument reads behind the call as it read before'; 0 by the template 'total and deterministic' (their statements: YtdbdhgimokaooaaDoorTotals.lean).
  GIVEN WITH THE SEED: the statements are not yours to turn. If you find one false, say at which input.
  Laid BY PROGRAM, IN A SANDBOX (cutbox-rows.mjs): the forced cells as the released guide's own fill.sh prints them over the translation 35269579fc4a12a5… (all of the seat's roots in one cut). By AI agents, Wed Nov 11 2026. No macro, syntax, notation, axiom, sorry.
-/
import Derived.Test.YtdbdhgimokaooaaDoorChecked
import GoSem.Claim
import GoSem.ClaimJoined
import GoSem.ClaimMapViews
import Derived.JoinedTies
import Derived.KernelRfl
namespace Go.Proofs.YtdbdhgimokaooaaDoor
/- THE CELL 'sum', in the pinned program and in every row, IS THE sha256 OF THE DUMP (.gsa) THAT YtdbdhgimokaooaaDoorProg.lean LOADS. Nothing in Lean hashes anything: it is a label: what it is worth is what the hold of that sum in a sandbox is worth. -/
noncomputable def Tryd.pinned : Pinned := { name := "ytdbdhgimokaooaadoor", sum := "35269579fc4a12a577fcf60c80e32f899f8b0a3c61c801c24f8987a18bfa0e18", checked := Tryd.checked }
namespace Rows
def none {H : Type} : Left H := { results := [], args := [] }

/- WHAT THE LISTED PACKAGE-LEVEL VARIABLES READ AS WHEN THE CALL BEGINS. Each datum BY PROGRAM (the guide's laid-datum.mjs) off the statement by which the dump's own 'gosem.cut.vars' lays the variable. In a bare row this is a premise. The card (YtdbdhgimokaooaaDoorCards.lean) ties it to the program's text. -/
def laid_math_bits_deBruijn32tab {H : Type} : DataW H := .agg [.lit (.int .u8 0), .lit (.int .u8 1), .lit (.int .u8 28), .lit (.int .u8 2), .lit (.int .u8 29), .lit (.int .u8 14), .lit (.int .u8 24), .lit (.int .u8 3), .lit (.int .u8 30), .lit (.int .u8 22), .lit (.int .u8 20), .lit (.int .u8 15), .lit (.int .u8 25), .lit (.int .u8 17), .lit (.int .u8 4), .lit (.int .u8 8), .lit (.int .u8 31), .lit (.int .u8 27), .lit (.int .u8 13), .lit (.int .u8 23), .lit (.int .u8 21), .lit (.int .u8 19), .lit (.int .u8 16), .lit (.int .u8 7), .lit (.int .u8 26), .lit (.int .u8 12), .lit (.int .u8 18), .lit (.int .u8 6), .lit (.int .u8 11), .lit (.int .u8 5), .lit (.int .u8 10), .lit (.int .u8 9)]

/-- 'laws.FnExactMakeDyadic': WHATEVER THE INPUT: true; the input reads as it did. -/
def fnExactMakeDyadicSpec : ChangeSpec := { name := "fnExactMakeDyadic", fn := fun _ => fun
  | [d1, d2] => { results := [.lit (.bool true)], args := [d1, d2] }
  | _ => none }
def fnExactMakeDyadicRow : OpenClaim := { program := "ytdbdhgimokaooaadoor", sum := "35269579fc4a12a577fcf60c80e32f899f8b0a3c61c801c24f8987a18bfa0e18", func := "loop.example/g01156/laws.FnExactMakeDyadic", spec := "fnExactMakeDyadic", named := ["math/bits.deBruijn32tab"], apart := false, laid := [("math/bits.deBruijn32tab", laid_math_bits_deBruijn32tab)] }
def FnExactMakeDyadicSaid : Prop := fnExactMakeDyadicRow.holds Tryd.pinned (OpenSpec.ofChange fnExactMakeDyadicSpec)

/-- ITS FALSE NEIGHBOUR: 'it returns false'. Refute it at one input. -/
def fnExactMakeDyadicWrong : ChangeSpec := { name := "fnExactMakeDyadic", fn := fun _ => fun
  | [d1, d2] => { results := [.lit (.bool false)], args := [d1, d2] }
  | _ => none }
def FnExactMakeDyadicWrongFalsely : Prop := fnExactMakeDyadicRow.holds Tryd.pinned (OpenSpec.ofChange fnExactMakeDyadicWrong)

/-- 'laws.FnExactCompareDyadics': WHATEVER THE INPUT: true; the input reads as it did. -/
def fnExactCompareDyadicsSpec : ChangeSpec := { name := "fnExactCompareDyadics", fn := fun _ => fun
  | [d1, d2] => { results := [.lit (.bool true)], args := [d1, d2] }
  | _ => none }
def fnExactCompareDyadicsRow : OpenClaim := { program := "ytdbdhgimokaooaadoor", sum := "35269579fc4a12a577fcf60c80e32f899f8b0a3c61c801c24f8987a18bfa0e18", func := "loop.example/g01156/laws.FnExactCompareDyadics", spec := "fnExactCompareDyadics", named := ["math/bits.deBruijn32tab"], apart := false, laid := [("math/bits.deBruijn32tab", laid_math_bits_deBruijn32tab)] }
def FnExactCompareDyadicsSaid : Prop := fnExactCompareDyadicsRow.holds Tryd.pinned (OpenSpec.ofChange fnExactCompareDyadicsSpec)

/-- ITS FALSE NEIGHBOUR: 'it returns false'. Refute it at one input. -/
def fnExactCompareDyadicsWrong : ChangeSpec := { name := "fnExactCompareDyadics", fn := fun _ => fun
  | [d1, d2] => { results := [.lit (.bool false)], args := [d1, d2] }
  | _ => none }
def FnExactCompareDyadicsWrongFalsely : Prop := fnExactCompareDyadicsRow.holds Tryd.pinned (OpenSpec.ofChange fnExactCompareDyadicsWrong)

/-- 'laws.FnExactDyadicOf': WHATEVER THE INPUT: true; the input reads as it did. -/
def fnExactDyadicOfSpec : ChangeSpec := { name := "fnExactDyadicOf", fn := fun _ => fun
  | [d] => { results := [.lit (.bool true)], args := [d] }
  | _ => none }
def fnExactDyadicOfRow : OpenClaim := { program := "ytdbdhgimokaooaadoor", sum := "35269579fc4a12a577fcf60c80e32f899f8b0a3c61c801c24f8987a18bfa0e18", func := "loop.example/g01156/laws.FnExactDyadicOf", spec := "fnExactDyadicOf", inPlace := ["math.Float64bits", "math.Float64frombits"], named := ["math/bits.deBruijn32tab"], apart := false, laid := [("math/bits.deBruijn32tab", laid_math_bits_deBruijn32tab)] }
def FnExactDyadicOfSaid : Prop := fnExactDyadicOfRow.holds Tryd.pinned (OpenSpec.ofChange fnExactDyadicOfSpec)

/-- ITS FALSE NEIGHBOUR: 'it returns false'. Refute it at one input. -/
def fnExactDyadicOfWrong : ChangeSpec := { name := "fnExactDyadicOf", fn := fun _ => fun
  | [d] => { results := [.lit (.bool false)], args := [d] }
  | _ => none }
def FnExactDyadicOfWrongFalsely : Prop := fnExactDyadicOfRow.holds Tryd.pinned (OpenSpec.ofChange fnExactDyadicOfWrong)

/-- 'laws.FnExactMultiplyDyadics': WHATEVER THE INPUT: true; the input reads as it did. -/
def fnExactMultiplyDyadicsSpec : ChangeSpec := { name := "fnExactMultiplyDyadics", fn := fun _ => fun
  | [d1, d2] => { results := [.lit (.bool true)], args := [d1, d2] }
  | _ => none }
def fnExactMultiplyDyadicsRow : OpenClaim := { program := "ytdbdhgimokaooaadoor", sum := "35269579fc4a12a577fcf60c80e32f899f8b0a3c61c801c24f8987a18bfa0e18", func := "loop.example/g01156/laws.FnExactMultiplyDyadics", spec := "fnExactMultiplyDyadics", unfollowed := true, recurses := true, named := ["math/bits.deBruijn32tab"], apart := false, laid := [("math/bits.deBruijn32tab", laid_math_bits_deBruijn32tab)] }
def FnExactMultiplyDyadicsSaid : Prop := fnExactMultiplyDyadicsRow.holds Tryd.pinned (OpenSpec.ofChange fnExactMultiplyDyadicsSpec)

/-- ITS FALSE NEIGHBOUR: 'it returns false'. Refute it at one input. -/
def fnExactMultiplyDyadicsWrong : ChangeSpec := { name := "fnExactMultiplyDyadics", fn := fun _ => fun
  | [d1, d2] => { results := [.lit (.bool false)], args := [d1, d2] }
  | _ => none }
def FnExactMultiplyDyadicsWrongFalsely : Prop := fnExactMultiplyDyadicsRow.holds Tryd.pinned (OpenSpec.ofChange fnExactMultiplyDyadicsWrong)

/-- 'laws.FnExactDyadicOfNarrow': WHATEVER THE INPUT: true; the input reads as it did. -/
def fnExactDyadicOfNarrowSpec : ChangeSpec := { name := "fnExactDyadicOfNarrow", fn := fun _ => fun
  | [d] => { results := [.lit (.bool true)], args := [d] }
  | _ => none }
def fnExactDyadicOfNarrowRow : OpenClaim := { program := "ytdbdhgimokaooaadoor", sum := "35269579fc4a12a577fcf60c80e32f899f8b0a3c61c801c24f8987a18bfa0e18", func := "loop.example/g01156/laws.FnExactDyadicOfNarrow", spec := "fnExactDyadicOfNarrow", inPlace := ["math.Float64bits", "math.Float64frombits"], named := ["math/bits.deBruijn32tab"], apart := false, laid := [("math/bits.deBruijn32tab", laid_math_bits_deBruijn32tab)] }
def FnExactDyadicOfNarrowSaid : Prop := fnExactDyadicOfNarrowRow.holds Tryd.pinned (OpenSpec.ofChange fnExactDyadicOfNarrowSpec)

/-- ITS FALSE NEIGHBOUR: 'it returns false'. Refute it at one input. -/
def fnExactDyadicOfNarrowWrong : ChangeSpec := { name := "fnExactDyadicOfNarrow", fn := fun _ => fun
  | [d] => { results := [.lit (.bool false)], args := [d] }
  | _ => none }
def FnExactDyadicOfNarrowWrongFalsely : Prop := fnExactDyadicOfNarrowRow.holds Tryd.pinned (OpenSpec.ofChange fnExactDyadicOfNarrowWrong)

/-- 'laws.FnExactSubtractDyadics': WHATEVER THE INPUT: true; the input reads as it did. -/
def fnExactSubtractDyadicsSpec : ChangeSpec := { name := "fnExactSubtractDyadics", fn := fun _ => fun
  | [d1, d2] => { results := [.lit (.bool true)], args := [d1, d2] }
  | _ => none }
def fnExactSubtractDyadicsRow : OpenClaim := { program := "ytdbdhgimokaooaadoor", sum := "35269579fc4a12a577fcf60c80e32f899f8b0a3c61c801c24f8987a18bfa0e18", func := "loop.example/g01156/laws.FnExactSubtractDyadics", spec := "fnExactSubtractDyadics", unfollowed := true, recurses := true, named := ["math/bits.deBruijn32tab"], apart := false, laid := [("math/bits.deBruijn32tab", laid_math_bits_deBruijn32tab)] }
def FnExactSubtractDyadicsSaid : Prop := fnExactSubtractDyadicsRow.holds Tryd.pinned (OpenSpec.ofChange fnExactSubtractDyadicsSpec)

/-- ITS FALSE NEIGHBOUR: 'it returns false'. Refute it at one input. -/
def fnExactSubtractDyadicsWrong : ChangeSpec := { name := "fnExactSubtractDyadics", fn := fun _ => fun
  | [d1, d2] => { results := [.lit (.bool false)], args := [d1, d2] }
  | _ => none }
def FnExactSubtractDyadicsWrongFalsely : Prop := fnExactSubtractDyadicsRow.holds Tryd.pinned (OpenSpec.ofChange fnExactSubtractDyadicsWrong)

/-- 'laws.FnExactCeilDyadic': WHATEVER THE INPUT: true; the input reads as it did. -/
def fnExactCeilDyadicSpec : ChangeSpec := { name := "fnExactCeilDyadic", fn := fun _ => fun
  | [d1, d2] => { results := [.lit (.bool true)], args := [d1, d2] }
  | _ => none }
def fnExactCeilDyadicRow : OpenClaim := { program := "ytdbdhgimokaooaadoor", sum := "35269579fc4a12a577fcf60c80e32f899f8b0a3c61c801c24f8987a18bfa0e18", func := "loop.example/g01156/laws.FnExactCeilDyadic", spec := "fnExactCeilDyadic", named := ["math/bits.deBruijn32tab"], apart := false, laid := [("math/bits.deBruijn32tab", laid_math_bits_deBruijn32tab)] }
def FnExactCeilDyadicSaid : Prop := fnExactCeilDyadicRow.holds Tryd.pinned (OpenSpec.ofChange fnExactCeilDyadicSpec)

/-- ITS FALSE NEIGHBOUR: 'it returns false'. Refute it at one input. -/
def fnExactCeilDyadicWrong : ChangeSpec := { name := "fnExactCeilDyadic", fn := fun _ => fun
  | [d1, d2] => { results := [.lit (.bool false)], args := [d1, d2] }
  | _ => none }
def FnExactCeilDyadicWrongFalsely : Prop := fnExactCeilDyadicRow.holds Tryd.pinned (OpenSpec.ofChange fnExactCeilDyadicWrong)

/- THE SECOND FORM. 'bulk': how many values and letters a reading holds, each counted each time it is reached (what is shared counts as often as it is met; a slice's spare places count too). A statement '..UptoSaid' is the law's where the arguments, and the package variables that the reading takes, are together of bulk at most 1048576: NARROWER than '..Said'. Prove '..Said' where nothing that the law and all that it calls make is longer than what came in: it says more and counts as full. Else prove '..UptoSaid'. A law counts once. -/
mutual
def uptoBulk {H : Type} : DataW H → Nat
  | .lit (.string bytes) => bytes.length + 1
  | .lit _ => 1
  | .nil => 1
  | .ptr d => uptoBulk d + 1
  | .slice elems spare => uptoBulkAll elems + uptoBulkAll spare + 1
  | .agg parts => uptoBulkAll parts + 1
  | .iface _ d => uptoBulk d + 1
  | .map entries => uptoBulkEntries entries + 1
  | .held _ => 1
def uptoBulkAll {H : Type} : List (DataW H) → Nat
  | [] => 0
  | d :: r => uptoBulk d + uptoBulkAll r
def uptoBulkEntries {H : Type} : List (Lit × DataW H) → Nat
  | [] => 0
  | x :: r => uptoBulkEntry x + uptoBulkEntries r
def uptoBulkEntry {H : Type} : Lit × DataW H → Nat
  | (.string bytes, d) => bytes.length + uptoBulk d + 1
  | (_, d) => uptoBulk d + 1
 end
def uptoSmall : (H : Type) → List (DataW H) → Bool := fun _ ds => decide (uptoBulkAll ds ≤ 1048576)
def OpenSpec.upto (s : _root_.Go.ChangeSpec) : _root_.Go.OpenSpec := { _root_.Go.OpenSpec.ofChange s with cond := some uptoSmall }

/-- 'laws.FnExactMakeDyadic', WHERE WHAT IT READS IS OF BULK AT MOST 1048576: true; the input reads as it did. -/
def fnExactMakeDyadicUptoRow : OpenClaim := { program := "ytdbdhgimokaooaadoor", sum := "35269579fc4a12a577fcf60c80e32f899f8b0a3c61c801c24f8987a18bfa0e18", func := "loop.example/g01156/laws.FnExactMakeDyadic", spec := "fnExactMakeDyadic", named := ["math/bits.deBruijn32tab"], apart := false, laid := [("math/bits.deBruijn32tab", laid_math_bits_deBruijn32tab)], narrowed := true }
def FnExactMakeDyadicUptoSaid : Prop := fnExactMakeDyadicUptoRow.holds Tryd.pinned (OpenSpec.upto fnExactMakeDyadicSpec)

/-- 'laws.FnExactCompareDyadics', WHERE WHAT IT READS IS OF BULK AT MOST 1048576: true; the input reads as it did. -/
def fnExactCompareDyadicsUptoRow : OpenClaim := { program := "ytdbdhgimokaooaadoor", sum := "35269579fc4a12a577fcf60c80e32f899f8b0a3c61c801c24f8987a18bfa0e18", func := "loop.example/g01156/laws.FnExactCompareDyadics", spec := "fnExactCompareDyadics", named := ["math/bits.deBruijn32tab"], apart := false, laid := [("math/bits.deBruijn32tab", laid_math_bits_deBruijn32tab)], narrowed := true }
def FnExactCompareDyadicsUptoSaid : Prop := fnExactCompareDyadicsUptoRow.holds Tryd.pinned (OpenSpec.upto fnExactCompareDyadicsSpec)

/-- 'laws.FnExactDyadicOf', WHERE WHAT IT READS IS OF BULK AT MOST 1048576: true; the input reads as it did. -/
def fnExactDyadicOfUptoRow : OpenClaim := { program := "ytdbdhgimokaooaadoor", sum := "35269579fc4a12a577fcf60c80e32f899f8b0a3c61c801c24f8987a18bfa0e18", func := "loop.example/g01156/laws.FnExactDyadicOf", spec := "fnExactDyadicOf", inPlace := ["math.Float64bits", "math.Float64frombits"], named := ["math/bits.deBruijn32tab"], apart := false, laid := [("math/bits.deBruijn32tab", laid_math_bits_deBruijn32tab)], narrowed := true }
def FnExactDyadicOfUptoSaid : Prop := fnExactDyadicOfUptoRow.holds Tryd.pinned (OpenSpec.upto fnExactDyadicOfSpec)

/-- 'laws.FnExactMultiplyDyadics', WHERE WHAT IT READS IS OF BULK AT MOST 1048576: true; the input reads as it did. -/
def fnExactMultiplyDyadicsUptoRow : OpenClaim := { program := "ytdbdhgimokaooaadoor", sum := "35269579fc4a12a577fcf60c80e32f899f8b0a3c61c801c24f8987a18bfa0e18", func := "loop.example/g01156/laws.FnExactMultiplyDyadics", spec := "fnExactMultiplyDyadics", unfollowed := true, recurses := true, named := ["math/bits.deBruijn32tab"], apart := false, laid := [("math/bits.deBruijn32tab", laid_math_bits_deBruijn32tab)], narrowed := true }
def FnExactMultiplyDyadicsUptoSaid : Prop := fnExactMultiplyDyadicsUptoRow.holds Tryd.pinned (OpenSpec.upto fnExactMultiplyDyadicsSpec)

/-- 'laws.FnExactDyadicOfNarrow', WHERE WHAT IT READS IS OF BULK AT MOST 1048576: true; the input reads as it did. -/
def fnExactDyadicOfNarrowUptoRow : OpenClaim := { program := "ytdbdhgimokaooaadoor", sum := "35269579fc4a12a577fcf60c80e32f899f8b0a3c61c801c24f8987a18bfa0e18", func := "loop.example/g01156/laws.FnExactDyadicOfNarrow", spec := "fnExactDyadicOfNarrow", inPlace := ["math.Float64bits", "math.Float64frombits"], named := ["math/bits.deBruijn32tab"], apart := false, laid := [("math/bits.deBruijn32tab", laid_math_bits_deBruijn32tab)], narrowed := true }
def FnExactDyadicOfNarrowUptoSaid : Prop := fnExactDyadicOfNarrowUptoRow.holds Tryd.pinned (OpenSpec.upto fnExactDyadicOfNarrowSpec)

/-- 'laws.FnExactSubtractDyadics', WHERE WHAT IT READS IS OF BULK AT MOST 1048576: true; the input reads as it did. -/
def fnExactSubtractDyadicsUptoRow : OpenClaim := { program := "ytdbdhgimokaooaadoor", sum := "35269579fc4a12a577fcf60c80e32f899f8b0a3c61c801c24f8987a18bfa0e18", func := "loop.example/g01156/laws.FnExactSubtractDyadics", spec := "fnExactSubtractDyadics", unfollowed := true, recurses := true, named := ["math/bits.deBruijn32tab"], apart := false, laid := [("math/bits.deBruijn32tab", laid_math_bits_deBruijn32tab)], narrowed := true }
def FnExactSubtractDyadicsUptoSaid : Prop := fnExactSubtractDyadicsUptoRow.holds Tryd.pinned (OpenSpec.upto fnExactSubtractDyadicsSpec)

/-- 'laws.FnExactCeilDyadic', WHERE WHAT IT READS IS OF BULK AT MOST 1048576: true; the input reads as it did. -/
def fnExactCeilDyadicUptoRow : OpenClaim := { program := "ytdbdhgimokaooaadoor", sum := "35269579fc4a12a577fcf60c80e32f899f8b0a3c61c801c24f8987a18bfa0e18", func := "loop.example/g01156/laws.FnExactCeilDyadic", spec := "fnExactCeilDyadic", named := ["math/bits.deBruijn32tab"], apart := false, laid := [("math/bits.deBruijn32tab", laid_math_bits_deBruijn32tab)], narrowed := true }
def FnExactCeilDyadicUptoSaid : Prop := fnExactCeilDyadicUptoRow.holds Tryd.pinned (OpenSpec.upto fnExactCeilDyadicSpec)

end Rows
end Go.Proofs.YtdbdhgimokaooaaDoor
