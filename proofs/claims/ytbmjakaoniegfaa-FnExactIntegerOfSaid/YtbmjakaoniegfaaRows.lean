/-
  No cell of these rows narrows 'for every input' (looked for: loops, veiled, ifaces, maps, wideKeys, modest, calm, conditions, laid).
  DERIVED. THE GIVEN ROWS OF THIS SEAT. 5 by the template 'for every input the law returns true; each argument reads behind the call as it read before'; 0 by the template 'total and deterministic' (their statements: YtbmjakaoniegfaaTotals.lean).
  GIVEN WITH THE SEED: the statements are not yours to turn. If you find one false, say at which input.
  Laid BY PROGRAM, IN A SANDBOX (cutbox-rows.mjs): the forced cells as the released guide's own fill.sh prints them over the translation afb6b7cef97de0d7… (all of the seat's roots in one cut). By AI agents, Wed Nov 11 2026. No macro, syntax, notation, axiom, sorry.
-/
import Derived.Test.YtbmjakaoniegfaaChecked
import GoSem.Claim
import GoSem.ClaimJoined
import GoSem.ClaimMapViews
import Derived.JoinedTies
import Derived.KernelRfl
namespace Go.Proofs.Ytbmjakaoniegfaa
/- THE CELL 'sum', in the pinned program and in every row, IS THE sha256 OF THE DUMP (.gsa) THAT YtbmjakaoniegfaaProg.lean LOADS. Nothing in Lean hashes anything: it is a label: what it is worth is what the hold of that sum in a sandbox is worth. -/
noncomputable def Try.pinned : Pinned := { name := "ytbmjakaoniegfaa", sum := "afb6b7cef97de0d7579acf2b6b29042b8ed0193cd18c696e9ce3d9c76818ce63", checked := Try.checked }
namespace Rows
def none {H : Type} : Left H := { results := [], args := [] }

/-- 'laws.FnExactIsWhole': WHATEVER THE INPUT: true; the input reads as it did. -/
def fnExactIsWholeSpec : ChangeSpec := { name := "fnExactIsWhole", fn := fun _ => fun
  | [d] => { results := [.lit (.bool true)], args := [d] }
  | _ => none }
def fnExactIsWholeRow : OpenClaim := { program := "ytbmjakaoniegfaa", sum := "afb6b7cef97de0d7579acf2b6b29042b8ed0193cd18c696e9ce3d9c76818ce63", func := "loop.example/g01156/laws.FnExactIsWhole", spec := "fnExactIsWhole", apart := false }
def FnExactIsWholeSaid : Prop := fnExactIsWholeRow.holds Try.pinned (OpenSpec.ofChange fnExactIsWholeSpec)

/-- ITS FALSE NEIGHBOUR: 'it returns false'. Refute it at one input. -/
def fnExactIsWholeWrong : ChangeSpec := { name := "fnExactIsWhole", fn := fun _ => fun
  | [d] => { results := [.lit (.bool false)], args := [d] }
  | _ => none }
def FnExactIsWholeWrongFalsely : Prop := fnExactIsWholeRow.holds Try.pinned (OpenSpec.ofChange fnExactIsWholeWrong)

/-- 'laws.FnExactLengthOfWhole': WHATEVER THE INPUT: true; the input reads as it did. -/
def fnExactLengthOfWholeSpec : ChangeSpec := { name := "fnExactLengthOfWhole", fn := fun _ => fun
  | [d] => { results := [.lit (.bool true)], args := [d] }
  | _ => none }
def fnExactLengthOfWholeRow : OpenClaim := { program := "ytbmjakaoniegfaa", sum := "afb6b7cef97de0d7579acf2b6b29042b8ed0193cd18c696e9ce3d9c76818ce63", func := "loop.example/g01156/laws.FnExactLengthOfWhole", spec := "fnExactLengthOfWhole", apart := false }
def FnExactLengthOfWholeSaid : Prop := fnExactLengthOfWholeRow.holds Try.pinned (OpenSpec.ofChange fnExactLengthOfWholeSpec)

/-- ITS FALSE NEIGHBOUR: 'it returns false'. Refute it at one input. -/
def fnExactLengthOfWholeWrong : ChangeSpec := { name := "fnExactLengthOfWhole", fn := fun _ => fun
  | [d] => { results := [.lit (.bool false)], args := [d] }
  | _ => none }
def FnExactLengthOfWholeWrongFalsely : Prop := fnExactLengthOfWholeRow.holds Try.pinned (OpenSpec.ofChange fnExactLengthOfWholeWrong)

/-- 'laws.FnExactCompareWholes': WHATEVER THE INPUT: true; the input reads as it did. -/
def fnExactCompareWholesSpec : ChangeSpec := { name := "fnExactCompareWholes", fn := fun _ => fun
  | [d1, d2] => { results := [.lit (.bool true)], args := [d1, d2] }
  | _ => none }
def fnExactCompareWholesRow : OpenClaim := { program := "ytbmjakaoniegfaa", sum := "afb6b7cef97de0d7579acf2b6b29042b8ed0193cd18c696e9ce3d9c76818ce63", func := "loop.example/g01156/laws.FnExactCompareWholes", spec := "fnExactCompareWholes", apart := false }
def FnExactCompareWholesSaid : Prop := fnExactCompareWholesRow.holds Try.pinned (OpenSpec.ofChange fnExactCompareWholesSpec)

/-- ITS FALSE NEIGHBOUR: 'it returns false'. Refute it at one input. -/
def fnExactCompareWholesWrong : ChangeSpec := { name := "fnExactCompareWholes", fn := fun _ => fun
  | [d1, d2] => { results := [.lit (.bool false)], args := [d1, d2] }
  | _ => none }
def FnExactCompareWholesWrongFalsely : Prop := fnExactCompareWholesRow.holds Try.pinned (OpenSpec.ofChange fnExactCompareWholesWrong)

/-- 'laws.FnExactIntegerOf': WHATEVER THE INPUT: true; the input reads as it did. -/
def fnExactIntegerOfSpec : ChangeSpec := { name := "fnExactIntegerOf", fn := fun _ => fun
  | [d] => { results := [.lit (.bool true)], args := [d] }
  | _ => none }
def fnExactIntegerOfRow : OpenClaim := { program := "ytbmjakaoniegfaa", sum := "afb6b7cef97de0d7579acf2b6b29042b8ed0193cd18c696e9ce3d9c76818ce63", func := "loop.example/g01156/laws.FnExactIntegerOf", spec := "fnExactIntegerOf", apart := false }
def FnExactIntegerOfSaid : Prop := fnExactIntegerOfRow.holds Try.pinned (OpenSpec.ofChange fnExactIntegerOfSpec)

/-- ITS FALSE NEIGHBOUR: 'it returns false'. Refute it at one input. -/
def fnExactIntegerOfWrong : ChangeSpec := { name := "fnExactIntegerOf", fn := fun _ => fun
  | [d] => { results := [.lit (.bool false)], args := [d] }
  | _ => none }
def FnExactIntegerOfWrongFalsely : Prop := fnExactIntegerOfRow.holds Try.pinned (OpenSpec.ofChange fnExactIntegerOfWrong)

/-- 'laws.FnExactIsDyadic': WHATEVER THE INPUT: true; the input reads as it did. -/
def fnExactIsDyadicSpec : ChangeSpec := { name := "fnExactIsDyadic", fn := fun _ => fun
  | [d] => { results := [.lit (.bool true)], args := [d] }
  | _ => none }
def fnExactIsDyadicRow : OpenClaim := { program := "ytbmjakaoniegfaa", sum := "afb6b7cef97de0d7579acf2b6b29042b8ed0193cd18c696e9ce3d9c76818ce63", func := "loop.example/g01156/laws.FnExactIsDyadic", spec := "fnExactIsDyadic", apart := false }
def FnExactIsDyadicSaid : Prop := fnExactIsDyadicRow.holds Try.pinned (OpenSpec.ofChange fnExactIsDyadicSpec)

/-- ITS FALSE NEIGHBOUR: 'it returns false'. Refute it at one input. -/
def fnExactIsDyadicWrong : ChangeSpec := { name := "fnExactIsDyadic", fn := fun _ => fun
  | [d] => { results := [.lit (.bool false)], args := [d] }
  | _ => none }
def FnExactIsDyadicWrongFalsely : Prop := fnExactIsDyadicRow.holds Try.pinned (OpenSpec.ofChange fnExactIsDyadicWrong)

/- THE SECOND FORM. 'bulk': how many values and letters a reading holds, each counted each time it is reached (what is shared counts as often as it is met; a slice's spare places count too). A statement '..UptoSaid' is the law's where the arguments, and the package variables that the reading takes, are together of bulk at most 1048576: NARROWER than '..Said'. Prove '..Said' where nothing that the law and all that it calls make is longer than what came in: it says more and counts as full. Else prove '..UptoSaid'. A law counts once. -/
mutual
def uptoBulk {H : Type} : DataW H → Nat
  | .lit (.string bytes) => bytes.length + 1
  | .lit _ => 1
  | .nil => 1
  | .ptr d => uptoBulk d + 1
  | .slice elems spare => uptoBulkAll elems + uptoBulkAll spare + 1
  | .agg parts => uptoBulkAll parts + 1
  | .iface _ d => uptoBulk d + 1
  | .map entries => uptoBulkEntries entries + 1
  | .held _ => 1
def uptoBulkAll {H : Type} : List (DataW H) → Nat
  | [] => 0
  | d :: r => uptoBulk d + uptoBulkAll r
def uptoBulkEntries {H : Type} : List (Lit × DataW H) → Nat
  | [] => 0
  | x :: r => uptoBulkEntry x + uptoBulkEntries r
def uptoBulkEntry {H : Type} : Lit × DataW H → Nat
  | (.string bytes, d) => bytes.length + uptoBulk d + 1
  | (_, d) => uptoBulk d + 1
 end
def uptoSmall : (H : Type) → List (DataW H) → Bool := fun _ ds => decide (uptoBulkAll ds ≤ 1048576)
def OpenSpec.upto (s : _root_.Go.ChangeSpec) : _root_.Go.OpenSpec := { _root_.Go.OpenSpec.ofChange s with cond := some uptoSmall }

/-- 'laws.FnExactIsWhole', WHERE WHAT IT READS IS OF BULK AT MOST 1048576: true; the input reads as it did. -/
def fnExactIsWholeUptoRow : OpenClaim := { program := "ytbmjakaoniegfaa", sum := "afb6b7cef97de0d7579acf2b6b29042b8ed0193cd18c696e9ce3d9c76818ce63", func := "loop.example/g01156/laws.FnExactIsWhole", spec := "fnExactIsWhole", apart := false, narrowed := true }
def FnExactIsWholeUptoSaid : Prop := fnExactIsWholeUptoRow.holds Try.pinned (OpenSpec.upto fnExactIsWholeSpec)

/-- 'laws.FnExactLengthOfWhole', WHERE WHAT IT READS IS OF BULK AT MOST 1048576: true; the input reads as it did. -/
def fnExactLengthOfWholeUptoRow : OpenClaim := { program := "ytbmjakaoniegfaa", sum := "afb6b7cef97de0d7579acf2b6b29042b8ed0193cd18c696e9ce3d9c76818ce63", func := "loop.example/g01156/laws.FnExactLengthOfWhole", spec := "fnExactLengthOfWhole", apart := false, narrowed := true }
def FnExactLengthOfWholeUptoSaid : Prop := fnExactLengthOfWholeUptoRow.holds Try.pinned (OpenSpec.upto fnExactLengthOfWholeSpec)

/-- 'laws.FnExactCompareWholes', WHERE WHAT IT READS IS OF BULK AT MOST 1048576: true; the input reads as it did. -/
def fnExactCompareWholesUptoRow : OpenClaim := { program := "ytbmjakaoniegfaa", sum := "afb6b7cef97de0d7579acf2b6b29042b8ed0193cd18c696e9ce3d9c76818ce63", func := "loop.example/g01156/laws.FnExactCompareWholes", spec := "fnExactCompareWholes", apart := false, narrowed := true }
def FnExactCompareWholesUptoSaid : Prop := fnExactCompareWholesUptoRow.holds Try.pinned (OpenSpec.upto fnExactCompareWholesSpec)

/-- 'laws.FnExactIntegerOf', WHERE WHAT IT READS IS OF BULK AT MOST 1048576: true; the input reads as it did. -/
def fnExactIntegerOfUptoRow : OpenClaim := { program := "ytbmjakaoniegfaa", sum := "afb6b7cef97de0d7579acf2b6b29042b8ed0193cd18c696e9ce3d9c76818ce63", func := "loop.example/g01156/laws.FnExactIntegerOf", spec := "fnExactIntegerOf", apart := false, narrowed := true }
def FnExactIntegerOfUptoSaid : Prop := fnExactIntegerOfUptoRow.holds Try.pinned (OpenSpec.upto fnExactIntegerOfSpec)

/-- 'laws.FnExactIsDyadic', WHERE WHAT IT READS IS OF BULK AT MOST 1048576: true; the input reads as it did. -/
def fnExactIsDyadicUptoRow : OpenClaim := { program := "ytbmjakaoniegfaa", sum := "afb6b7cef97de0d7579acf2b6b29042b8ed0193cd18c696e9ce3d9c76818ce63", func := "loop.example/g01156/laws.FnExactIsDyadic", spec := "fnExactIsDyadic", apart := false, narrowed := true }
def FnExactIsDyadicUptoSaid : Prop := fnExactIsDyadicUptoRow.holds Try.pinned (OpenSpec.upto fnExactIsDyadicSpec)

end Rows
end Go.Proofs.Ytbmjakaoniegfaa
