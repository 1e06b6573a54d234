/-
  DERIVED. GIVEN WITH THE SEED: THE CARDS: each row of YtlkomiiijhphnaaDoorRows.lean that lists a variable, with what it lists TIED to the program's text (the seventh form; the later family's looks); each row that meets fmt, with fmt's text TOLD by the authors' own Lean function (tested against real Go, not proved from fmt's source: count such statements apart). THE CARD IS WHAT COUNTS. Prove the row's statement (the work); the ties are given (YtlkomiiijhphnaaDoorTie.lean); close each card by the builder's one call (the guide's Derived/Test/ToyasCard.lean, 'card_holds'). Laid BY PROGRAM, IN A SANDBOX (cutbox-door.mjs). By AI agents, Wed Nov 11 2026. No macro, syntax, notation, axiom, sorry.
-/
import Derived.Test.YtlkomiiijhphnaaDoorRows
import GoSem.ClaimSeven
namespace Go.Proofs.YtlkomiiijhphnaaDoor
namespace Rows

/-- THE TIED CARD OF 'laws.FnWholes'. -/
def fnWholesCard : Claim7 := { stood := { row := fnWholesRow, standIns := [], harness := (true, "c5ab95d5b74ad08b8a14e05fec3d4785b037db07c02ee2e128a104d3b0e69324"), looks := false }, kinds := [], alts := [], laidByText := true, laidKinds := [.data], laidTests := true, laidLooks := .later }
def FnWholesCardSaid : Prop := Claim7.holds Tryd.pinned (.plain (OpenSpec.ofChange fnWholesSpec)) fnWholesCard

/-- THE TIED CARD OF 'laws.FnWholeRoots'. -/
def fnWholeRootsCard : Claim7 := { stood := { row := fnWholeRootsRow, standIns := [], harness := (true, "c5ab95d5b74ad08b8a14e05fec3d4785b037db07c02ee2e128a104d3b0e69324"), looks := false }, kinds := [], alts := [], laidByText := true, laidKinds := [.data], laidTests := true, laidLooks := .later }
def FnWholeRootsCardSaid : Prop := Claim7.holds Tryd.pinned (.plain (OpenSpec.ofChange fnWholeRootsSpec)) fnWholeRootsCard

/-- THE SECOND FORM's CARD OF 'laws.FnWholes'. -/
def fnWholesUptoCard : Claim7 := { stood := { row := fnWholesUptoRow, standIns := [], harness := (true, "c5ab95d5b74ad08b8a14e05fec3d4785b037db07c02ee2e128a104d3b0e69324"), looks := false }, kinds := [], alts := [], laidByText := true, laidKinds := [.data], laidTests := true, laidLooks := .later }
def FnWholesUptoCardSaid : Prop := Claim7.holds Tryd.pinned (.plain (OpenSpec.upto fnWholesSpec)) fnWholesUptoCard

/-- THE SECOND FORM's CARD OF 'laws.FnWholeRoots'. -/
def fnWholeRootsUptoCard : Claim7 := { stood := { row := fnWholeRootsUptoRow, standIns := [], harness := (true, "c5ab95d5b74ad08b8a14e05fec3d4785b037db07c02ee2e128a104d3b0e69324"), looks := false }, kinds := [], alts := [], laidByText := true, laidKinds := [.data], laidTests := true, laidLooks := .later }
def FnWholeRootsUptoCardSaid : Prop := Claim7.holds Tryd.pinned (.plain (OpenSpec.upto fnWholeRootsSpec)) fnWholeRootsUptoCard
end Rows
end Go.Proofs.YtlkomiiijhphnaaDoor
