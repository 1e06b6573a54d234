/-
  DERIVED. GIVEN WITH THE SEED: THE CARDS: each row of YtghhphndbbefjaaDoorRows.lean that lists a variable, with what it lists TIED to the program's text (the seventh form; the later family's looks); each row that meets fmt, with fmt's text TOLD by the authors' own Lean function (tested against real Go, not proved from fmt's source: count such statements apart). THE CARD IS WHAT COUNTS. Prove the row's statement (the work); the ties are given (YtghhphndbbefjaaDoorTie.lean); close each card by the builder's one call (the guide's Derived/Test/ToyasCard.lean, 'card_holds'). Laid BY PROGRAM, IN A SANDBOX (cutbox-door.mjs). By AI agents, Wed Nov 11 2026. No macro, syntax, notation, axiom, sorry.
-/
import Derived.Test.YtghhphndbbefjaaDoorRows
import GoSem.ClaimSeven
namespace Go.Proofs.YtghhphndbbefjaaDoor
namespace Rows

/-- THE TIED CARD OF 'laws.FnExactDivideWholes'. -/
def fnExactDivideWholesCard : Claim7 := { stood := { row := fnExactDivideWholesRow, standIns := [], harness := (true, "08db31d8f4d0bf7577462619926b9b8c4a7a6135107f6b2f048b7a011aaec2e4"), looks := false }, kinds := [], alts := [], laidByText := true, laidKinds := [.data], laidTests := true, laidLooks := .later }
def FnExactDivideWholesCardSaid : Prop := Claim7.holds Tryd.pinned (.plain (OpenSpec.ofChange fnExactDivideWholesSpec)) fnExactDivideWholesCard

/-- THE TIED CARD OF 'laws.FnExactWholeText'. -/
def fnExactWholeTextCard : Claim7 := { stood := { row := fnExactWholeTextRow, standIns := [], harness := (true, "08db31d8f4d0bf7577462619926b9b8c4a7a6135107f6b2f048b7a011aaec2e4"), looks := false }, kinds := [], alts := [], laidByText := true, laidKinds := [.data], laidTests := true, laidLooks := .later }
def FnExactWholeTextCardSaid : Prop := Claim7.holds Tryd.pinned (.plain (OpenSpec.ofChange fnExactWholeTextSpec)) fnExactWholeTextCard

/-- THE TIED CARD OF 'laws.FnExactRootOfWhole'. -/
def fnExactRootOfWholeCard : Claim7 := { stood := { row := fnExactRootOfWholeRow, standIns := [], harness := (true, "08db31d8f4d0bf7577462619926b9b8c4a7a6135107f6b2f048b7a011aaec2e4"), looks := false }, kinds := [], alts := [], laidByText := true, laidKinds := [.data], laidTests := true, laidLooks := .later }
def FnExactRootOfWholeCardSaid : Prop := Claim7.holds Tryd.pinned (.plain (OpenSpec.ofChange fnExactRootOfWholeSpec)) fnExactRootOfWholeCard

/-- THE TIED CARD OF 'laws.FnExactCommonOfWholes'. -/
def fnExactCommonOfWholesCard : Claim7 := { stood := { row := fnExactCommonOfWholesRow, standIns := [], harness := (true, "08db31d8f4d0bf7577462619926b9b8c4a7a6135107f6b2f048b7a011aaec2e4"), looks := false }, kinds := [], alts := [], laidByText := true, laidKinds := [.data], laidTests := true, laidLooks := .later }
def FnExactCommonOfWholesCardSaid : Prop := Claim7.holds Tryd.pinned (.plain (OpenSpec.ofChange fnExactCommonOfWholesSpec)) fnExactCommonOfWholesCard

/-- THE TIED CARD OF 'laws.FnExactAddExacts'. -/
def fnExactAddExactsCard : Claim7 := { stood := { row := fnExactAddExactsRow, standIns := [], harness := (true, "08db31d8f4d0bf7577462619926b9b8c4a7a6135107f6b2f048b7a011aaec2e4"), looks := false }, kinds := [], alts := [], laidByText := true, laidKinds := [.data], laidTests := true, laidLooks := .later }
def FnExactAddExactsCardSaid : Prop := Claim7.holds Tryd.pinned (.plain (OpenSpec.ofChange fnExactAddExactsSpec)) fnExactAddExactsCard

/-- THE TIED CARD OF 'laws.FnExactSquareOfExact'. -/
def fnExactSquareOfExactCard : Claim7 := { stood := { row := fnExactSquareOfExactRow, standIns := [], harness := (true, "08db31d8f4d0bf7577462619926b9b8c4a7a6135107f6b2f048b7a011aaec2e4"), looks := false }, kinds := [], alts := [], laidByText := true, laidKinds := [.data], laidTests := true, laidLooks := .later }
def FnExactSquareOfExactCardSaid : Prop := Claim7.holds Tryd.pinned (.plain (OpenSpec.ofChange fnExactSquareOfExactSpec)) fnExactSquareOfExactCard

/-- THE TIED CARD OF 'laws.FnExactMultiplyExacts'. -/
def fnExactMultiplyExactsCard : Claim7 := { stood := { row := fnExactMultiplyExactsRow, standIns := [], harness := (true, "08db31d8f4d0bf7577462619926b9b8c4a7a6135107f6b2f048b7a011aaec2e4"), looks := false }, kinds := [], alts := [], laidByText := true, laidKinds := [.data], laidTests := true, laidLooks := .later }
def FnExactMultiplyExactsCardSaid : Prop := Claim7.holds Tryd.pinned (.plain (OpenSpec.ofChange fnExactMultiplyExactsSpec)) fnExactMultiplyExactsCard

/-- THE TIED CARD OF 'laws.FnExactRootAbove'. -/
def fnExactRootAboveCard : Claim7 := { stood := { row := fnExactRootAboveRow, standIns := [], harness := (true, "08db31d8f4d0bf7577462619926b9b8c4a7a6135107f6b2f048b7a011aaec2e4"), looks := false }, kinds := [], alts := [], laidByText := true, laidKinds := [.data], laidTests := true, laidLooks := .later }
def FnExactRootAboveCardSaid : Prop := Claim7.holds Tryd.pinned (.plain (OpenSpec.ofChange fnExactRootAboveSpec)) fnExactRootAboveCard

/-- THE SECOND FORM's CARD OF 'laws.FnExactDivideWholes'. -/
def fnExactDivideWholesUptoCard : Claim7 := { stood := { row := fnExactDivideWholesUptoRow, standIns := [], harness := (true, "08db31d8f4d0bf7577462619926b9b8c4a7a6135107f6b2f048b7a011aaec2e4"), looks := false }, kinds := [], alts := [], laidByText := true, laidKinds := [.data], laidTests := true, laidLooks := .later }
def FnExactDivideWholesUptoCardSaid : Prop := Claim7.holds Tryd.pinned (.plain (OpenSpec.upto fnExactDivideWholesSpec)) fnExactDivideWholesUptoCard

/-- THE SECOND FORM's CARD OF 'laws.FnExactWholeText'. -/
def fnExactWholeTextUptoCard : Claim7 := { stood := { row := fnExactWholeTextUptoRow, standIns := [], harness := (true, "08db31d8f4d0bf7577462619926b9b8c4a7a6135107f6b2f048b7a011aaec2e4"), looks := false }, kinds := [], alts := [], laidByText := true, laidKinds := [.data], laidTests := true, laidLooks := .later }
def FnExactWholeTextUptoCardSaid : Prop := Claim7.holds Tryd.pinned (.plain (OpenSpec.upto fnExactWholeTextSpec)) fnExactWholeTextUptoCard

/-- THE SECOND FORM's CARD OF 'laws.FnExactRootOfWhole'. -/
def fnExactRootOfWholeUptoCard : Claim7 := { stood := { row := fnExactRootOfWholeUptoRow, standIns := [], harness := (true, "08db31d8f4d0bf7577462619926b9b8c4a7a6135107f6b2f048b7a011aaec2e4"), looks := false }, kinds := [], alts := [], laidByText := true, laidKinds := [.data], laidTests := true, laidLooks := .later }
def FnExactRootOfWholeUptoCardSaid : Prop := Claim7.holds Tryd.pinned (.plain (OpenSpec.upto fnExactRootOfWholeSpec)) fnExactRootOfWholeUptoCard

/-- THE SECOND FORM's CARD OF 'laws.FnExactCommonOfWholes'. -/
def fnExactCommonOfWholesUptoCard : Claim7 := { stood := { row := fnExactCommonOfWholesUptoRow, standIns := [], harness := (true, "08db31d8f4d0bf7577462619926b9b8c4a7a6135107f6b2f048b7a011aaec2e4"), looks := false }, kinds := [], alts := [], laidByText := true, laidKinds := [.data], laidTests := true, laidLooks := .later }
def FnExactCommonOfWholesUptoCardSaid : Prop := Claim7.holds Tryd.pinned (.plain (OpenSpec.upto fnExactCommonOfWholesSpec)) fnExactCommonOfWholesUptoCard

/-- THE SECOND FORM's CARD OF 'laws.FnExactAddExacts'. -/
def fnExactAddExactsUptoCard : Claim7 := { stood := { row := fnExactAddExactsUptoRow, standIns := [], harness := (true, "08db31d8f4d0bf7577462619926b9b8c4a7a6135107f6b2f048b7a011aaec2e4"), looks := false }, kinds := [], alts := [], laidByText := true, laidKinds := [.data], laidTests := true, laidLooks := .later }
def FnExactAddExactsUptoCardSaid : Prop := Claim7.holds Tryd.pinned (.plain (OpenSpec.upto fnExactAddExactsSpec)) fnExactAddExactsUptoCard

/-- THE SECOND FORM's CARD OF 'laws.FnExactSquareOfExact'. -/
def fnExactSquareOfExactUptoCard : Claim7 := { stood := { row := fnExactSquareOfExactUptoRow, standIns := [], harness := (true, "08db31d8f4d0bf7577462619926b9b8c4a7a6135107f6b2f048b7a011aaec2e4"), looks := false }, kinds := [], alts := [], laidByText := true, laidKinds := [.data], laidTests := true, laidLooks := .later }
def FnExactSquareOfExactUptoCardSaid : Prop := Claim7.holds Tryd.pinned (.plain (OpenSpec.upto fnExactSquareOfExactSpec)) fnExactSquareOfExactUptoCard

/-- THE SECOND FORM's CARD OF 'laws.FnExactMultiplyExacts'. -/
def fnExactMultiplyExactsUptoCard : Claim7 := { stood := { row := fnExactMultiplyExactsUptoRow, standIns := [], harness := (true, "08db31d8f4d0bf7577462619926b9b8c4a7a6135107f6b2f048b7a011aaec2e4"), looks := false }, kinds := [], alts := [], laidByText := true, laidKinds := [.data], laidTests := true, laidLooks := .later }
def FnExactMultiplyExactsUptoCardSaid : Prop := Claim7.holds Tryd.pinned (.plain (OpenSpec.upto fnExactMultiplyExactsSpec)) fnExactMultiplyExactsUptoCard

/-- THE SECOND FORM's CARD OF 'laws.FnExactRootAbove'. -/
def fnExactRootAboveUptoCard : Claim7 := { stood := { row := fnExactRootAboveUptoRow, standIns := [], harness := (true, "08db31d8f4d0bf7577462619926b9b8c4a7a6135107f6b2f048b7a011aaec2e4"), looks := false }, kinds := [], alts := [], laidByText := true, laidKinds := [.data], laidTests := true, laidLooks := .later }
def FnExactRootAboveUptoCardSaid : Prop := Claim7.holds Tryd.pinned (.plain (OpenSpec.upto fnExactRootAboveSpec)) fnExactRootAboveUptoCard
end Rows
end Go.Proofs.YtghhphndbbefjaaDoor
