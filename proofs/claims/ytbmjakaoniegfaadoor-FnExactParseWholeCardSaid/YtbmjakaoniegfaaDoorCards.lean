/-
  DERIVED. GIVEN WITH THE SEED: THE CARDS: each row of YtbmjakaoniegfaaDoorRows.lean that lists a variable, with what it lists TIED to the program's text (the seventh form; the later family's looks); each row that meets fmt, with fmt's text TOLD by the authors' own Lean function (tested against real Go, not proved from fmt's source: count such statements apart). THE CARD IS WHAT COUNTS. Prove the row's statement (the work); the ties are given (YtbmjakaoniegfaaDoorTie.lean); close each card by the builder's one call (the guide's Derived/Test/ToyasCard.lean, 'card_holds'). Laid BY PROGRAM, IN A SANDBOX (cutbox-door.mjs). By AI agents, Wed Nov 11 2026. No macro, syntax, notation, axiom, sorry.
-/
import Derived.Test.YtbmjakaoniegfaaDoorRows
import GoSem.ClaimSeven
namespace Go.Proofs.YtbmjakaoniegfaaDoor
namespace Rows

/-- THE TIED CARD OF 'laws.FnExactTwosIn'. -/
def fnExactTwosInCard : Claim7 := { stood := { row := fnExactTwosInRow, standIns := [], harness := (true, "89f1dcff0d879c5d79e29cac328e56334749f298cb58f723d1e87d29748d085e"), looks := false }, kinds := [], alts := [], laidByText := true, laidKinds := [.data], laidTests := true, laidLooks := .later }
def FnExactTwosInCardSaid : Prop := Claim7.holds Tryd.pinned (.plain (OpenSpec.ofChange fnExactTwosInSpec)) fnExactTwosInCard

/-- THE TIED CARD OF 'laws.FnExactWholeOf'. -/
def fnExactWholeOfCard : Claim7 := { stood := { row := fnExactWholeOfRow, standIns := [], harness := (true, "89f1dcff0d879c5d79e29cac328e56334749f298cb58f723d1e87d29748d085e"), looks := false }, kinds := [], alts := [], laidByText := true, laidKinds := [.data], laidTests := true, laidLooks := .later }
def FnExactWholeOfCardSaid : Prop := Claim7.holds Tryd.pinned (.plain (OpenSpec.ofChange fnExactWholeOfSpec)) fnExactWholeOfCard

/-- THE TIED CARD OF 'laws.FnExactParseWhole'. -/
def fnExactParseWholeCard : Claim7 := { stood := { row := fnExactParseWholeRow, standIns := [], harness := (true, "89f1dcff0d879c5d79e29cac328e56334749f298cb58f723d1e87d29748d085e"), looks := false }, kinds := [], alts := [], laidByText := true, laidKinds := [.data], laidTests := true, laidLooks := .later }
def FnExactParseWholeCardSaid : Prop := Claim7.holds Tryd.pinned (.plain (OpenSpec.ofChange fnExactParseWholeSpec)) fnExactParseWholeCard

/-- THE TIED CARD OF 'laws.FnExactWholeText'. -/
def fnExactWholeTextCard : Claim7 := { stood := { row := fnExactWholeTextRow, standIns := [], harness := (true, "89f1dcff0d879c5d79e29cac328e56334749f298cb58f723d1e87d29748d085e"), looks := false }, kinds := [], alts := [], laidByText := true, laidKinds := [.data], laidTests := true, laidLooks := .later }
def FnExactWholeTextCardSaid : Prop := Claim7.holds Tryd.pinned (.plain (OpenSpec.ofChange fnExactWholeTextSpec)) fnExactWholeTextCard

/-- THE TIED CARD OF 'laws.FnExactMultiplyWholes'. -/
def fnExactMultiplyWholesCard : Claim7 := { stood := { row := fnExactMultiplyWholesRow, standIns := [], harness := (true, "89f1dcff0d879c5d79e29cac328e56334749f298cb58f723d1e87d29748d085e"), looks := false }, kinds := [], alts := [], laidByText := true, laidKinds := [.data], laidTests := true, laidLooks := .later }
def FnExactMultiplyWholesCardSaid : Prop := Claim7.holds Tryd.pinned (.plain (OpenSpec.ofChange fnExactMultiplyWholesSpec)) fnExactMultiplyWholesCard

/-- THE TIED CARD OF 'laws.FnExactPowerOfWhole'. -/
def fnExactPowerOfWholeCard : Claim7 := { stood := { row := fnExactPowerOfWholeRow, standIns := [], harness := (true, "89f1dcff0d879c5d79e29cac328e56334749f298cb58f723d1e87d29748d085e"), looks := false }, kinds := [], alts := [], laidByText := true, laidKinds := [.data], laidTests := true, laidLooks := .later }
def FnExactPowerOfWholeCardSaid : Prop := Claim7.holds Tryd.pinned (.plain (OpenSpec.ofChange fnExactPowerOfWholeSpec)) fnExactPowerOfWholeCard

/-- THE TIED CARD OF 'laws.FnExactAddWholes'. -/
def fnExactAddWholesCard : Claim7 := { stood := { row := fnExactAddWholesRow, standIns := [], harness := (true, "89f1dcff0d879c5d79e29cac328e56334749f298cb58f723d1e87d29748d085e"), looks := false }, kinds := [], alts := [], laidByText := true, laidKinds := [.data], laidTests := true, laidLooks := .later }
def FnExactAddWholesCardSaid : Prop := Claim7.holds Tryd.pinned (.plain (OpenSpec.ofChange fnExactAddWholesSpec)) fnExactAddWholesCard

/-- THE TIED CARD OF 'laws.FnExactSubtractWholes'. -/
def fnExactSubtractWholesCard : Claim7 := { stood := { row := fnExactSubtractWholesRow, standIns := [], harness := (true, "89f1dcff0d879c5d79e29cac328e56334749f298cb58f723d1e87d29748d085e"), looks := false }, kinds := [], alts := [], laidByText := true, laidKinds := [.data], laidTests := true, laidLooks := .later }
def FnExactSubtractWholesCardSaid : Prop := Claim7.holds Tryd.pinned (.plain (OpenSpec.ofChange fnExactSubtractWholesSpec)) fnExactSubtractWholesCard

/-- THE TIED CARD OF 'laws.FnExactDivideWholes'. -/
def fnExactDivideWholesCard : Claim7 := { stood := { row := fnExactDivideWholesRow, standIns := [], harness := (true, "89f1dcff0d879c5d79e29cac328e56334749f298cb58f723d1e87d29748d085e"), looks := false }, kinds := [], alts := [], laidByText := true, laidKinds := [.data], laidTests := true, laidLooks := .later }
def FnExactDivideWholesCardSaid : Prop := Claim7.holds Tryd.pinned (.plain (OpenSpec.ofChange fnExactDivideWholesSpec)) fnExactDivideWholesCard

/-- THE TIED CARD OF 'laws.FnExactShiftWhole'. -/
def fnExactShiftWholeCard : Claim7 := { stood := { row := fnExactShiftWholeRow, standIns := [], harness := (true, "89f1dcff0d879c5d79e29cac328e56334749f298cb58f723d1e87d29748d085e"), looks := false }, kinds := [], alts := [], laidByText := true, laidKinds := [.data], laidTests := true, laidLooks := .later }
def FnExactShiftWholeCardSaid : Prop := Claim7.holds Tryd.pinned (.plain (OpenSpec.ofChange fnExactShiftWholeSpec)) fnExactShiftWholeCard

/-- THE TIED CARD OF 'laws.FnExactRootOfWhole'. -/
def fnExactRootOfWholeCard : Claim7 := { stood := { row := fnExactRootOfWholeRow, standIns := [], harness := (true, "89f1dcff0d879c5d79e29cac328e56334749f298cb58f723d1e87d29748d085e"), looks := false }, kinds := [], alts := [], laidByText := true, laidKinds := [.data], laidTests := true, laidLooks := .later }
def FnExactRootOfWholeCardSaid : Prop := Claim7.holds Tryd.pinned (.plain (OpenSpec.ofChange fnExactRootOfWholeSpec)) fnExactRootOfWholeCard

/-- THE TIED CARD OF 'laws.FnExactCommonOfWholes'. -/
def fnExactCommonOfWholesCard : Claim7 := { stood := { row := fnExactCommonOfWholesRow, standIns := [], harness := (true, "89f1dcff0d879c5d79e29cac328e56334749f298cb58f723d1e87d29748d085e"), looks := false }, kinds := [], alts := [], laidByText := true, laidKinds := [.data], laidTests := true, laidLooks := .later }
def FnExactCommonOfWholesCardSaid : Prop := Claim7.holds Tryd.pinned (.plain (OpenSpec.ofChange fnExactCommonOfWholesSpec)) fnExactCommonOfWholesCard

/-- THE TIED CARD OF 'laws.FnWholeTexts'. -/
def fnWholeTextsCard : Claim7 := { stood := { row := fnWholeTextsRow, standIns := [], harness := (true, "89f1dcff0d879c5d79e29cac328e56334749f298cb58f723d1e87d29748d085e"), looks := false }, kinds := [], alts := [], laidByText := true, laidKinds := [.data], laidTests := true, laidLooks := .later }
def FnWholeTextsCardSaid : Prop := Claim7.holds Tryd.pinned (.plain (OpenSpec.ofChange fnWholeTextsSpec)) fnWholeTextsCard

/-- THE TIED CARD OF 'laws.FnWholes'. -/
def fnWholesCard : Claim7 := { stood := { row := fnWholesRow, standIns := [], harness := (true, "89f1dcff0d879c5d79e29cac328e56334749f298cb58f723d1e87d29748d085e"), looks := false }, kinds := [], alts := [], laidByText := true, laidKinds := [.data], laidTests := true, laidLooks := .later }
def FnWholesCardSaid : Prop := Claim7.holds Tryd.pinned (.plain (OpenSpec.ofChange fnWholesSpec)) fnWholesCard

/-- THE TIED CARD OF 'laws.FnWholeRoots'. -/
def fnWholeRootsCard : Claim7 := { stood := { row := fnWholeRootsRow, standIns := [], harness := (true, "89f1dcff0d879c5d79e29cac328e56334749f298cb58f723d1e87d29748d085e"), looks := false }, kinds := [], alts := [], laidByText := true, laidKinds := [.data], laidTests := true, laidLooks := .later }
def FnWholeRootsCardSaid : Prop := Claim7.holds Tryd.pinned (.plain (OpenSpec.ofChange fnWholeRootsSpec)) fnWholeRootsCard

/-- THE SECOND FORM's CARD OF 'laws.FnExactTwosIn'. -/
def fnExactTwosInUptoCard : Claim7 := { stood := { row := fnExactTwosInUptoRow, standIns := [], harness := (true, "89f1dcff0d879c5d79e29cac328e56334749f298cb58f723d1e87d29748d085e"), looks := false }, kinds := [], alts := [], laidByText := true, laidKinds := [.data], laidTests := true, laidLooks := .later }
def FnExactTwosInUptoCardSaid : Prop := Claim7.holds Tryd.pinned (.plain (OpenSpec.upto fnExactTwosInSpec)) fnExactTwosInUptoCard

/-- THE SECOND FORM's CARD OF 'laws.FnExactWholeOf'. -/
def fnExactWholeOfUptoCard : Claim7 := { stood := { row := fnExactWholeOfUptoRow, standIns := [], harness := (true, "89f1dcff0d879c5d79e29cac328e56334749f298cb58f723d1e87d29748d085e"), looks := false }, kinds := [], alts := [], laidByText := true, laidKinds := [.data], laidTests := true, laidLooks := .later }
def FnExactWholeOfUptoCardSaid : Prop := Claim7.holds Tryd.pinned (.plain (OpenSpec.upto fnExactWholeOfSpec)) fnExactWholeOfUptoCard

/-- THE SECOND FORM's CARD OF 'laws.FnExactParseWhole'. -/
def fnExactParseWholeUptoCard : Claim7 := { stood := { row := fnExactParseWholeUptoRow, standIns := [], harness := (true, "89f1dcff0d879c5d79e29cac328e56334749f298cb58f723d1e87d29748d085e"), looks := false }, kinds := [], alts := [], laidByText := true, laidKinds := [.data], laidTests := true, laidLooks := .later }
def FnExactParseWholeUptoCardSaid : Prop := Claim7.holds Tryd.pinned (.plain (OpenSpec.upto fnExactParseWholeSpec)) fnExactParseWholeUptoCard

/-- THE SECOND FORM's CARD OF 'laws.FnExactWholeText'. -/
def fnExactWholeTextUptoCard : Claim7 := { stood := { row := fnExactWholeTextUptoRow, standIns := [], harness := (true, "89f1dcff0d879c5d79e29cac328e56334749f298cb58f723d1e87d29748d085e"), looks := false }, kinds := [], alts := [], laidByText := true, laidKinds := [.data], laidTests := true, laidLooks := .later }
def FnExactWholeTextUptoCardSaid : Prop := Claim7.holds Tryd.pinned (.plain (OpenSpec.upto fnExactWholeTextSpec)) fnExactWholeTextUptoCard

/-- THE SECOND FORM's CARD OF 'laws.FnExactMultiplyWholes'. -/
def fnExactMultiplyWholesUptoCard : Claim7 := { stood := { row := fnExactMultiplyWholesUptoRow, standIns := [], harness := (true, "89f1dcff0d879c5d79e29cac328e56334749f298cb58f723d1e87d29748d085e"), looks := false }, kinds := [], alts := [], laidByText := true, laidKinds := [.data], laidTests := true, laidLooks := .later }
def FnExactMultiplyWholesUptoCardSaid : Prop := Claim7.holds Tryd.pinned (.plain (OpenSpec.upto fnExactMultiplyWholesSpec)) fnExactMultiplyWholesUptoCard

/-- THE SECOND FORM's CARD OF 'laws.FnExactPowerOfWhole'. -/
def fnExactPowerOfWholeUptoCard : Claim7 := { stood := { row := fnExactPowerOfWholeUptoRow, standIns := [], harness := (true, "89f1dcff0d879c5d79e29cac328e56334749f298cb58f723d1e87d29748d085e"), looks := false }, kinds := [], alts := [], laidByText := true, laidKinds := [.data], laidTests := true, laidLooks := .later }
def FnExactPowerOfWholeUptoCardSaid : Prop := Claim7.holds Tryd.pinned (.plain (OpenSpec.upto fnExactPowerOfWholeSpec)) fnExactPowerOfWholeUptoCard

/-- THE SECOND FORM's CARD OF 'laws.FnExactAddWholes'. -/
def fnExactAddWholesUptoCard : Claim7 := { stood := { row := fnExactAddWholesUptoRow, standIns := [], harness := (true, "89f1dcff0d879c5d79e29cac328e56334749f298cb58f723d1e87d29748d085e"), looks := false }, kinds := [], alts := [], laidByText := true, laidKinds := [.data], laidTests := true, laidLooks := .later }
def FnExactAddWholesUptoCardSaid : Prop := Claim7.holds Tryd.pinned (.plain (OpenSpec.upto fnExactAddWholesSpec)) fnExactAddWholesUptoCard

/-- THE SECOND FORM's CARD OF 'laws.FnExactSubtractWholes'. -/
def fnExactSubtractWholesUptoCard : Claim7 := { stood := { row := fnExactSubtractWholesUptoRow, standIns := [], harness := (true, "89f1dcff0d879c5d79e29cac328e56334749f298cb58f723d1e87d29748d085e"), looks := false }, kinds := [], alts := [], laidByText := true, laidKinds := [.data], laidTests := true, laidLooks := .later }
def FnExactSubtractWholesUptoCardSaid : Prop := Claim7.holds Tryd.pinned (.plain (OpenSpec.upto fnExactSubtractWholesSpec)) fnExactSubtractWholesUptoCard

/-- THE SECOND FORM's CARD OF 'laws.FnExactDivideWholes'. -/
def fnExactDivideWholesUptoCard : Claim7 := { stood := { row := fnExactDivideWholesUptoRow, standIns := [], harness := (true, "89f1dcff0d879c5d79e29cac328e56334749f298cb58f723d1e87d29748d085e"), looks := false }, kinds := [], alts := [], laidByText := true, laidKinds := [.data], laidTests := true, laidLooks := .later }
def FnExactDivideWholesUptoCardSaid : Prop := Claim7.holds Tryd.pinned (.plain (OpenSpec.upto fnExactDivideWholesSpec)) fnExactDivideWholesUptoCard

/-- THE SECOND FORM's CARD OF 'laws.FnExactShiftWhole'. -/
def fnExactShiftWholeUptoCard : Claim7 := { stood := { row := fnExactShiftWholeUptoRow, standIns := [], harness := (true, "89f1dcff0d879c5d79e29cac328e56334749f298cb58f723d1e87d29748d085e"), looks := false }, kinds := [], alts := [], laidByText := true, laidKinds := [.data], laidTests := true, laidLooks := .later }
def FnExactShiftWholeUptoCardSaid : Prop := Claim7.holds Tryd.pinned (.plain (OpenSpec.upto fnExactShiftWholeSpec)) fnExactShiftWholeUptoCard

/-- THE SECOND FORM's CARD OF 'laws.FnExactRootOfWhole'. -/
def fnExactRootOfWholeUptoCard : Claim7 := { stood := { row := fnExactRootOfWholeUptoRow, standIns := [], harness := (true, "89f1dcff0d879c5d79e29cac328e56334749f298cb58f723d1e87d29748d085e"), looks := false }, kinds := [], alts := [], laidByText := true, laidKinds := [.data], laidTests := true, laidLooks := .later }
def FnExactRootOfWholeUptoCardSaid : Prop := Claim7.holds Tryd.pinned (.plain (OpenSpec.upto fnExactRootOfWholeSpec)) fnExactRootOfWholeUptoCard

/-- THE SECOND FORM's CARD OF 'laws.FnExactCommonOfWholes'. -/
def fnExactCommonOfWholesUptoCard : Claim7 := { stood := { row := fnExactCommonOfWholesUptoRow, standIns := [], harness := (true, "89f1dcff0d879c5d79e29cac328e56334749f298cb58f723d1e87d29748d085e"), looks := false }, kinds := [], alts := [], laidByText := true, laidKinds := [.data], laidTests := true, laidLooks := .later }
def FnExactCommonOfWholesUptoCardSaid : Prop := Claim7.holds Tryd.pinned (.plain (OpenSpec.upto fnExactCommonOfWholesSpec)) fnExactCommonOfWholesUptoCard

/-- THE SECOND FORM's CARD OF 'laws.FnWholeTexts'. -/
def fnWholeTextsUptoCard : Claim7 := { stood := { row := fnWholeTextsUptoRow, standIns := [], harness := (true, "89f1dcff0d879c5d79e29cac328e56334749f298cb58f723d1e87d29748d085e"), looks := false }, kinds := [], alts := [], laidByText := true, laidKinds := [.data], laidTests := true, laidLooks := .later }
def FnWholeTextsUptoCardSaid : Prop := Claim7.holds Tryd.pinned (.plain (OpenSpec.upto fnWholeTextsSpec)) fnWholeTextsUptoCard

/-- THE SECOND FORM's CARD OF 'laws.FnWholes'. -/
def fnWholesUptoCard : Claim7 := { stood := { row := fnWholesUptoRow, standIns := [], harness := (true, "89f1dcff0d879c5d79e29cac328e56334749f298cb58f723d1e87d29748d085e"), looks := false }, kinds := [], alts := [], laidByText := true, laidKinds := [.data], laidTests := true, laidLooks := .later }
def FnWholesUptoCardSaid : Prop := Claim7.holds Tryd.pinned (.plain (OpenSpec.upto fnWholesSpec)) fnWholesUptoCard

/-- THE SECOND FORM's CARD OF 'laws.FnWholeRoots'. -/
def fnWholeRootsUptoCard : Claim7 := { stood := { row := fnWholeRootsUptoRow, standIns := [], harness := (true, "89f1dcff0d879c5d79e29cac328e56334749f298cb58f723d1e87d29748d085e"), looks := false }, kinds := [], alts := [], laidByText := true, laidKinds := [.data], laidTests := true, laidLooks := .later }
def FnWholeRootsUptoCardSaid : Prop := Claim7.holds Tryd.pinned (.plain (OpenSpec.upto fnWholeRootsSpec)) fnWholeRootsUptoCard
end Rows
end Go.Proofs.YtbmjakaoniegfaaDoor
