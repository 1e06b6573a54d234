/-
  DERIVED. GIVEN WITH THE SEED: THE CARDS: each row of YtdbdhgimokaooaaDoorRows.lean that lists a variable, with what it lists TIED to the program's text (the seventh form; the later family's looks); each row that meets fmt, with fmt's text TOLD by the authors' own Lean function (tested against real Go, not proved from fmt's source: count such statements apart). THE CARD IS WHAT COUNTS. Prove the row's statement (the work); the ties are given (YtdbdhgimokaooaaDoorTie.lean); close each card by the builder's one call (the guide's Derived/Test/ToyasCard.lean, 'card_holds'). Laid BY PROGRAM, IN A SANDBOX (cutbox-door.mjs). By AI agents, Wed Nov 11 2026. No macro, syntax, notation, axiom, sorry.
-/
import Derived.Test.YtdbdhgimokaooaaDoorRows
import GoSem.ClaimSeven
namespace Go.Proofs.YtdbdhgimokaooaaDoor
namespace Rows

/-- THE TIED CARD OF 'laws.FnExactMakeDyadic'. -/
def fnExactMakeDyadicCard : Claim7 := { stood := { row := fnExactMakeDyadicRow, standIns := [], harness := (true, "9a5faad9309fdec6fe40f14603cb8bad08ad7a2a12b39a8a2051d6d496d86628"), looks := false }, kinds := [], alts := [], laidByText := true, laidKinds := [.data], laidTests := true, laidLooks := .later }
def FnExactMakeDyadicCardSaid : Prop := Claim7.holds Tryd.pinned (.plain (OpenSpec.ofChange fnExactMakeDyadicSpec)) fnExactMakeDyadicCard

/-- THE TIED CARD OF 'laws.FnExactCompareDyadics'. -/
def fnExactCompareDyadicsCard : Claim7 := { stood := { row := fnExactCompareDyadicsRow, standIns := [], harness := (true, "9a5faad9309fdec6fe40f14603cb8bad08ad7a2a12b39a8a2051d6d496d86628"), looks := false }, kinds := [], alts := [], laidByText := true, laidKinds := [.data], laidTests := true, laidLooks := .later }
def FnExactCompareDyadicsCardSaid : Prop := Claim7.holds Tryd.pinned (.plain (OpenSpec.ofChange fnExactCompareDyadicsSpec)) fnExactCompareDyadicsCard

/-- THE TIED CARD OF 'laws.FnExactDyadicOf'. -/
def fnExactDyadicOfCard : Claim7 := { stood := { row := fnExactDyadicOfRow, standIns := [], harness := (true, "9a5faad9309fdec6fe40f14603cb8bad08ad7a2a12b39a8a2051d6d496d86628"), looks := false }, kinds := [], alts := [], laidByText := true, laidKinds := [.data], laidTests := true, laidLooks := .later }
def FnExactDyadicOfCardSaid : Prop := Claim7.holds Tryd.pinned (.plain (OpenSpec.ofChange fnExactDyadicOfSpec)) fnExactDyadicOfCard

/-- THE TIED CARD OF 'laws.FnExactMultiplyDyadics'. -/
def fnExactMultiplyDyadicsCard : Claim7 := { stood := { row := fnExactMultiplyDyadicsRow, standIns := [], harness := (true, "9a5faad9309fdec6fe40f14603cb8bad08ad7a2a12b39a8a2051d6d496d86628"), looks := false }, kinds := [], alts := [], laidByText := true, laidKinds := [.data], laidTests := true, laidLooks := .later }
def FnExactMultiplyDyadicsCardSaid : Prop := Claim7.holds Tryd.pinned (.plain (OpenSpec.ofChange fnExactMultiplyDyadicsSpec)) fnExactMultiplyDyadicsCard

/-- THE TIED CARD OF 'laws.FnExactDyadicOfNarrow'. -/
def fnExactDyadicOfNarrowCard : Claim7 := { stood := { row := fnExactDyadicOfNarrowRow, standIns := [], harness := (true, "9a5faad9309fdec6fe40f14603cb8bad08ad7a2a12b39a8a2051d6d496d86628"), looks := false }, kinds := [], alts := [], laidByText := true, laidKinds := [.data], laidTests := true, laidLooks := .later }
def FnExactDyadicOfNarrowCardSaid : Prop := Claim7.holds Tryd.pinned (.plain (OpenSpec.ofChange fnExactDyadicOfNarrowSpec)) fnExactDyadicOfNarrowCard

/-- THE TIED CARD OF 'laws.FnExactSubtractDyadics'. -/
def fnExactSubtractDyadicsCard : Claim7 := { stood := { row := fnExactSubtractDyadicsRow, standIns := [], harness := (true, "9a5faad9309fdec6fe40f14603cb8bad08ad7a2a12b39a8a2051d6d496d86628"), looks := false }, kinds := [], alts := [], laidByText := true, laidKinds := [.data], laidTests := true, laidLooks := .later }
def FnExactSubtractDyadicsCardSaid : Prop := Claim7.holds Tryd.pinned (.plain (OpenSpec.ofChange fnExactSubtractDyadicsSpec)) fnExactSubtractDyadicsCard

/-- THE TIED CARD OF 'laws.FnExactCeilDyadic'. -/
def fnExactCeilDyadicCard : Claim7 := { stood := { row := fnExactCeilDyadicRow, standIns := [], harness := (true, "9a5faad9309fdec6fe40f14603cb8bad08ad7a2a12b39a8a2051d6d496d86628"), looks := false }, kinds := [], alts := [], laidByText := true, laidKinds := [.data], laidTests := true, laidLooks := .later }
def FnExactCeilDyadicCardSaid : Prop := Claim7.holds Tryd.pinned (.plain (OpenSpec.ofChange fnExactCeilDyadicSpec)) fnExactCeilDyadicCard

/-- THE SECOND FORM's CARD OF 'laws.FnExactMakeDyadic'. -/
def fnExactMakeDyadicUptoCard : Claim7 := { stood := { row := fnExactMakeDyadicUptoRow, standIns := [], harness := (true, "9a5faad9309fdec6fe40f14603cb8bad08ad7a2a12b39a8a2051d6d496d86628"), looks := false }, kinds := [], alts := [], laidByText := true, laidKinds := [.data], laidTests := true, laidLooks := .later }
def FnExactMakeDyadicUptoCardSaid : Prop := Claim7.holds Tryd.pinned (.plain (OpenSpec.upto fnExactMakeDyadicSpec)) fnExactMakeDyadicUptoCard

/-- THE SECOND FORM's CARD OF 'laws.FnExactCompareDyadics'. -/
def fnExactCompareDyadicsUptoCard : Claim7 := { stood := { row := fnExactCompareDyadicsUptoRow, standIns := [], harness := (true, "9a5faad9309fdec6fe40f14603cb8bad08ad7a2a12b39a8a2051d6d496d86628"), looks := false }, kinds := [], alts := [], laidByText := true, laidKinds := [.data], laidTests := true, laidLooks := .later }
def FnExactCompareDyadicsUptoCardSaid : Prop := Claim7.holds Tryd.pinned (.plain (OpenSpec.upto fnExactCompareDyadicsSpec)) fnExactCompareDyadicsUptoCard

/-- THE SECOND FORM's CARD OF 'laws.FnExactDyadicOf'. -/
def fnExactDyadicOfUptoCard : Claim7 := { stood := { row := fnExactDyadicOfUptoRow, standIns := [], harness := (true, "9a5faad9309fdec6fe40f14603cb8bad08ad7a2a12b39a8a2051d6d496d86628"), looks := false }, kinds := [], alts := [], laidByText := true, laidKinds := [.data], laidTests := true, laidLooks := .later }
def FnExactDyadicOfUptoCardSaid : Prop := Claim7.holds Tryd.pinned (.plain (OpenSpec.upto fnExactDyadicOfSpec)) fnExactDyadicOfUptoCard

/-- THE SECOND FORM's CARD OF 'laws.FnExactMultiplyDyadics'. -/
def fnExactMultiplyDyadicsUptoCard : Claim7 := { stood := { row := fnExactMultiplyDyadicsUptoRow, standIns := [], harness := (true, "9a5faad9309fdec6fe40f14603cb8bad08ad7a2a12b39a8a2051d6d496d86628"), looks := false }, kinds := [], alts := [], laidByText := true, laidKinds := [.data], laidTests := true, laidLooks := .later }
def FnExactMultiplyDyadicsUptoCardSaid : Prop := Claim7.holds Tryd.pinned (.plain (OpenSpec.upto fnExactMultiplyDyadicsSpec)) fnExactMultiplyDyadicsUptoCard

/-- THE SECOND FORM's CARD OF 'laws.FnExactDyadicOfNarrow'. -/
def fnExactDyadicOfNarrowUptoCard : Claim7 := { stood := { row := fnExactDyadicOfNarrowUptoRow, standIns := [], harness := (true, "9a5faad9309fdec6fe40f14603cb8bad08ad7a2a12b39a8a2051d6d496d86628"), looks := false }, kinds := [], alts := [], laidByText := true, laidKinds := [.data], laidTests := true, laidLooks := .later }
def FnExactDyadicOfNarrowUptoCardSaid : Prop := Claim7.holds Tryd.pinned (.plain (OpenSpec.upto fnExactDyadicOfNarrowSpec)) fnExactDyadicOfNarrowUptoCard

/-- THE SECOND FORM's CARD OF 'laws.FnExactSubtractDyadics'. -/
def fnExactSubtractDyadicsUptoCard : Claim7 := { stood := { row := fnExactSubtractDyadicsUptoRow, standIns := [], harness := (true, "9a5faad9309fdec6fe40f14603cb8bad08ad7a2a12b39a8a2051d6d496d86628"), looks := false }, kinds := [], alts := [], laidByText := true, laidKinds := [.data], laidTests := true, laidLooks := .later }
def FnExactSubtractDyadicsUptoCardSaid : Prop := Claim7.holds Tryd.pinned (.plain (OpenSpec.upto fnExactSubtractDyadicsSpec)) fnExactSubtractDyadicsUptoCard

/-- THE SECOND FORM's CARD OF 'laws.FnExactCeilDyadic'. -/
def fnExactCeilDyadicUptoCard : Claim7 := { stood := { row := fnExactCeilDyadicUptoRow, standIns := [], harness := (true, "9a5faad9309fdec6fe40f14603cb8bad08ad7a2a12b39a8a2051d6d496d86628"), looks := false }, kinds := [], alts := [], laidByText := true, laidKinds := [.data], laidTests := true, laidLooks := .later }
def FnExactCeilDyadicUptoCardSaid : Prop := Claim7.holds Tryd.pinned (.plain (OpenSpec.upto fnExactCeilDyadicSpec)) fnExactCeilDyadicUptoCard
end Rows
end Go.Proofs.YtdbdhgimokaooaaDoor
