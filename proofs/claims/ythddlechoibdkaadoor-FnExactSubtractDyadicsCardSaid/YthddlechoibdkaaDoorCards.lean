/-
  DERIVED. GIVEN WITH THE SEED: THE CARDS: each row of YthddlechoibdkaaDoorRows.lean that lists a variable, with what it lists TIED to the program's text (the seventh form; the later family's looks); each row that meets fmt, with fmt's text TOLD by the authors' own Lean function (tested against real Go, not proved from fmt's source: count such statements apart). THE CARD IS WHAT COUNTS. Prove the row's statement (the work); the ties are given (YthddlechoibdkaaDoorTie.lean); close each card by the builder's one call (the guide's Derived/Test/ToyasCard.lean, 'card_holds'). Laid BY PROGRAM, IN A SANDBOX (cutbox-door.mjs). By AI agents, Wed Nov 11 2026. No macro, syntax, notation, axiom, sorry.
-/
import Derived.Test.YthddlechoibdkaaDoorRows
import GoSem.ClaimSeven
namespace Go.Proofs.YthddlechoibdkaaDoor
namespace Rows

/-- THE TIED CARD OF 'laws.FnExactAddDyadics'. -/
def fnExactAddDyadicsCard : Claim7 := { stood := { row := fnExactAddDyadicsRow, standIns := [], harness := (true, "7f1dc1e436240ab8f9e42155b5ed0877094d34a0c467229526f03be687d2f6f5"), looks := false }, kinds := [], alts := [], laidByText := true, laidKinds := [.data], laidTests := true, laidLooks := .later }
def FnExactAddDyadicsCardSaid : Prop := Claim7.holds Tryd.pinned (.plain (OpenSpec.ofChange fnExactAddDyadicsSpec)) fnExactAddDyadicsCard

/-- THE TIED CARD OF 'laws.FnExactCeilDyadic'. -/
def fnExactCeilDyadicCard : Claim7 := { stood := { row := fnExactCeilDyadicRow, standIns := [], harness := (true, "7f1dc1e436240ab8f9e42155b5ed0877094d34a0c467229526f03be687d2f6f5"), looks := false }, kinds := [], alts := [], laidByText := true, laidKinds := [.data], laidTests := true, laidLooks := .later }
def FnExactCeilDyadicCardSaid : Prop := Claim7.holds Tryd.pinned (.plain (OpenSpec.ofChange fnExactCeilDyadicSpec)) fnExactCeilDyadicCard

/-- THE TIED CARD OF 'laws.FnExactCompareDyadics'. -/
def fnExactCompareDyadicsCard : Claim7 := { stood := { row := fnExactCompareDyadicsRow, standIns := [], harness := (true, "7f1dc1e436240ab8f9e42155b5ed0877094d34a0c467229526f03be687d2f6f5"), looks := false }, kinds := [], alts := [], laidByText := true, laidKinds := [.data], laidTests := true, laidLooks := .later }
def FnExactCompareDyadicsCardSaid : Prop := Claim7.holds Tryd.pinned (.plain (OpenSpec.ofChange fnExactCompareDyadicsSpec)) fnExactCompareDyadicsCard

/-- THE TIED CARD OF 'laws.FnExactFloorDyadic'. -/
def fnExactFloorDyadicCard : Claim7 := { stood := { row := fnExactFloorDyadicRow, standIns := [], harness := (true, "7f1dc1e436240ab8f9e42155b5ed0877094d34a0c467229526f03be687d2f6f5"), looks := false }, kinds := [], alts := [], laidByText := true, laidKinds := [.data], laidTests := true, laidLooks := .later }
def FnExactFloorDyadicCardSaid : Prop := Claim7.holds Tryd.pinned (.plain (OpenSpec.ofChange fnExactFloorDyadicSpec)) fnExactFloorDyadicCard

/-- THE TIED CARD OF 'laws.FnExactMakeDyadic'. -/
def fnExactMakeDyadicCard : Claim7 := { stood := { row := fnExactMakeDyadicRow, standIns := [], harness := (true, "7f1dc1e436240ab8f9e42155b5ed0877094d34a0c467229526f03be687d2f6f5"), looks := false }, kinds := [], alts := [], laidByText := true, laidKinds := [.data], laidTests := true, laidLooks := .later }
def FnExactMakeDyadicCardSaid : Prop := Claim7.holds Tryd.pinned (.plain (OpenSpec.ofChange fnExactMakeDyadicSpec)) fnExactMakeDyadicCard

/-- THE TIED CARD OF 'laws.FnExactMultiplyDyadics'. -/
def fnExactMultiplyDyadicsCard : Claim7 := { stood := { row := fnExactMultiplyDyadicsRow, standIns := [], harness := (true, "7f1dc1e436240ab8f9e42155b5ed0877094d34a0c467229526f03be687d2f6f5"), looks := false }, kinds := [], alts := [], laidByText := true, laidKinds := [.data], laidTests := true, laidLooks := .later }
def FnExactMultiplyDyadicsCardSaid : Prop := Claim7.holds Tryd.pinned (.plain (OpenSpec.ofChange fnExactMultiplyDyadicsSpec)) fnExactMultiplyDyadicsCard

/-- THE TIED CARD OF 'laws.FnExactScaleDyadic'. -/
def fnExactScaleDyadicCard : Claim7 := { stood := { row := fnExactScaleDyadicRow, standIns := [], harness := (true, "7f1dc1e436240ab8f9e42155b5ed0877094d34a0c467229526f03be687d2f6f5"), looks := false }, kinds := [], alts := [], laidByText := true, laidKinds := [.data], laidTests := true, laidLooks := .later }
def FnExactScaleDyadicCardSaid : Prop := Claim7.holds Tryd.pinned (.plain (OpenSpec.ofChange fnExactScaleDyadicSpec)) fnExactScaleDyadicCard

/-- THE TIED CARD OF 'laws.FnExactSubtractDyadics'. -/
def fnExactSubtractDyadicsCard : Claim7 := { stood := { row := fnExactSubtractDyadicsRow, standIns := [], harness := (true, "7f1dc1e436240ab8f9e42155b5ed0877094d34a0c467229526f03be687d2f6f5"), looks := false }, kinds := [], alts := [], laidByText := true, laidKinds := [.data], laidTests := true, laidLooks := .later }
def FnExactSubtractDyadicsCardSaid : Prop := Claim7.holds Tryd.pinned (.plain (OpenSpec.ofChange fnExactSubtractDyadicsSpec)) fnExactSubtractDyadicsCard

/-- THE SECOND FORM's CARD OF 'laws.FnExactAddDyadics'. -/
def fnExactAddDyadicsUptoCard : Claim7 := { stood := { row := fnExactAddDyadicsUptoRow, standIns := [], harness := (true, "7f1dc1e436240ab8f9e42155b5ed0877094d34a0c467229526f03be687d2f6f5"), looks := false }, kinds := [], alts := [], laidByText := true, laidKinds := [.data], laidTests := true, laidLooks := .later }
def FnExactAddDyadicsUptoCardSaid : Prop := Claim7.holds Tryd.pinned (.plain (OpenSpec.upto fnExactAddDyadicsSpec)) fnExactAddDyadicsUptoCard

/-- THE SECOND FORM's CARD OF 'laws.FnExactCeilDyadic'. -/
def fnExactCeilDyadicUptoCard : Claim7 := { stood := { row := fnExactCeilDyadicUptoRow, standIns := [], harness := (true, "7f1dc1e436240ab8f9e42155b5ed0877094d34a0c467229526f03be687d2f6f5"), looks := false }, kinds := [], alts := [], laidByText := true, laidKinds := [.data], laidTests := true, laidLooks := .later }
def FnExactCeilDyadicUptoCardSaid : Prop := Claim7.holds Tryd.pinned (.plain (OpenSpec.upto fnExactCeilDyadicSpec)) fnExactCeilDyadicUptoCard

/-- THE SECOND FORM's CARD OF 'laws.FnExactCompareDyadics'. -/
def fnExactCompareDyadicsUptoCard : Claim7 := { stood := { row := fnExactCompareDyadicsUptoRow, standIns := [], harness := (true, "7f1dc1e436240ab8f9e42155b5ed0877094d34a0c467229526f03be687d2f6f5"), looks := false }, kinds := [], alts := [], laidByText := true, laidKinds := [.data], laidTests := true, laidLooks := .later }
def FnExactCompareDyadicsUptoCardSaid : Prop := Claim7.holds Tryd.pinned (.plain (OpenSpec.upto fnExactCompareDyadicsSpec)) fnExactCompareDyadicsUptoCard

/-- THE SECOND FORM's CARD OF 'laws.FnExactFloorDyadic'. -/
def fnExactFloorDyadicUptoCard : Claim7 := { stood := { row := fnExactFloorDyadicUptoRow, standIns := [], harness := (true, "7f1dc1e436240ab8f9e42155b5ed0877094d34a0c467229526f03be687d2f6f5"), looks := false }, kinds := [], alts := [], laidByText := true, laidKinds := [.data], laidTests := true, laidLooks := .later }
def FnExactFloorDyadicUptoCardSaid : Prop := Claim7.holds Tryd.pinned (.plain (OpenSpec.upto fnExactFloorDyadicSpec)) fnExactFloorDyadicUptoCard

/-- THE SECOND FORM's CARD OF 'laws.FnExactMakeDyadic'. -/
def fnExactMakeDyadicUptoCard : Claim7 := { stood := { row := fnExactMakeDyadicUptoRow, standIns := [], harness := (true, "7f1dc1e436240ab8f9e42155b5ed0877094d34a0c467229526f03be687d2f6f5"), looks := false }, kinds := [], alts := [], laidByText := true, laidKinds := [.data], laidTests := true, laidLooks := .later }
def FnExactMakeDyadicUptoCardSaid : Prop := Claim7.holds Tryd.pinned (.plain (OpenSpec.upto fnExactMakeDyadicSpec)) fnExactMakeDyadicUptoCard

/-- THE SECOND FORM's CARD OF 'laws.FnExactMultiplyDyadics'. -/
def fnExactMultiplyDyadicsUptoCard : Claim7 := { stood := { row := fnExactMultiplyDyadicsUptoRow, standIns := [], harness := (true, "7f1dc1e436240ab8f9e42155b5ed0877094d34a0c467229526f03be687d2f6f5"), looks := false }, kinds := [], alts := [], laidByText := true, laidKinds := [.data], laidTests := true, laidLooks := .later }
def FnExactMultiplyDyadicsUptoCardSaid : Prop := Claim7.holds Tryd.pinned (.plain (OpenSpec.upto fnExactMultiplyDyadicsSpec)) fnExactMultiplyDyadicsUptoCard

/-- THE SECOND FORM's CARD OF 'laws.FnExactScaleDyadic'. -/
def fnExactScaleDyadicUptoCard : Claim7 := { stood := { row := fnExactScaleDyadicUptoRow, standIns := [], harness := (true, "7f1dc1e436240ab8f9e42155b5ed0877094d34a0c467229526f03be687d2f6f5"), looks := false }, kinds := [], alts := [], laidByText := true, laidKinds := [.data], laidTests := true, laidLooks := .later }
def FnExactScaleDyadicUptoCardSaid : Prop := Claim7.holds Tryd.pinned (.plain (OpenSpec.upto fnExactScaleDyadicSpec)) fnExactScaleDyadicUptoCard

/-- THE SECOND FORM's CARD OF 'laws.FnExactSubtractDyadics'. -/
def fnExactSubtractDyadicsUptoCard : Claim7 := { stood := { row := fnExactSubtractDyadicsUptoRow, standIns := [], harness := (true, "7f1dc1e436240ab8f9e42155b5ed0877094d34a0c467229526f03be687d2f6f5"), looks := false }, kinds := [], alts := [], laidByText := true, laidKinds := [.data], laidTests := true, laidLooks := .later }
def FnExactSubtractDyadicsUptoCardSaid : Prop := Claim7.holds Tryd.pinned (.plain (OpenSpec.upto fnExactSubtractDyadicsSpec)) fnExactSubtractDyadicsUptoCard
end Rows
end Go.Proofs.YthddlechoibdkaaDoor
