/- The library's table of trailing zeros, as the row's condition lays it. No conditions of ours. -/
import Derived.Test.YtlkomiiijhphnaaDoorRows
import Derived.Test.YtlkomiiijhphnaaDoorBigE
import Derived.Lib.LaidTab
import Derived.SevenTiedAt
import Derived.Handy
import Derived.Lay
import Derived.ProofKit
import Derived.MakeChecks
import Derived.OpenShut
import Derived.ChangeOld
import Derived.SizedLaws
import Derived.ShutString
namespace Go.Proofs.YtlkomiiijhphnaaDoor.TabRow
open Go.ChangeShapes Go.WideShapes Go.ChangeAt Go.RowKit
set_option linter.unusedVariables false
set_option linter.unusedSimpArgs false
theorem tab_of_laid {W : World} (h : laidMetH Tryd.prog [("math/bits.deBruijn32tab", Rows.laid_math_bits_deBruijn32tab)] W) : Big.Tab W := by
 rw [MakeChecks.laidMetH_plain _ _ _ (by kernel_rfl)] at h
 have hg : Tryd.prog.globalNamed "math/bits.deBruijn32tab" = some Shelf.tabNo := by kernel_rfl
 have hT := Lib.tabIs_of_head (zs := Lib.deBruijn32tab.map Int.ofNat) (k := .u8) hg (by kernel_rfl) Tryd.underlying96 Tryd.underlying5 (by kernel_rfl) (by kernel_rfl) h
 intro j hj
 have := hT.cell hg j (by simpa using hj)
 rw [this]
 congr 2
 simp [List.getD_eq_getElem?_getD, hj]
end Go.Proofs.YtlkomiiijhphnaaDoor.TabRow
