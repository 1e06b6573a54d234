/- Closed facts of the program's first words, by way of their signs. No conditions. Printed by wip/tools/facts.py. -/
import Derived.Test.YtdbdhgimokaooaaDoorRows
import Derived.JoinedOf
import Derived.WalkKit
import Derived.Handy
import Derived.SevenTiedAt
namespace Go.Proofs.YtdbdhgimokaooaaDoor
open Go Go.RowKit
set_option maxRecDepth 100000
def initSigns : List Char := ['h', 'a', 'r', 'n', 'e', 's', 's', ' ', '9', 'a', '5', 'f', 'a', 'a', 'd', '9', '3', '0', '9', 'f', 'd', 'e', 'c', '6', 'f', 'e', '4', '0', 'f', '1', '4', '6', '0', '3', 'c', 'b', '8', 'b', 'a', 'd', '0', '8', 'a', 'd', '7', 'a', '2', 'a', '1', '2', 'b', '3', '9', 'a', '8', 'a', '2', '0', '5', '1', 'd', '6', 'd', '4', '9', '6', 'd', '8', '6', '6', '2', '8', ' ', 'c', 'u', 't', ' ', 'a', 't', ' ', 'l', 'o', 'o', 'p', '.', 'e', 'x', 'a', 'm', 'p', 'l', 'e', '/', 'g', '0', '1', '1', '5', '6', '/', 'l', 'a', 'w', 's', '.', 'F', 'n', 'E', 'x', 'a', 'c', 't', 'M', 'a', 'k', 'e', 'D', 'y', 'a', 'd', 'i', 'c', ' ', 'l', 'o', 'o', 'p', '.', 'e', 'x', 'a', 'm', 'p', 'l', 'e', '/', 'g', '0', '1', '1', '5', '6', '/', 'l', 'a', 'w', 's', '.', 'F', 'n', 'E', 'x', 'a', 'c', 't', 'C', 'o', 'm', 'p', 'a', 'r', 'e', 'D', 'y', 'a', 'd', 'i', 'c', 's', ' ', 'l', 'o', 'o', 'p', '.', 'e', 'x', 'a', 'm', 'p', 'l', 'e', '/', 'g', '0', '1', '1', '5', '6', '/', 'l', 'a', 'w', 's', '.', 'F', 'n', 'E', 'x', 'a', 'c', 't', 'D', 'y', 'a', 'd', 'i', 'c', 'O', 'f', ' ', 'l', 'o', 'o', 'p', '.', 'e', 'x', 'a', 'm', 'p', 'l', 'e', '/', 'g', '0', '1', '1', '5', '6', '/', 'l', 'a', 'w', 's', '.', 'F', 'n', 'E', 'x', 'a', 'c', 't', 'M', 'u', 'l', 't', 'i', 'p', 'l', 'y', 'D', 'y', 'a', 'd', 'i', 'c', 's', ' ', 'l', 'o', 'o', 'p', '.', 'e', 'x', 'a', 'm', 'p', 'l', 'e', '/', 'g', '0', '1', '1', '5', '6', '/', 'l', 'a', 'w', 's', '.', 'F', 'n', 'E', 'x', 'a', 'c', 't', 'D', 'y', 'a', 'd', 'i', 'c', 'O', 'f', 'N', 'a', 'r', 'r', 'o', 'w', ' ', 'l', 'o', 'o', 'p', '.', 'e', 'x', 'a', 'm', 'p', 'l', 'e', '/', 'g', '0', '1', '1', '5', '6', '/', 'l', 'a', 'w', 's', '.', 'F', 'n', 'E', 'x', 'a', 'c', 't', 'S', 'u', 'b', 't', 'r', 'a', 'c', 't', 'D', 'y', 'a', 'd', 'i', 'c', 's', ' ', 'l', 'o', 'o', 'p', '.', 'e', 'x', 'a', 'm', 'p', 'l', 'e', '/', 'g', '0', '1', '1', '5', '6', '/', 'l', 'a', 'w', 's', '.', 'F', 'n', 'E', 'x', 'a', 'c', 't', 'C', 'e', 'i', 'l', 'D', 'y', 'a', 'd', 'i', 'c']
theorem initE : Tryd.prog.initOrder = String.ofList initSigns := by kernel_rfl
theorem initL : Tryd.prog.initOrder.toList = initSigns := by rw [initE]; exact String.toList_ofList
def initRest : List (List Char) := [['a', 't'], ['l', 'o', 'o', 'p', '.', 'e', 'x', 'a', 'm', 'p', 'l', 'e', '/', 'g', '0', '1', '1', '5', '6', '/', 'l', 'a', 'w', 's', '.', 'F', 'n', 'E', 'x', 'a', 'c', 't', 'M', 'a', 'k', 'e', 'D', 'y', 'a', 'd', 'i', 'c'], ['l', 'o', 'o', 'p', '.', 'e', 'x', 'a', 'm', 'p', 'l', 'e', '/', 'g', '0', '1', '1', '5', '6', '/', 'l', 'a', 'w', 's', '.', 'F', 'n', 'E', 'x', 'a', 'c', 't', 'C', 'o', 'm', 'p', 'a', 'r', 'e', 'D', 'y', 'a', 'd', 'i', 'c', 's'], ['l', 'o', 'o', 'p', '.', 'e', 'x', 'a', 'm', 'p', 'l', 'e', '/', 'g', '0', '1', '1', '5', '6', '/', 'l', 'a', 'w', 's', '.', 'F', 'n', 'E', 'x', 'a', 'c', 't', 'D', 'y', 'a', 'd', 'i', 'c', 'O', 'f'], ['l', 'o', 'o', 'p', '.', 'e', 'x', 'a', 'm', 'p', 'l', 'e', '/', 'g', '0', '1', '1', '5', '6', '/', 'l', 'a', 'w', 's', '.', 'F', 'n', 'E', 'x', 'a', 'c', 't', 'M', 'u', 'l', 't', 'i', 'p', 'l', 'y', 'D', 'y', 'a', 'd', 'i', 'c', 's'], ['l', 'o', 'o', 'p', '.', 'e', 'x', 'a', 'm', 'p', 'l', 'e', '/', 'g', '0', '1', '1', '5', '6', '/', 'l', 'a', 'w', 's', '.', 'F', 'n', 'E', 'x', 'a', 'c', 't', 'D', 'y', 'a', 'd', 'i', 'c', 'O', 'f', 'N', 'a', 'r', 'r', 'o', 'w'], ['l', 'o', 'o', 'p', '.', 'e', 'x', 'a', 'm', 'p', 'l', 'e', '/', 'g', '0', '1', '1', '5', '6', '/', 'l', 'a', 'w', 's', '.', 'F', 'n', 'E', 'x', 'a', 'c', 't', 'S', 'u', 'b', 't', 'r', 'a', 'c', 't', 'D', 'y', 'a', 'd', 'i', 'c', 's'], ['l', 'o', 'o', 'p', '.', 'e', 'x', 'a', 'm', 'p', 'l', 'e', '/', 'g', '0', '1', '1', '5', '6', '/', 'l', 'a', 'w', 's', '.', 'F', 'n', 'E', 'x', 'a', 'c', 't', 'C', 'e', 'i', 'l', 'D', 'y', 'a', 'd', 'i', 'c']]
def initWords : List (List Char) := ['c', 'u', 't'] :: initRest
def initSum : List Char := ['9', 'a', '5', 'f', 'a', 'a', 'd', '9', '3', '0', '9', 'f', 'd', 'e', 'c', '6', 'f', 'e', '4', '0', 'f', '1', '4', '6', '0', '3', 'c', 'b', '8', 'b', 'a', 'd', '0', '8', 'a', 'd', '7', 'a', '2', 'a', '1', '2', 'b', '3', '9', 'a', '8', 'a', '2', '0', '5', '1', 'd', '6', 'd', '4', '9', '6', 'd', '8', '6', '6', '2', '8']
def initAll : List (List Char) := ['h', 'a', 'r', 'n', 'e', 's', 's'] :: initSum :: initWords
theorem initV : wordsSigns initSigns = initAll := by kernel_rfl
theorem initVH : wordsSigns Tryd.prog.initOrder.toList = initAll := by rw [initL]; exact initV
theorem initW : behindMainWord initAll = initWords := by kernel_rfl
theorem initH : behindMainWord (wordsSigns Tryd.prog.initOrder.toList) = initWords := by rw [initVH]; exact initW
theorem make_gen (P : Program) (h : behindMainWord (wordsSigns P.initOrder.toList) = initWords) : P.make = some .cut := by
 unfold Program.make
 rw [h]
 kernel_rfl
theorem lifts_gen (P : Program) (h : behindMainWord (wordsSigns P.initOrder.toList) = initWords) : P.headLifts = [] := by
 unfold Program.headLifts
 rw [h]
 kernel_rfl
theorem final_gen (P : Program) (h : behindMainWord (wordsSigns P.initOrder.toList) = initWords) : P.liftsFinal = false := by
 unfold Program.liftsFinal
 rw [h, lifts_gen P h]
 kernel_rfl
theorem fMake : Tryd.prog.make = some .cut := make_gen _ initH
theorem fFinal : Tryd.prog.liftsFinal = false := final_gen _ initH
theorem fLater : Tryd.prog.laysLater = false := by kernel_rfl
theorem fReflect : Tryd.prog.bearsReflect = false := by kernel_rfl
theorem fDoor : Tryd.prog.doorFits [] = true := by kernel_rfl
theorem strip_words : stripLifts liftWords initWords = ([], initWords) := by kernel_rfl
theorem enter_gen (P : Program) (h : behindMainWord (wordsSigns P.initOrder.toList) = initWords) (h2 : P.laysLater = false) (h3 : P.bearsReflect = false) (h4 : P.doorFits [] = true) : P.mayEnter = true := by
 unfold Program.mayEnter
 rw [h]
 have hs := strip_words
 unfold initWords at hs ⊢
 dsimp only
 rw [hs, h2, h3, h4]
 rfl
theorem fEnter : Tryd.prog.mayEnter = true := enter_gen _ initH fLater fReflect fDoor
theorem sumList : initSum = "9a5faad9309fdec6fe40f14603cb8bad08ad7a2a12b39a8a2051d6d496d86628".toList := by rw [show ("9a5faad9309fdec6fe40f14603cb8bad08ad7a2a12b39a8a2051d6d496d86628" : String) = String.ofList initSum from by kernel_rfl, String.toList_ofList]
theorem main_gen (P : Program) (h : wordsSigns P.initOrder.toList = initAll) : P.mainIs = some (true, initSum) := by
 unfold Program.mainIs
 rw [h]
 kernel_rfl
theorem fMain : Tryd.pinned.checked.prog.mainIs = some (true, "9a5faad9309fdec6fe40f14603cb8bad08ad7a2a12b39a8a2051d6d496d86628".toList) := (main_gen _ initVH).trans (by rw [sumList])
theorem fLooks : false = Tryd.pinned.checked.prog.looks [] := by kernel_rfl
theorem band {a b : Bool} (h1 : a = true) (h2 : b = true) : (a && b) = true := by rw [h1, h2]; rfl
theorem fFinalAt (c : OpenClaim) (h : c.lifted = false) : (c.lifted == Tryd.prog.liftsFinal) = true := by rw [h, fFinal]; rfl
theorem fMakeAt (c : OpenClaim) (h : c.make = .cut) : (Tryd.prog.make == some c.make) = true := by rw [h, fMake]; rfl
theorem fStops : (Tryd.prog.stops == []) = true := by kernel_rfl
theorem fKnobs : (Tryd.prog.stopKnobs == []) = true := by kernel_rfl
theorem fLaid : laidOutB Tryd.prog = true := by kernel_rfl
theorem fMaps : mapsRowed Tryd.prog = true := by kernel_rfl
end Go.Proofs.YtdbdhgimokaooaaDoor
