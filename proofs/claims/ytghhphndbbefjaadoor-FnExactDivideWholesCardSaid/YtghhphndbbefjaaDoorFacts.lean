/- Closed facts of the program's first words, by way of their signs. No conditions. Printed by wip/tools/facts.py. -/
import Derived.Test.YtghhphndbbefjaaDoorRows
import Derived.JoinedOf
import Derived.WalkKit
import Derived.Handy
import Derived.SevenTiedAt
namespace Go.Proofs.YtghhphndbbefjaaDoor
open Go Go.RowKit
set_option maxRecDepth 100000
def initSigns : List Char := ['h', 'a', 'r', 'n', 'e', 's', 's', ' ', '0', '8', 'd', 'b', '3', '1', 'd', '8', 'f', '4', 'd', '0', 'b', 'f', '7', '5', '7', '7', '4', '6', '2', '6', '1', '9', '9', '2', '6', 'b', '9', 'b', '8', 'c', '4', 'a', '7', 'a', '6', '1', '3', '5', '1', '0', '7', 'f', '6', 'b', '2', 'f', '0', '4', '8', 'b', '7', 'a', '0', '1', '1', 'a', 'a', 'e', 'c', '2', 'e', '4', ' ', 'c', 'u', 't', ' ', 'a', 't', ' ', 'l', 'o', 'o', 'p', '.', 'e', 'x', 'a', 'm', 'p', 'l', 'e', '/', 'g', '0', '1', '1', '5', '6', '/', 'l', 'a', 'w', 's', '.', 'F', 'n', 'E', 'x', 'a', 'c', 't', 'D', 'i', 'v', 'i', 'd', 'e', 'W', 'h', 'o', 'l', 'e', 's', ' ', 'l', 'o', 'o', 'p', '.', 'e', 'x', 'a', 'm', 'p', 'l', 'e', '/', 'g', '0', '1', '1', '5', '6', '/', 'l', 'a', 'w', 's', '.', 'F', 'n', 'E', 'x', 'a', 'c', 't', 'W', 'h', 'o', 'l', 'e', 'T', 'e', 'x', 't', ' ', 'l', 'o', 'o', 'p', '.', 'e', 'x', 'a', 'm', 'p', 'l', 'e', '/', 'g', '0', '1', '1', '5', '6', '/', 'l', 'a', 'w', 's', '.', 'F', 'n', 'E', 'x', 'a', 'c', 't', 'R', 'o', 'o', 't', 'O', 'f', 'W', 'h', 'o', 'l', 'e', ' ', 'l', 'o', 'o', 'p', '.', 'e', 'x', 'a', 'm', 'p', 'l', 'e', '/', 'g', '0', '1', '1', '5', '6', '/', 'l', 'a', 'w', 's', '.', 'F', 'n', 'E', 'x', 'a', 'c', 't', 'C', 'o', 'm', 'm', 'o', 'n', 'O', 'f', 'W', 'h', 'o', 'l', 'e', 's', ' ', 'l', 'o', 'o', 'p', '.', 'e', 'x', 'a', 'm', 'p', 'l', 'e', '/', 'g', '0', '1', '1', '5', '6', '/', 'l', 'a', 'w', 's', '.', 'F', 'n', 'E', 'x', 'a', 'c', 't', 'A', 'd', 'd', 'E', 'x', 'a', 'c', 't', 's', ' ', 'l', 'o', 'o', 'p', '.', 'e', 'x', 'a', 'm', 'p', 'l', 'e', '/', 'g', '0', '1', '1', '5', '6', '/', 'l', 'a', 'w', 's', '.', 'F', 'n', 'E', 'x', 'a', 'c', 't', 'S', 'q', 'u', 'a', 'r', 'e', 'O', 'f', 'E', 'x', 'a', 'c', 't', ' ', 'l', 'o', 'o', 'p', '.', 'e', 'x', 'a', 'm', 'p', 'l', 'e', '/', 'g', '0', '1', '1', '5', '6', '/', 'l', 'a', 'w', 's', '.', 'F', 'n', 'E', 'x', 'a', 'c', 't', 'M', 'u', 'l', 't', 'i', 'p', 'l', 'y', 'E', 'x', 'a', 'c', 't', 's', ' ', 'l', 'o', 'o', 'p', '.', 'e', 'x', 'a', 'm', 'p', 'l', 'e', '/', 'g', '0', '1', '1', '5', '6', '/', 'l', 'a', 'w', 's', '.', 'F', 'n', 'E', 'x', 'a', 'c', 't', 'R', 'o', 'o', 't', 'A', 'b', 'o', 'v', 'e']
theorem initE : Tryd.prog.initOrder = String.ofList initSigns := by kernel_rfl
theorem initL : Tryd.prog.initOrder.toList = initSigns := by rw [initE]; exact String.toList_ofList
def initRest : List (List Char) := [['a', 't'], ['l', 'o', 'o', 'p', '.', 'e', 'x', 'a', 'm', 'p', 'l', 'e', '/', 'g', '0', '1', '1', '5', '6', '/', 'l', 'a', 'w', 's', '.', 'F', 'n', 'E', 'x', 'a', 'c', 't', 'D', 'i', 'v', 'i', 'd', 'e', 'W', 'h', 'o', 'l', 'e', 's'], ['l', 'o', 'o', 'p', '.', 'e', 'x', 'a', 'm', 'p', 'l', 'e', '/', 'g', '0', '1', '1', '5', '6', '/', 'l', 'a', 'w', 's', '.', 'F', 'n', 'E', 'x', 'a', 'c', 't', 'W', 'h', 'o', 'l', 'e', 'T', 'e', 'x', 't'], ['l', 'o', 'o', 'p', '.', 'e', 'x', 'a', 'm', 'p', 'l', 'e', '/', 'g', '0', '1', '1', '5', '6', '/', 'l', 'a', 'w', 's', '.', 'F', 'n', 'E', 'x', 'a', 'c', 't', 'R', 'o', 'o', 't', 'O', 'f', 'W', 'h', 'o', 'l', 'e'], ['l', 'o', 'o', 'p', '.', 'e', 'x', 'a', 'm', 'p', 'l', 'e', '/', 'g', '0', '1', '1', '5', '6', '/', 'l', 'a', 'w', 's', '.', 'F', 'n', 'E', 'x', 'a', 'c', 't', 'C', 'o', 'm', 'm', 'o', 'n', 'O', 'f', 'W', 'h', 'o', 'l', 'e', 's'], ['l', 'o', 'o', 'p', '.', 'e', 'x', 'a', 'm', 'p', 'l', 'e', '/', 'g', '0', '1', '1', '5', '6', '/', 'l', 'a', 'w', 's', '.', 'F', 'n', 'E', 'x', 'a', 'c', 't', 'A', 'd', 'd', 'E', 'x', 'a', 'c', 't', 's'], ['l', 'o', 'o', 'p', '.', 'e', 'x', 'a', 'm', 'p', 'l', 'e', '/', 'g', '0', '1', '1', '5', '6', '/', 'l', 'a', 'w', 's', '.', 'F', 'n', 'E', 'x', 'a', 'c', 't', 'S', 'q', 'u', 'a', 'r', 'e', 'O', 'f', 'E', 'x', 'a', 'c', 't'], ['l', 'o', 'o', 'p', '.', 'e', 'x', 'a', 'm', 'p', 'l', 'e', '/', 'g', '0', '1', '1', '5', '6', '/', 'l', 'a', 'w', 's', '.', 'F', 'n', 'E', 'x', 'a', 'c', 't', 'M', 'u', 'l', 't', 'i', 'p', 'l', 'y', 'E', 'x', 'a', 'c', 't', 's'], ['l', 'o', 'o', 'p', '.', 'e', 'x', 'a', 'm', 'p', 'l', 'e', '/', 'g', '0', '1', '1', '5', '6', '/', 'l', 'a', 'w', 's', '.', 'F', 'n', 'E', 'x', 'a', 'c', 't', 'R', 'o', 'o', 't', 'A', 'b', 'o', 'v', 'e']]
def initWords : List (List Char) := ['c', 'u', 't'] :: initRest
def initSum : List Char := ['0', '8', 'd', 'b', '3', '1', 'd', '8', 'f', '4', 'd', '0', 'b', 'f', '7', '5', '7', '7', '4', '6', '2', '6', '1', '9', '9', '2', '6', 'b', '9', 'b', '8', 'c', '4', 'a', '7', 'a', '6', '1', '3', '5', '1', '0', '7', 'f', '6', 'b', '2', 'f', '0', '4', '8', 'b', '7', 'a', '0', '1', '1', 'a', 'a', 'e', 'c', '2', 'e', '4']
def initAll : List (List Char) := ['h', 'a', 'r', 'n', 'e', 's', 's'] :: initSum :: initWords
theorem initV : wordsSigns initSigns = initAll := by kernel_rfl
theorem initVH : wordsSigns Tryd.prog.initOrder.toList = initAll := by rw [initL]; exact initV
theorem initW : behindMainWord initAll = initWords := by kernel_rfl
theorem initH : behindMainWord (wordsSigns Tryd.prog.initOrder.toList) = initWords := by rw [initVH]; exact initW
theorem make_gen (P : Program) (h : behindMainWord (wordsSigns P.initOrder.toList) = initWords) : P.make = some .cut := by
 unfold Program.make
 rw [h]
 kernel_rfl
theorem lifts_gen (P : Program) (h : behindMainWord (wordsSigns P.initOrder.toList) = initWords) : P.headLifts = [] := by
 unfold Program.headLifts
 rw [h]
 kernel_rfl
theorem final_gen (P : Program) (h : behindMainWord (wordsSigns P.initOrder.toList) = initWords) : P.liftsFinal = false := by
 unfold Program.liftsFinal
 rw [h, lifts_gen P h]
 kernel_rfl
theorem fMake : Tryd.prog.make = some .cut := make_gen _ initH
theorem fFinal : Tryd.prog.liftsFinal = false := final_gen _ initH
theorem fLater : Tryd.prog.laysLater = false := by kernel_rfl
theorem fReflect : Tryd.prog.bearsReflect = false := by kernel_rfl
theorem fDoor : Tryd.prog.doorFits [] = true := by kernel_rfl
theorem strip_words : stripLifts liftWords initWords = ([], initWords) := by kernel_rfl
theorem enter_gen (P : Program) (h : behindMainWord (wordsSigns P.initOrder.toList) = initWords) (h2 : P.laysLater = false) (h3 : P.bearsReflect = false) (h4 : P.doorFits [] = true) : P.mayEnter = true := by
 unfold Program.mayEnter
 rw [h]
 have hs := strip_words
 unfold initWords at hs ⊢
 dsimp only
 rw [hs, h2, h3, h4]
 rfl
theorem fEnter : Tryd.prog.mayEnter = true := enter_gen _ initH fLater fReflect fDoor
theorem sumList : initSum = "08db31d8f4d0bf7577462619926b9b8c4a7a6135107f6b2f048b7a011aaec2e4".toList := by rw [show ("08db31d8f4d0bf7577462619926b9b8c4a7a6135107f6b2f048b7a011aaec2e4" : String) = String.ofList initSum from by kernel_rfl, String.toList_ofList]
theorem main_gen (P : Program) (h : wordsSigns P.initOrder.toList = initAll) : P.mainIs = some (true, initSum) := by
 unfold Program.mainIs
 rw [h]
 kernel_rfl
theorem fMain : Tryd.pinned.checked.prog.mainIs = some (true, "08db31d8f4d0bf7577462619926b9b8c4a7a6135107f6b2f048b7a011aaec2e4".toList) := (main_gen _ initVH).trans (by rw [sumList])
theorem fLooks : false = Tryd.pinned.checked.prog.looks [] := by kernel_rfl
theorem band {a b : Bool} (h1 : a = true) (h2 : b = true) : (a && b) = true := by rw [h1, h2]; rfl
theorem fFinalAt (c : OpenClaim) (h : c.lifted = false) : (c.lifted == Tryd.prog.liftsFinal) = true := by rw [h, fFinal]; rfl
theorem fMakeAt (c : OpenClaim) (h : c.make = .cut) : (Tryd.prog.make == some c.make) = true := by rw [h, fMake]; rfl
theorem fStops : (Tryd.prog.stops == []) = true := by kernel_rfl
theorem fKnobs : (Tryd.prog.stopKnobs == []) = true := by kernel_rfl
theorem fLaid : laidOutB Tryd.prog = true := by kernel_rfl
theorem fMaps : mapsRowed Tryd.prog = true := by kernel_rfl
end Go.Proofs.YtghhphndbbefjaaDoor
