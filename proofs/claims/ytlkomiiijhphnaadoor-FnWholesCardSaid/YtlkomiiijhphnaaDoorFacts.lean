/- Closed facts of the program's first words, by way of their signs. No conditions. Printed by wip/tools/facts.py. -/
import Derived.Test.YtlkomiiijhphnaaDoorRows
import Derived.JoinedOf
import Derived.WalkKit
import Derived.Handy
import Derived.SevenTiedAt
namespace Go.Proofs.YtlkomiiijhphnaaDoor
open Go Go.RowKit
set_option maxRecDepth 100000
def initSigns : List Char := ['h', 'a', 'r', 'n', 'e', 's', 's', ' ', 'c', '5', 'a', 'b', '9', '5', 'd', '5', 'b', '7', '4', 'a', 'd', '0', '8', 'b', '8', 'a', '1', '4', 'e', '0', '5', 'f', 'e', 'c', '3', 'd', '4', '7', '8', '5', 'b', '0', '3', '7', 'd', 'b', '0', '7', 'c', '0', '2', 'e', 'e', '2', 'e', '1', '2', '8', 'a', '1', '0', '4', 'd', '3', 'b', '0', 'e', '6', '9', '3', '2', '4', ' ', 'c', 'u', 't', ' ', 'a', 't', ' ', 'l', 'o', 'o', 'p', '.', 'e', 'x', 'a', 'm', 'p', 'l', 'e', '/', 'g', '0', '1', '1', '5', '6', '/', 'l', 'a', 'w', 's', '.', 'F', 'n', 'W', 'h', 'o', 'l', 'e', 's', ' ', 'l', 'o', 'o', 'p', '.', 'e', 'x', 'a', 'm', 'p', 'l', 'e', '/', 'g', '0', '1', '1', '5', '6', '/', 'l', 'a', 'w', 's', '.', 'F', 'n', 'W', 'h', 'o', 'l', 'e', 'R', 'o', 'o', 't', 's']
theorem initE : Tryd.prog.initOrder = String.ofList initSigns := by kernel_rfl
theorem initL : Tryd.prog.initOrder.toList = initSigns := by rw [initE]; exact String.toList_ofList
def initRest : List (List Char) := [['a', 't'], ['l', 'o', 'o', 'p', '.', 'e', 'x', 'a', 'm', 'p', 'l', 'e', '/', 'g', '0', '1', '1', '5', '6', '/', 'l', 'a', 'w', 's', '.', 'F', 'n', 'W', 'h', 'o', 'l', 'e', 's'], ['l', 'o', 'o', 'p', '.', 'e', 'x', 'a', 'm', 'p', 'l', 'e', '/', 'g', '0', '1', '1', '5', '6', '/', 'l', 'a', 'w', 's', '.', 'F', 'n', 'W', 'h', 'o', 'l', 'e', 'R', 'o', 'o', 't', 's']]
def initWords : List (List Char) := ['c', 'u', 't'] :: initRest
def initSum : List Char := ['c', '5', 'a', 'b', '9', '5', 'd', '5', 'b', '7', '4', 'a', 'd', '0', '8', 'b', '8', 'a', '1', '4', 'e', '0', '5', 'f', 'e', 'c', '3', 'd', '4', '7', '8', '5', 'b', '0', '3', '7', 'd', 'b', '0', '7', 'c', '0', '2', 'e', 'e', '2', 'e', '1', '2', '8', 'a', '1', '0', '4', 'd', '3', 'b', '0', 'e', '6', '9', '3', '2', '4']
def initAll : List (List Char) := ['h', 'a', 'r', 'n', 'e', 's', 's'] :: initSum :: initWords
theorem initV : wordsSigns initSigns = initAll := by kernel_rfl
theorem initVH : wordsSigns Tryd.prog.initOrder.toList = initAll := by rw [initL]; exact initV
theorem initW : behindMainWord initAll = initWords := by kernel_rfl
theorem initH : behindMainWord (wordsSigns Tryd.prog.initOrder.toList) = initWords := by rw [initVH]; exact initW
theorem make_gen (P : Program) (h : behindMainWord (wordsSigns P.initOrder.toList) = initWords) : P.make = some .cut := by
 unfold Program.make
 rw [h]
 kernel_rfl
theorem lifts_gen (P : Program) (h : behindMainWord (wordsSigns P.initOrder.toList) = initWords) : P.headLifts = [] := by
 unfold Program.headLifts
 rw [h]
 kernel_rfl
theorem final_gen (P : Program) (h : behindMainWord (wordsSigns P.initOrder.toList) = initWords) : P.liftsFinal = false := by
 unfold Program.liftsFinal
 rw [h, lifts_gen P h]
 kernel_rfl
theorem fMake : Tryd.prog.make = some .cut := make_gen _ initH
theorem fFinal : Tryd.prog.liftsFinal = false := final_gen _ initH
theorem fLater : Tryd.prog.laysLater = false := by kernel_rfl
theorem fReflect : Tryd.prog.bearsReflect = false := by kernel_rfl
theorem fDoor : Tryd.prog.doorFits [] = true := by kernel_rfl
theorem strip_words : stripLifts liftWords initWords = ([], initWords) := by kernel_rfl
theorem enter_gen (P : Program) (h : behindMainWord (wordsSigns P.initOrder.toList) = initWords) (h2 : P.laysLater = false) (h3 : P.bearsReflect = false) (h4 : P.doorFits [] = true) : P.mayEnter = true := by
 unfold Program.mayEnter
 rw [h]
 have hs := strip_words
 unfold initWords at hs ⊢
 dsimp only
 rw [hs, h2, h3, h4]
 rfl
theorem fEnter : Tryd.prog.mayEnter = true := enter_gen _ initH fLater fReflect fDoor
theorem sumList : initSum = "c5ab95d5b74ad08b8a14e05fec3d4785b037db07c02ee2e128a104d3b0e69324".toList := by rw [show ("c5ab95d5b74ad08b8a14e05fec3d4785b037db07c02ee2e128a104d3b0e69324" : String) = String.ofList initSum from by kernel_rfl, String.toList_ofList]
theorem main_gen (P : Program) (h : wordsSigns P.initOrder.toList = initAll) : P.mainIs = some (true, initSum) := by
 unfold Program.mainIs
 rw [h]
 kernel_rfl
theorem fMain : Tryd.pinned.checked.prog.mainIs = some (true, "c5ab95d5b74ad08b8a14e05fec3d4785b037db07c02ee2e128a104d3b0e69324".toList) := (main_gen _ initVH).trans (by rw [sumList])
theorem fLooks : false = Tryd.pinned.checked.prog.looks [] := by kernel_rfl
theorem band {a b : Bool} (h1 : a = true) (h2 : b = true) : (a && b) = true := by rw [h1, h2]; rfl
theorem fFinalAt (c : OpenClaim) (h : c.lifted = false) : (c.lifted == Tryd.prog.liftsFinal) = true := by rw [h, fFinal]; rfl
theorem fMakeAt (c : OpenClaim) (h : c.make = .cut) : (Tryd.prog.make == some c.make) = true := by rw [h, fMake]; rfl
theorem fStops : (Tryd.prog.stops == []) = true := by kernel_rfl
theorem fKnobs : (Tryd.prog.stopKnobs == []) = true := by kernel_rfl
theorem fLaid : laidOutB Tryd.prog = true := by kernel_rfl
theorem fMaps : mapsRowed Tryd.prog = true := by kernel_rfl
end Go.Proofs.YtlkomiiijhphnaaDoor
