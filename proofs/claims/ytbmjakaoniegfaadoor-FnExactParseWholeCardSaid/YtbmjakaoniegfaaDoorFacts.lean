/- Closed facts of the program's first words, by way of their signs. No conditions. Printed by wip/tools/facts.py. -/
import Derived.Test.YtbmjakaoniegfaaDoorRows
import Derived.JoinedOf
import Derived.WalkKit
import Derived.Handy
import Derived.SevenTiedAt
namespace Go.Proofs.YtbmjakaoniegfaaDoor
open Go Go.RowKit
set_option maxRecDepth 100000
def initSigns : List Char := ['h', 'a', 'r', 'n', 'e', 's', 's', ' ', '8', '9', 'f', '1', 'd', 'c', 'f', 'f', '0', 'd', '8', '7', '9', 'c', '5', 'd', '7', '9', 'e', '2', '9', 'c', 'a', 'c', '3', '2', '8', 'e', '5', '6', '3', '3', '4', '7', '4', '9', 'f', '2', '9', '8', 'c', 'b', '5', '8', 'f', '7', '2', '3', 'd', '1', 'e', '8', '7', 'd', '2', '9', '7', '4', '8', 'd', '0', '8', '5', 'e', ' ', 'c', 'u', 't', ' ', 'a', 't', ' ', 'l', 'o', 'o', 'p', '.', 'e', 'x', 'a', 'm', 'p', 'l', 'e', '/', 'g', '0', '1', '1', '5', '6', '/', 'l', 'a', 'w', 's', '.', 'F', 'n', 'E', 'x', 'a', 'c', 't', 'T', 'w', 'o', 's', 'I', 'n', ' ', 'l', 'o', 'o', 'p', '.', 'e', 'x', 'a', 'm', 'p', 'l', 'e', '/', 'g', '0', '1', '1', '5', '6', '/', 'l', 'a', 'w', 's', '.', 'F', 'n', 'E', 'x', 'a', 'c', 't', 'W', 'h', 'o', 'l', 'e', 'O', 'f', ' ', 'l', 'o', 'o', 'p', '.', 'e', 'x', 'a', 'm', 'p', 'l', 'e', '/', 'g', '0', '1', '1', '5', '6', '/', 'l', 'a', 'w', 's', '.', 'F', 'n', 'E', 'x', 'a', 'c', 't', 'P', 'a', 'r', 's', 'e', 'W', 'h', 'o', 'l', 'e', ' ', 'l', 'o', 'o', 'p', '.', 'e', 'x', 'a', 'm', 'p', 'l', 'e', '/', 'g', '0', '1', '1', '5', '6', '/', 'l', 'a', 'w', 's', '.', 'F', 'n', 'E', 'x', 'a', 'c', 't', 'W', 'h', 'o', 'l', 'e', 'T', 'e', 'x', 't', ' ', 'l', 'o', 'o', 'p', '.', 'e', 'x', 'a', 'm', 'p', 'l', 'e', '/', 'g', '0', '1', '1', '5', '6', '/', 'l', 'a', 'w', 's', '.', 'F', 'n', 'E', 'x', 'a', 'c', 't', 'M', 'u', 'l', 't', 'i', 'p', 'l', 'y', 'W', 'h', 'o', 'l', 'e', 's', ' ', 'l', 'o', 'o', 'p', '.', 'e', 'x', 'a', 'm', 'p', 'l', 'e', '/', 'g', '0', '1', '1', '5', '6', '/', 'l', 'a', 'w', 's', '.', 'F', 'n', 'E', 'x', 'a', 'c', 't', 'P', 'o', 'w', 'e', 'r', 'O', 'f', 'W', 'h', 'o', 'l', 'e', ' ', 'l', 'o', 'o', 'p', '.', 'e', 'x', 'a', 'm', 'p', 'l', 'e', '/', 'g', '0', '1', '1', '5', '6', '/', 'l', 'a', 'w', 's', '.', 'F', 'n', 'E', 'x', 'a', 'c', 't', 'A', 'd', 'd', 'W', 'h', 'o', 'l', 'e', 's', ' ', 'l', 'o', 'o', 'p', '.', 'e', 'x', 'a', 'm', 'p', 'l', 'e', '/', 'g', '0', '1', '1', '5', '6', '/', 'l', 'a', 'w', 's', '.', 'F', 'n', 'E', 'x', 'a', 'c', 't', 'S', 'u', 'b', 't', 'r', 'a', 'c', 't', 'W', 'h', 'o', 'l', 'e', 's', ' ', 'l', 'o', 'o', 'p', '.', 'e', 'x', 'a', 'm', 'p', 'l', 'e', '/', 'g', '0', '1', '1', '5', '6', '/', 'l', 'a', 'w', 's', '.', 'F', 'n', 'E', 'x', 'a', 'c', 't', 'D', 'i', 'v', 'i', 'd', 'e', 'W', 'h', 'o', 'l', 'e', 's', ' ', 'l', 'o', 'o', 'p', '.', 'e', 'x', 'a', 'm', 'p', 'l', 'e', '/', 'g', '0', '1', '1', '5', '6', '/', 'l', 'a', 'w', 's', '.', 'F', 'n', 'E', 'x', 'a', 'c', 't', 'S', 'h', 'i', 'f', 't', 'W', 'h', 'o', 'l', 'e', ' ', 'l', 'o', 'o', 'p', '.', 'e', 'x', 'a', 'm', 'p', 'l', 'e', '/', 'g', '0', '1', '1', '5', '6', '/', 'l', 'a', 'w', 's', '.', 'F', 'n', 'E', 'x', 'a', 'c', 't', 'R', 'o', 'o', 't', 'O', 'f', 'W', 'h', 'o', 'l', 'e', ' ', 'l', 'o', 'o', 'p', '.', 'e', 'x', 'a', 'm', 'p', 'l', 'e', '/', 'g', '0', '1', '1', '5', '6', '/', 'l', 'a', 'w', 's', '.', 'F', 'n', 'E', 'x', 'a', 'c', 't', 'C', 'o', 'm', 'm', 'o', 'n', 'O', 'f', 'W', 'h', 'o', 'l', 'e', 's', ' ', 'l', 'o', 'o', 'p', '.', 'e', 'x', 'a', 'm', 'p', 'l', 'e', '/', 'g', '0', '1', '1', '5', '6', '/', 'l', 'a', 'w', 's', '.', 'F', 'n', 'W', 'h', 'o', 'l', 'e', 'T', 'e', 'x', 't', 's', ' ', 'l', 'o', 'o', 'p', '.', 'e', 'x', 'a', 'm', 'p', 'l', 'e', '/', 'g', '0', '1', '1', '5', '6', '/', 'l', 'a', 'w', 's', '.', 'F', 'n', 'W', 'h', 'o', 'l', 'e', 's', ' ', 'l', 'o', 'o', 'p', '.', 'e', 'x', 'a', 'm', 'p', 'l', 'e', '/', 'g', '0', '1', '1', '5', '6', '/', 'l', 'a', 'w', 's', '.', 'F', 'n', 'W', 'h', 'o', 'l', 'e', 'R', 'o', 'o', 't', 's']
theorem initE : Tryd.prog.initOrder = String.ofList initSigns := by kernel_rfl
theorem initL : Tryd.prog.initOrder.toList = initSigns := by rw [initE]; exact String.toList_ofList
def initRest : List (List Char) := [['a', 't'], ['l', 'o', 'o', 'p', '.', 'e', 'x', 'a', 'm', 'p', 'l', 'e', '/', 'g', '0', '1', '1', '5', '6', '/', 'l', 'a', 'w', 's', '.', 'F', 'n', 'E', 'x', 'a', 'c', 't', 'T', 'w', 'o', 's', 'I', 'n'], ['l', 'o', 'o', 'p', '.', 'e', 'x', 'a', 'm', 'p', 'l', 'e', '/', 'g', '0', '1', '1', '5', '6', '/', 'l', 'a', 'w', 's', '.', 'F', 'n', 'E', 'x', 'a', 'c', 't', 'W', 'h', 'o', 'l', 'e', 'O', 'f'], ['l', 'o', 'o', 'p', '.', 'e', 'x', 'a', 'm', 'p', 'l', 'e', '/', 'g', '0', '1', '1', '5', '6', '/', 'l', 'a', 'w', 's', '.', 'F', 'n', 'E', 'x', 'a', 'c', 't', 'P', 'a', 'r', 's', 'e', 'W', 'h', 'o', 'l', 'e'], ['l', 'o', 'o', 'p', '.', 'e', 'x', 'a', 'm', 'p', 'l', 'e', '/', 'g', '0', '1', '1', '5', '6', '/', 'l', 'a', 'w', 's', '.', 'F', 'n', 'E', 'x', 'a', 'c', 't', 'W', 'h', 'o', 'l', 'e', 'T', 'e', 'x', 't'], ['l', 'o', 'o', 'p', '.', 'e', 'x', 'a', 'm', 'p', 'l', 'e', '/', 'g', '0', '1', '1', '5', '6', '/', 'l', 'a', 'w', 's', '.', 'F', 'n', 'E', 'x', 'a', 'c', 't', 'M', 'u', 'l', 't', 'i', 'p', 'l', 'y', 'W', 'h', 'o', 'l', 'e', 's'], ['l', 'o', 'o', 'p', '.', 'e', 'x', 'a', 'm', 'p', 'l', 'e', '/', 'g', '0', '1', '1', '5', '6', '/', 'l', 'a', 'w', 's', '.', 'F', 'n', 'E', 'x', 'a', 'c', 't', 'P', 'o', 'w', 'e', 'r', 'O', 'f', 'W', 'h', 'o', 'l', 'e'], ['l', 'o', 'o', 'p', '.', 'e', 'x', 'a', 'm', 'p', 'l', 'e', '/', 'g', '0', '1', '1', '5', '6', '/', 'l', 'a', 'w', 's', '.', 'F', 'n', 'E', 'x', 'a', 'c', 't', 'A', 'd', 'd', 'W', 'h', 'o', 'l', 'e', 's'], ['l', 'o', 'o', 'p', '.', 'e', 'x', 'a', 'm', 'p', 'l', 'e', '/', 'g', '0', '1', '1', '5', '6', '/', 'l', 'a', 'w', 's', '.', 'F', 'n', 'E', 'x', 'a', 'c', 't', 'S', 'u', 'b', 't', 'r', 'a', 'c', 't', 'W', 'h', 'o', 'l', 'e', 's'], ['l', 'o', 'o', 'p', '.', 'e', 'x', 'a', 'm', 'p', 'l', 'e', '/', 'g', '0', '1', '1', '5', '6', '/', 'l', 'a', 'w', 's', '.', 'F', 'n', 'E', 'x', 'a', 'c', 't', 'D', 'i', 'v', 'i', 'd', 'e', 'W', 'h', 'o', 'l', 'e', 's'], ['l', 'o', 'o', 'p', '.', 'e', 'x', 'a', 'm', 'p', 'l', 'e', '/', 'g', '0', '1', '1', '5', '6', '/', 'l', 'a', 'w', 's', '.', 'F', 'n', 'E', 'x', 'a', 'c', 't', 'S', 'h', 'i', 'f', 't', 'W', 'h', 'o', 'l', 'e'], ['l', 'o', 'o', 'p', '.', 'e', 'x', 'a', 'm', 'p', 'l', 'e', '/', 'g', '0', '1', '1', '5', '6', '/', 'l', 'a', 'w', 's', '.', 'F', 'n', 'E', 'x', 'a', 'c', 't', 'R', 'o', 'o', 't', 'O', 'f', 'W', 'h', 'o', 'l', 'e'], ['l', 'o', 'o', 'p', '.', 'e', 'x', 'a', 'm', 'p', 'l', 'e', '/', 'g', '0', '1', '1', '5', '6', '/', 'l', 'a', 'w', 's', '.', 'F', 'n', 'E', 'x', 'a', 'c', 't', 'C', 'o', 'm', 'm', 'o', 'n', 'O', 'f', 'W', 'h', 'o', 'l', 'e', 's'], ['l', 'o', 'o', 'p', '.', 'e', 'x', 'a', 'm', 'p', 'l', 'e', '/', 'g', '0', '1', '1', '5', '6', '/', 'l', 'a', 'w', 's', '.', 'F', 'n', 'W', 'h', 'o', 'l', 'e', 'T', 'e', 'x', 't', 's'], ['l', 'o', 'o', 'p', '.', 'e', 'x', 'a', 'm', 'p', 'l', 'e', '/', 'g', '0', '1', '1', '5', '6', '/', 'l', 'a', 'w', 's', '.', 'F', 'n', 'W', 'h', 'o', 'l', 'e', 's'], ['l', 'o', 'o', 'p', '.', 'e', 'x', 'a', 'm', 'p', 'l', 'e', '/', 'g', '0', '1', '1', '5', '6', '/', 'l', 'a', 'w', 's', '.', 'F', 'n', 'W', 'h', 'o', 'l', 'e', 'R', 'o', 'o', 't', 's']]
def initWords : List (List Char) := ['c', 'u', 't'] :: initRest
def initSum : List Char := ['8', '9', 'f', '1', 'd', 'c', 'f', 'f', '0', 'd', '8', '7', '9', 'c', '5', 'd', '7', '9', 'e', '2', '9', 'c', 'a', 'c', '3', '2', '8', 'e', '5', '6', '3', '3', '4', '7', '4', '9', 'f', '2', '9', '8', 'c', 'b', '5', '8', 'f', '7', '2', '3', 'd', '1', 'e', '8', '7', 'd', '2', '9', '7', '4', '8', 'd', '0', '8', '5', 'e']
def initAll : List (List Char) := ['h', 'a', 'r', 'n', 'e', 's', 's'] :: initSum :: initWords
theorem initV : wordsSigns initSigns = initAll := by kernel_rfl
theorem initVH : wordsSigns Tryd.prog.initOrder.toList = initAll := by rw [initL]; exact initV
theorem initW : behindMainWord initAll = initWords := by kernel_rfl
theorem initH : behindMainWord (wordsSigns Tryd.prog.initOrder.toList) = initWords := by rw [initVH]; exact initW
theorem make_gen (P : Program) (h : behindMainWord (wordsSigns P.initOrder.toList) = initWords) : P.make = some .cut := by
  unfold Program.make
  rw [h]
  kernel_rfl
theorem lifts_gen (P : Program) (h : behindMainWord (wordsSigns P.initOrder.toList) = initWords) : P.headLifts = [] := by
  unfold Program.headLifts
  rw [h]
  kernel_rfl
theorem final_gen (P : Program) (h : behindMainWord (wordsSigns P.initOrder.toList) = initWords) : P.liftsFinal = false := by
  unfold Program.liftsFinal
  rw [h, lifts_gen P h]
  kernel_rfl
theorem fMake : Tryd.prog.make = some .cut := make_gen _ initH
theorem fFinal : Tryd.prog.liftsFinal = false := final_gen _ initH
theorem fLater : Tryd.prog.laysLater = false := by kernel_rfl
theorem fReflect : Tryd.prog.bearsReflect = false := by kernel_rfl
theorem fDoor : Tryd.prog.doorFits [] = true := by kernel_rfl
theorem strip_words : stripLifts liftWords initWords = ([], initWords) := by kernel_rfl
theorem enter_gen (P : Program) (h : behindMainWord (wordsSigns P.initOrder.toList) = initWords) (h2 : P.laysLater = false) (h3 : P.bearsReflect = false) (h4 : P.doorFits [] = true) : P.mayEnter = true := by
  unfold Program.mayEnter
  rw [h]
  have hs := strip_words
  unfold initWords at hs ⊢
  dsimp only
  rw [hs, h2, h3, h4]
  rfl
theorem fEnter : Tryd.prog.mayEnter = true := enter_gen _ initH fLater fReflect fDoor
theorem sumList : initSum = "89f1dcff0d879c5d79e29cac328e56334749f298cb58f723d1e87d29748d085e".toList := by rw [show ("89f1dcff0d879c5d79e29cac328e56334749f298cb58f723d1e87d29748d085e" : String) = String.ofList initSum from by kernel_rfl, String.toList_ofList]
theorem main_gen (P : Program) (h : wordsSigns P.initOrder.toList = initAll) : P.mainIs = some (true, initSum) := by
  unfold Program.mainIs
  rw [h]
  kernel_rfl
theorem fMain : Tryd.pinned.checked.prog.mainIs = some (true, "89f1dcff0d879c5d79e29cac328e56334749f298cb58f723d1e87d29748d085e".toList) := (main_gen _ initVH).trans (by rw [sumList])
theorem fLooks : false = Tryd.pinned.checked.prog.looks [] := by kernel_rfl
theorem band {a b : Bool} (h1 : a = true) (h2 : b = true) : (a && b) = true := by rw [h1, h2]; rfl
theorem fFinalAt (c : OpenClaim) (h : c.lifted = false) : (c.lifted == Tryd.prog.liftsFinal) = true := by rw [h, fFinal]; rfl
theorem fMakeAt (c : OpenClaim) (h : c.make = .cut) : (Tryd.prog.make == some c.make) = true := by rw [h, fMake]; rfl
theorem fStops : (Tryd.prog.stops == []) = true := by kernel_rfl
theorem fKnobs : (Tryd.prog.stopKnobs == []) = true := by kernel_rfl
theorem fLaid : laidOutB Tryd.prog = true := by kernel_rfl
theorem fMaps : mapsRowed Tryd.prog = true := by kernel_rfl
end Go.Proofs.YtbmjakaoniegfaaDoor
