/- Functions of the program as plain Lean functions, each with a proof that its call does what that function says. Printed by a program over the kit's print; conditions stand in each contract. -/
import Derived.Test.YtghhphndbbefjaaDoorG10
import Derived.Test.YtghhphndbbefjaaDoorG15
namespace Go.Proofs.YtghhphndbbefjaaDoor.X
open Go.RowKit Go.Proofs.YtghhphndbbefjaaDoorW.PrintWords Go.Proofs.YtghhphndbbefjaaDoorW.PrintLast Go.Proofs.YtghhphndbbefjaaDoorW.PrintMore Go.Proofs.YtghhphndbbefjaaDoor.Sq
attribute [local go_sem] max2_int min2_int max_two min_two max_three min_three max_four min_four   -- for this text's walks alone
set_option linter.unusedVariables false
set_option linter.unusedSimpArgs false
mutual
def spec_l02DivMod.l0 : Nat → Int → List Int → List Int → Int → Int → List Int → Int → List Int → Option (Int × List Int × Int × List Int)
  | 0, _, _, _, _, _, _, _, _ => none
  | k + 1, x6, x7, x8, x9, x132000, x132001, x133000, x133001 => if x9 ≥ 0 then ((spec_l02Bit.f x132000 x132001 x9).bind fun t150 => (spec_l02DivMod.l1 k x6 x7 x8 x9 t150 0 x132000 x132001 x133000 x133001)) else ((spec_l02Make.f k (wrap64 (x132000 * x133000)) x8).bind fun bt142 => ((spec_l02Make.f k x132000 x7).bind fun bt146 => (some (bt142.1, bt142.2, bt146.1, bt146.2))))
def spec_l02DivMod.l1 : Nat → Int → List Int → List Int → Int → Int → Int → Int → List Int → Int → List Int → Option (Int × List Int × Int × List Int)
  | 0, _, _, _, _, _, _, _, _, _, _ => none
  | k + 1, x6, x7, x8, x9, x10, x11, x132000, x132001, x133000, x133001 => if x11 ≤ x6 then (if 0 ≤ x11 then (if x11 < (x7.length : Int) then (spec_l02DivMod.l1 k x6 (x7.set (x11 : Int).toNat (Int.tmod (wrap64 ((wrap64 (2 * (rd x7 x11))) + x10)) 16777216)) x8 x9 (wrap64 (Int.tdiv (wrap64 ((wrap64 (2 * (rd x7 x11))) + x10)) 16777216)) (wrap64 (x11 + 1)) x132000 x132001 x133000 x133001) else (none)) else (none)) else (if 0 ≤ x6 then (if x6 < (x7.length : Int) then (spec_l02DivMod.l2 k x6 x7 x8 x9 ((rd x7 x6) == 0) (wrap64 (x6 - 1)) x132000 x132001 x133000 x133001) else (none)) else (none))
def spec_l02DivMod.j4 : Nat → Int → List Int → List Int → Int → Bool → Int → List Int → Int → List Int → Option (Int × List Int × Int × List Int)
  | 0, _, _, _, _, _, _, _, _, _ => none
  | k + 1, x6, x7, x8, x9, x13, x132000, x132001, x133000, x133001 => if x13 = true then (spec_l02DivMod.l0 k x6 x7 x8 (wrap64 (x9 - 1)) x132000 x132001 x133000 x133001) else (spec_l02DivMod.l3 k x6 x7 x8 x9 0 0 x132000 x132001 x133000 x133001)
def spec_l02DivMod.l3 : Nat → Int → List Int → List Int → Int → Int → Int → Int → List Int → Int → List Int → Option (Int × List Int × Int × List Int)
  | 0, _, _, _, _, _, _, _, _, _, _ => none
  | k + 1, x6, x7, x8, x9, x15, x16, x132000, x132001, x133000, x133001 => if x16 ≤ x6 then (if 0 ≤ x16 then (if x16 < (x7.length : Int) then (if x16 < x6 then (if x16 < (x133001.length : Int) then (if (wrap64 ((wrap64 ((rd x7 x16) - x15)) - (rd x133001 x16))) < 0 then (spec_l02DivMod.l3 k x6 (x7.set (x16 : Int).toNat (wrap64 ((wrap64 ((wrap64 ((rd x7 x16) - x15)) - (rd x133001 x16))) + 16777216))) x8 x9 1 (wrap64 (x16 + 1)) x132000 x132001 x133000 x133001) else (spec_l02DivMod.l3 k x6 (x7.set (x16 : Int).toNat (wrap64 ((wrap64 ((rd x7 x16) - x15)) - (rd x133001 x16)))) x8 x9 0 (wrap64 (x16 + 1)) x132000 x132001 x133000 x133001)) else (none)) else (if (wrap64 ((rd x7 x16) - x15)) < 0 then (spec_l02DivMod.l3 k x6 (x7.set (x16 : Int).toNat (wrap64 ((wrap64 ((rd x7 x16) - x15)) + 16777216))) x8 x9 1 (wrap64 (x16 + 1)) x132000 x132001 x133000 x133001) else (spec_l02DivMod.l3 k x6 (x7.set (x16 : Int).toNat (wrap64 ((rd x7 x16) - x15))) x8 x9 0 (wrap64 (x16 + 1)) x132000 x132001 x133000 x133001))) else (none)) else (none)) else (if 0 ≤ (wrap64 (Int.tdiv x9 24)) then (if (wrap64 (Int.tdiv x9 24)) < (x8.length : Int) then (if 0 ≤ (IntKind.u64.wrap (Int.tmod x9 24)) then (spec_l02DivMod.l0 k x6 x7 (x8.set ((wrap64 (Int.tdiv x9 24)) : Int).toNat (wrap64 ((rd x8 (wrap64 (Int.tdiv x9 24))) + (shl .i64 1 (IntKind.u64.wrap (Int.tmod x9 24)))))) (wrap64 (x9 - 1)) x132000 x132001 x133000 x133001) else (none)) else (none)) else (none))
def spec_l02DivMod.l2 : Nat → Int → List Int → List Int → Int → Bool → Int → Int → List Int → Int → List Int → Option (Int × List Int × Int × List Int)
  | 0, _, _, _, _, _, _, _, _, _, _ => none
  | k + 1, x6, x7, x8, x9, x13, x14, x132000, x132001, x133000, x133001 => if x14 ≥ 0 then (spec_l02DivMod.j3 k x6 x7 x8 x9 x13 x14 x13 x132000 x132001 x133000 x133001) else (spec_l02DivMod.j3 k x6 x7 x8 x9 x13 x14 false x132000 x132001 x133000 x133001)
def spec_l02DivMod.j3 : Nat → Int → List Int → List Int → Int → Bool → Int → Bool → Int → List Int → Int → List Int → Option (Int × List Int × Int × List Int)
  | 0, _, _, _, _, _, _, _, _, _, _, _ => none
  | k + 1, x6, x7, x8, x9, x13, x14, x68, x132000, x132001, x133000, x133001 => if x68 = true then (if 0 ≤ x14 then (if x14 < (x7.length : Int) then (if x14 < (x133001.length : Int) then (if (rd x7 x14) = (rd x133001 x14) then (if x14 = 0 then (spec_l02DivMod.l2 k x6 x7 x8 x9 false (wrap64 (x14 - 1)) x132000 x132001 x133000 x133001) else (spec_l02DivMod.l2 k x6 x7 x8 x9 x13 (wrap64 (x14 - 1)) x132000 x132001 x133000 x133001)) else (spec_l02DivMod.j4 k x6 x7 x8 x9 (decide ((rd x7 x14) < (rd x133001 x14))) x132000 x132001 x133000 x133001)) else (none)) else (none)) else (none)) else (spec_l02DivMod.j4 k x6 x7 x8 x9 x13 x132000 x132001 x133000 x133001)
end
def spec_l02DivMod.f (k : Nat) (a0_0 : Int) (l0_1 : List Int) (a1_0 : Int) (l1_1 : List Int) : Option (Int × List Int × Int × List Int) := if 0 ≤ (wrap64 ((l1_1.length : Int) + 1)) then (if (wrap64 ((l1_1.length : Int) + 1) : Int).toNat ≤ 35184372088832 then (if 0 ≤ (l0_1.length : Int) then (if ((l0_1.length : Int) : Int).toNat ≤ 35184372088832 then ((spec_l02Length.f k a0_0 l0_1).bind fun t141 => (spec_l02DivMod.l0 k (l1_1.length : Int) (List.replicate (wrap64 ((l1_1.length : Int) + 1) : Int).toNat 0) (List.replicate ((l0_1.length : Int) : Int).toNat 0) (wrap64 (t141 - 1)) a0_0 l0_1 a1_0 l1_1)) else (none)) else (none)) else (none)) else (none)
theorem spec_l02DivMod.mono_l : ∀ k, (∀ y0 y1 y2 y3 y4 y5 y6 y7, LeO (spec_l02DivMod.l0 k y0 y1 y2 y3 y4 y5 y6 y7) (spec_l02DivMod.l0 (k + 1) y0 y1 y2 y3 y4 y5 y6 y7)) ∧ (∀ y0 y1 y2 y3 y4 y5 y6 y7 y8 y9, LeO (spec_l02DivMod.l1 k y0 y1 y2 y3 y4 y5 y6 y7 y8 y9) (spec_l02DivMod.l1 (k + 1) y0 y1 y2 y3 y4 y5 y6 y7 y8 y9)) ∧ (∀ y0 y1 y2 y3 y4 y5 y6 y7 y8, LeO (spec_l02DivMod.j4 k y0 y1 y2 y3 y4 y5 y6 y7 y8) (spec_l02DivMod.j4 (k + 1) y0 y1 y2 y3 y4 y5 y6 y7 y8)) ∧ (∀ y0 y1 y2 y3 y4 y5 y6 y7 y8 y9, LeO (spec_l02DivMod.l3 k y0 y1 y2 y3 y4 y5 y6 y7 y8 y9) (spec_l02DivMod.l3 (k + 1) y0 y1 y2 y3 y4 y5 y6 y7 y8 y9)) ∧ (∀ y0 y1 y2 y3 y4 y5 y6 y7 y8 y9, LeO (spec_l02DivMod.l2 k y0 y1 y2 y3 y4 y5 y6 y7 y8 y9) (spec_l02DivMod.l2 (k + 1) y0 y1 y2 y3 y4 y5 y6 y7 y8 y9)) ∧ (∀ y0 y1 y2 y3 y4 y5 y6 y7 y8 y9 y10, LeO (spec_l02DivMod.j3 k y0 y1 y2 y3 y4 y5 y6 y7 y8 y9 y10) (spec_l02DivMod.j3 (k + 1) y0 y1 y2 y3 y4 y5 y6 y7 y8 y9 y10))
  | 0 => ⟨fun _ _ _ _ _ _ _ _ r h => by simp [spec_l02DivMod.l0] at h, fun _ _ _ _ _ _ _ _ _ _ r h => by simp [spec_l02DivMod.l1] at h, fun _ _ _ _ _ _ _ _ _ r h => by simp [spec_l02DivMod.j4] at h, fun _ _ _ _ _ _ _ _ _ _ r h => by simp [spec_l02DivMod.l3] at h, fun _ _ _ _ _ _ _ _ _ _ r h => by simp [spec_l02DivMod.l2] at h, fun _ _ _ _ _ _ _ _ _ _ _ r h => by simp [spec_l02DivMod.j3] at h⟩
  | k + 1 => by
    obtain ⟨ih0, ih1, ih2, ih3, ih4, ih5⟩ := spec_l02DivMod.mono_l k
    refine ⟨?_, ?_, ?_, ?_, ?_, ?_⟩
    · intro y0 y1 y2 y3 y4 y5 y6 y7
      unfold spec_l02DivMod.l0
      repeat' first
      | (with_reducible exact ih0 _ _ _ _ _ _ _ _)
      | (with_reducible exact ih1 _ _ _ _ _ _ _ _ _ _)
      | (with_reducible exact ih2 _ _ _ _ _ _ _ _ _)
      | (with_reducible exact ih3 _ _ _ _ _ _ _ _ _ _)
      | (with_reducible exact ih4 _ _ _ _ _ _ _ _ _ _)
      | (with_reducible exact ih5 _ _ _ _ _ _ _ _ _ _ _)
      | (with_reducible exact spec_l02Length.mono _ _ _)
      | (with_reducible exact spec_l02Make.mono _ _ _)
      | (with_reducible exact LeO.refl _)
      | (with_reducible exact LeO.none _)
      | (with_reducible refine LeO.ite ?_ ?_)
      | (with_reducible refine LeO.bind ?_ (fun _ => ?_))
      | exact ih0 _ _ _ _ _ _ _ _
      | exact ih1 _ _ _ _ _ _ _ _ _ _
      | exact ih2 _ _ _ _ _ _ _ _ _
      | exact ih3 _ _ _ _ _ _ _ _ _ _
      | exact ih4 _ _ _ _ _ _ _ _ _ _
      | exact ih5 _ _ _ _ _ _ _ _ _ _ _
      | exact spec_l02Length.mono _ _ _
      | exact spec_l02Make.mono _ _ _
      | exact LeO.none _
      | refine LeO.ite ?_ ?_
      | refine LeO.bind ?_ (fun _ => ?_)
    · intro y0 y1 y2 y3 y4 y5 y6 y7 y8 y9
      unfold spec_l02DivMod.l1
      repeat' first
      | (with_reducible exact ih0 _ _ _ _ _ _ _ _)
      | (with_reducible exact ih1 _ _ _ _ _ _ _ _ _ _)
      | (with_reducible exact ih2 _ _ _ _ _ _ _ _ _)
      | (with_reducible exact ih3 _ _ _ _ _ _ _ _ _ _)
      | (with_reducible exact ih4 _ _ _ _ _ _ _ _ _ _)
      | (with_reducible exact ih5 _ _ _ _ _ _ _ _ _ _ _)
      | (with_reducible exact spec_l02Length.mono _ _ _)
      | (with_reducible exact spec_l02Make.mono _ _ _)
      | (with_reducible exact LeO.refl _)
      | (with_reducible exact LeO.none _)
      | (with_reducible refine LeO.ite ?_ ?_)
      | (with_reducible refine LeO.bind ?_ (fun _ => ?_))
      | exact ih0 _ _ _ _ _ _ _ _
      | exact ih1 _ _ _ _ _ _ _ _ _ _
      | exact ih2 _ _ _ _ _ _ _ _ _
      | exact ih3 _ _ _ _ _ _ _ _ _ _
      | exact ih4 _ _ _ _ _ _ _ _ _ _
      | exact ih5 _ _ _ _ _ _ _ _ _ _ _
      | exact spec_l02Length.mono _ _ _
      | exact spec_l02Make.mono _ _ _
      | exact LeO.none _
      | refine LeO.ite ?_ ?_
      | refine LeO.bind ?_ (fun _ => ?_)
    · intro y0 y1 y2 y3 y4 y5 y6 y7 y8
      unfold spec_l02DivMod.j4
      repeat' first
      | (with_reducible exact ih0 _ _ _ _ _ _ _ _)
      | (with_reducible exact ih1 _ _ _ _ _ _ _ _ _ _)
      | (with_reducible exact ih2 _ _ _ _ _ _ _ _ _)
      | (with_reducible exact ih3 _ _ _ _ _ _ _ _ _ _)
      | (with_reducible exact ih4 _ _ _ _ _ _ _ _ _ _)
      | (with_reducible exact ih5 _ _ _ _ _ _ _ _ _ _ _)
      | (with_reducible exact spec_l02Length.mono _ _ _)
      | (with_reducible exact spec_l02Make.mono _ _ _)
      | (with_reducible exact LeO.refl _)
      | (with_reducible exact LeO.none _)
      | (with_reducible refine LeO.ite ?_ ?_)
      | (with_reducible refine LeO.bind ?_ (fun _ => ?_))
      | exact ih0 _ _ _ _ _ _ _ _
      | exact ih1 _ _ _ _ _ _ _ _ _ _
      | exact ih2 _ _ _ _ _ _ _ _ _
      | exact ih3 _ _ _ _ _ _ _ _ _ _
      | exact ih4 _ _ _ _ _ _ _ _ _ _
      | exact ih5 _ _ _ _ _ _ _ _ _ _ _
      | exact spec_l02Length.mono _ _ _
      | exact spec_l02Make.mono _ _ _
      | exact LeO.none _
      | refine LeO.ite ?_ ?_
      | refine LeO.bind ?_ (fun _ => ?_)
    · intro y0 y1 y2 y3 y4 y5 y6 y7 y8 y9
      unfold spec_l02DivMod.l3
      repeat' first
      | (with_reducible exact ih0 _ _ _ _ _ _ _ _)
      | (with_reducible exact ih1 _ _ _ _ _ _ _ _ _ _)
      | (with_reducible exact ih2 _ _ _ _ _ _ _ _ _)
      | (with_reducible exact ih3 _ _ _ _ _ _ _ _ _ _)
      | (with_reducible exact ih4 _ _ _ _ _ _ _ _ _ _)
      | (with_reducible exact ih5 _ _ _ _ _ _ _ _ _ _ _)
      | (with_reducible exact spec_l02Length.mono _ _ _)
      | (with_reducible exact spec_l02Make.mono _ _ _)
      | (with_reducible exact LeO.refl _)
      | (with_reducible exact LeO.none _)
      | (with_reducible refine LeO.ite ?_ ?_)
      | (with_reducible refine LeO.bind ?_ (fun _ => ?_))
      | exact ih0 _ _ _ _ _ _ _ _
      | exact ih1 _ _ _ _ _ _ _ _ _ _
      | exact ih2 _ _ _ _ _ _ _ _ _
      | exact ih3 _ _ _ _ _ _ _ _ _ _
      | exact ih4 _ _ _ _ _ _ _ _ _ _
      | exact ih5 _ _ _ _ _ _ _ _ _ _ _
      | exact spec_l02Length.mono _ _ _
      | exact spec_l02Make.mono _ _ _
      | exact LeO.none _
      | refine LeO.ite ?_ ?_
      | refine LeO.bind ?_ (fun _ => ?_)
    · intro y0 y1 y2 y3 y4 y5 y6 y7 y8 y9
      unfold spec_l02DivMod.l2
      repeat' first
      | (with_reducible exact ih0 _ _ _ _ _ _ _ _)
      | (with_reducible exact ih1 _ _ _ _ _ _ _ _ _ _)
      | (with_reducible exact ih2 _ _ _ _ _ _ _ _ _)
      | (with_reducible exact ih3 _ _ _ _ _ _ _ _ _ _)
      | (with_reducible exact ih4 _ _ _ _ _ _ _ _ _ _)
      | (with_reducible exact ih5 _ _ _ _ _ _ _ _ _ _ _)
      | (with_reducible exact spec_l02Length.mono _ _ _)
      | (with_reducible exact spec_l02Make.mono _ _ _)
      | (with_reducible exact LeO.refl _)
      | (with_reducible exact LeO.none _)
      | (with_reducible refine LeO.ite ?_ ?_)
      | (with_reducible refine LeO.bind ?_ (fun _ => ?_))
      | exact ih0 _ _ _ _ _ _ _ _
      | exact ih1 _ _ _ _ _ _ _ _ _ _
      | exact ih2 _ _ _ _ _ _ _ _ _
      | exact ih3 _ _ _ _ _ _ _ _ _ _
      | exact ih4 _ _ _ _ _ _ _ _ _ _
      | exact ih5 _ _ _ _ _ _ _ _ _ _ _
      | exact spec_l02Length.mono _ _ _
      | exact spec_l02Make.mono _ _ _
      | exact LeO.none _
      | refine LeO.ite ?_ ?_
      | refine LeO.bind ?_ (fun _ => ?_)
    · intro y0 y1 y2 y3 y4 y5 y6 y7 y8 y9 y10
      unfold spec_l02DivMod.j3
      repeat' first
      | (with_reducible exact ih0 _ _ _ _ _ _ _ _)
      | (with_reducible exact ih1 _ _ _ _ _ _ _ _ _ _)
      | (with_reducible exact ih2 _ _ _ _ _ _ _ _ _)
      | (with_reducible exact ih3 _ _ _ _ _ _ _ _ _ _)
      | (with_reducible exact ih4 _ _ _ _ _ _ _ _ _ _)
      | (with_reducible exact ih5 _ _ _ _ _ _ _ _ _ _ _)
      | (with_reducible exact spec_l02Length.mono _ _ _)
      | (with_reducible exact spec_l02Make.mono _ _ _)
      | (with_reducible exact LeO.refl _)
      | (with_reducible exact LeO.none _)
      | (with_reducible refine LeO.ite ?_ ?_)
      | (with_reducible refine LeO.bind ?_ (fun _ => ?_))
      | exact ih0 _ _ _ _ _ _ _ _
      | exact ih1 _ _ _ _ _ _ _ _ _ _
      | exact ih2 _ _ _ _ _ _ _ _ _
      | exact ih3 _ _ _ _ _ _ _ _ _ _
      | exact ih4 _ _ _ _ _ _ _ _ _ _
      | exact ih5 _ _ _ _ _ _ _ _ _ _ _
      | exact spec_l02Length.mono _ _ _
      | exact spec_l02Make.mono _ _ _
      | exact LeO.none _
      | refine LeO.ite ?_ ?_
      | refine LeO.bind ?_ (fun _ => ?_)
theorem spec_l02DivMod.mono : ∀ a0 a1 a2 a3 k, LeO (spec_l02DivMod.f k a0 a1 a2 a3) (spec_l02DivMod.f (k + 1) a0 a1 a2 a3) := by
  intro a0 a1 a2 a3 k
  obtain ⟨ih0, ih1, ih2, ih3, ih4, ih5⟩ := spec_l02DivMod.mono_l k
  unfold spec_l02DivMod.f
  repeat' first
      | (with_reducible exact ih0 _ _ _ _ _ _ _ _)
      | (with_reducible exact ih1 _ _ _ _ _ _ _ _ _ _)
      | (with_reducible exact ih2 _ _ _ _ _ _ _ _ _)
      | (with_reducible exact ih3 _ _ _ _ _ _ _ _ _ _)
      | (with_reducible exact ih4 _ _ _ _ _ _ _ _ _ _)
      | (with_reducible exact ih5 _ _ _ _ _ _ _ _ _ _ _)
      | (with_reducible exact spec_l02Length.mono _ _ _)
      | (with_reducible exact spec_l02Make.mono _ _ _)
      | (with_reducible exact LeO.refl _)
      | (with_reducible exact LeO.none _)
      | (with_reducible refine LeO.ite ?_ ?_)
      | (with_reducible refine LeO.bind ?_ (fun _ => ?_))
      | exact ih0 _ _ _ _ _ _ _ _
      | exact ih1 _ _ _ _ _ _ _ _ _ _
      | exact ih2 _ _ _ _ _ _ _ _ _
      | exact ih3 _ _ _ _ _ _ _ _ _ _
      | exact ih4 _ _ _ _ _ _ _ _ _ _
      | exact ih5 _ _ _ _ _ _ _ _ _ _ _
      | exact spec_l02Length.mono _ _ _
      | exact spec_l02Make.mono _ _ _
      | exact LeO.none _
      | refine LeO.ite ?_ ?_
      | refine LeO.bind ?_ (fun _ => ?_)
def spec_l02DivMod.T2 : Bool × List (List Nat × List Nat) := (true, [([], []), ([0], [0]), ([1, 1], [1]), ([], []), ([3], [3]), ([4], [4]), ([5, 5], [5]), ([2, 0, 1, 2], [2]), ([6, 7, 0, 1, 2, 3, 4, 5, 6, 7], [6])])
def spec_l02DivMod.B2 : List Nat := [0, 1, 3, 0, 8, 24, 56, 7, 255]
theorem spec_l02DivMod.tab2 : rtab .any (opsOf Tryd.f44 2) = spec_l02DivMod.T2 := by kernel_rfl
theorem spec_l02DivMod.bits2 : waitsOk spec_l02DivMod.T2.2 spec_l02DivMod.B2 = true := by kernel_rfl
def spec_l02DivMod.T17 : Bool × List (List Nat × List Nat) := (true, [([], []), ([], []), ([0, 1], [0, 1]), ([2], [2]), ([], []), ([4], [4]), ([], []), ([5, 6], [5, 6]), ([7], [7]), ([3, 8], [3, 8])])
def spec_l02DivMod.B17 : List Nat := [0, 0, 3, 7, 0, 16, 0, 112, 240, 511]
theorem spec_l02DivMod.tab17 : rtab .any (opsOf Tryd.f44 17) = spec_l02DivMod.T17 := by kernel_rfl
theorem spec_l02DivMod.bits17 : waitsOk spec_l02DivMod.T17.2 spec_l02DivMod.B17 = true := by kernel_rfl
def spec_l02DivMod.T18 : Bool × List (List Nat × List Nat) := (true, [([], []), ([], []), ([0, 1], [0, 1]), ([2], [2]), ([], []), ([4], [4]), ([], []), ([5, 6], [5, 6]), ([7], [7]), ([3, 8], [3, 8]), ([9, 0, 1, 2, 3, 4, 5, 6, 7, 8, 9], [9])])
def spec_l02DivMod.B18 : List Nat := [0, 0, 3, 7, 0, 16, 0, 112, 240, 511, 1023]
theorem spec_l02DivMod.tab18 : rtab .any (opsOf Tryd.f44 18) = spec_l02DivMod.T18 := by kernel_rfl
theorem spec_l02DivMod.bits18 : waitsOk spec_l02DivMod.T18.2 spec_l02DivMod.B18 = true := by kernel_rfl
def spec_l02DivMod.T35 : Bool × List (List Nat × List Nat) := (true, [([], []), ([0], [0]), ([], []), ([2], [2]), ([1, 3], [1, 3]), ([], []), ([4, 5], [4, 5]), ([], []), ([7], [7]), ([], []), ([8, 9, 6], [8, 9]), ([6, 10, 0, 1, 2, 3, 4, 5, 6], [6]), ([10, 11, 0, 1, 2, 3, 4, 5, 6, 7, 8, 9, 10, 11], [10])])
def spec_l02DivMod.B35 : List Nat := [0, 1, 0, 4, 15, 0, 63, 0, 128, 0, 1023, 2047, 4095]
theorem spec_l02DivMod.tab35 : rtab .any (opsOf Tryd.f44 35) = spec_l02DivMod.T35 := by kernel_rfl
theorem spec_l02DivMod.bits35 : waitsOk spec_l02DivMod.T35.2 spec_l02DivMod.B35 = true := by kernel_rfl
set_option maxHeartbeats 8000000 in
set_option maxRecDepth 100000 in
theorem spec_l02DivMod.calls (k : Nat) (a0_0 : Int) (A0_1 : Option Addr) (c0_1 : Nat) (l0_1 : List Int) (a1_0 : Int) (A1_1 : Option Addr) (c1_1 : Nat) (l1_1 : List Int) (r1 : Int) (r2 : List Int) (r3 : Int) (r4 : List Int) (w : World) (hr0_1 : Kd.C (Kd.int .i64) w A0_1 l0_1.length l0_1) (hc0_1 : l0_1.length ≤ c0_1) (hr1_1 : Kd.C (Kd.int .i64) w A1_1 l1_1.length l1_1) (hc1_1 : l1_1.length ≤ c1_1) (h : spec_l02DivMod.f k a0_0 l0_1 a1_0 l1_1 = some (r1, r2, r3, r4)) :
  Calls Tryd.prog 44 #[.agg #[.int .i64 a0_0, .slice A0_1 l0_1.length c0_1], .agg #[.int .i64 a1_0, .slice A1_1 l1_1.length c1_1]] w fun e w' => ∃ v1_ v3_ : Value, e = .returned (.tuple #[.agg #[.int .i64 r1, v1_], .agg #[.int .i64 r3, v3_]]) ∧ Kd.R (Kd.int .i64) 2 w' w.heap.size (fun k_ => some k_ ≠ (v3_ : Value).ownBlock) v1_ r2 ∧ Kd.R (Kd.int .i64) 2 w' w.heap.size (fun k_ => some k_ ≠ (v1_ : Value).ownBlock) v3_ r4 ∧ Below w.heap.size w w' := by
 have hu26 := Tryd.underlying26; have HR0_1 := am_ hr0_1; have HC0_1 := am_ hc0_1; clear hr0_1 hc0_1; have HR1_1 := am_ hr1_1; have HC1_1 := am_ hc1_1; clear hr1_1 hc1_1; have HB := am_ (Below.refl w.heap.size w)
 have H : (if 0 ≤ (wrap64 ((l1_1.length : Int) + 1)) then (if (wrap64 ((l1_1.length : Int) + 1) : Int).toNat ≤ 35184372088832 then (if 0 ≤ (l0_1.length : Int) then (if ((l0_1.length : Int) : Int).toNat ≤ 35184372088832 then ((spec_l02Length.f k a0_0 l0_1).bind fun t141 => (spec_l02DivMod.l0 k (l1_1.length : Int) (List.replicate (wrap64 ((l1_1.length : Int) + 1) : Int).toNat 0) (List.replicate ((l0_1.length : Int) : Int).toNat 0) (wrap64 (t141 - 1)) a0_0 l0_1 a1_0 l1_1)) else (none)) else (none)) else (none)) else (none)) = some (r1, r2, r3, r4) := h
 clear h
 obtain ⟨ji3, hji3⟩ : ∃ j_ : Int, (wrap64 ((l1_1.length : Int) + 1)) = j_ := ⟨_, rfl⟩
 replace H : (if 0 ≤ (ji3) then (if (ji3 : Int).toNat ≤ 35184372088832 then (if 0 ≤ (l0_1.length : Int) then (if ((l0_1.length : Int) : Int).toNat ≤ 35184372088832 then ((spec_l02Length.f k a0_0 l0_1).bind fun t141 => (spec_l02DivMod.l0 k (l1_1.length : Int) (List.replicate (ji3 : Int).toNat 0) (List.replicate ((l0_1.length : Int) : Int).toNat 0) (wrap64 (t141 - 1)) a0_0 l0_1 a1_0 l1_1)) else (none)) else (none)) else (none)) else (none)) = some (r1, r2, r3, r4) := by first | (rw [hji3] at H; exact H) | (simp only [hji3] at H ⊢; exact H)
 have hji3w : (IntKind.i64.wrap ((l1_1.length : Int) + 1)) = ji3 := (i64_w _).trans hji3
 by_cases c4 : 0 ≤ (ji3)
 ·rw [if_pos c4] at H
  have c4b0 := eq_true c4
  have c4b1 : decide (0 ≤ (ji3)) = true := decide_eq_true c4
  clear c4
  by_cases c5 : (ji3 : Int).toNat ≤ 35184372088832
  ·rw [if_pos c5] at H
   have c5b0 := eq_true c5
   have c5b1 : decide ((ji3 : Int).toNat ≤ 35184372088832) = true := decide_eq_true c5
   clear c5
   obtain ⟨y135, hy135⟩ : ∃ y_ : List Int, y_ = (List.replicate (ji3 : Int).toNat 0) := ⟨_, rfl⟩
   replace H : (if 0 ≤ (l0_1.length : Int) then (if ((l0_1.length : Int) : Int).toNat ≤ 35184372088832 then ((spec_l02Length.f k a0_0 l0_1).bind fun t141 => (spec_l02DivMod.l0 k (l1_1.length : Int) y135 (List.replicate ((l0_1.length : Int) : Int).toNat 0) (wrap64 (t141 - 1)) a0_0 l0_1 a1_0 l1_1)) else (none)) else (none)) = some (r1, r2, r3, r4) := by first | (rw [hy135]; with_reducible exact H) | (have H2_ := (Option.bind_some _ _).symm.trans H; rw [hy135]; with_reducible exact H2_) | (have H2_ := (Option.bind_some _ _).symm.trans H; with_reducible exact H2_) | with_reducible exact H | (rw [hy135]; exact H) | exact H
   have Ny135 := am_ hy135; clear hy135
   by_cases c6 : 0 ≤ (l0_1.length : Int)
   ·rw [if_pos c6] at H
    have c6b0 := eq_true c6
    have c6b1 : decide (0 ≤ (l0_1.length : Int)) = true := decide_eq_true c6
    clear c6
    by_cases c7 : ((l0_1.length : Int) : Int).toNat ≤ 35184372088832
    ·rw [if_pos c7] at H
     have c7b0 := eq_true c7
     have c7b1 : decide (((l0_1.length : Int) : Int).toNat ≤ 35184372088832) = true := decide_eq_true c7
     clear c7
     obtain ⟨y138, hy138⟩ : ∃ y_ : List Int, y_ = (List.replicate ((l0_1.length : Int) : Int).toNat 0) := ⟨_, rfl⟩
     replace H : ((spec_l02Length.f k a0_0 l0_1).bind fun t141 => (spec_l02DivMod.l0 k (l1_1.length : Int) y135 y138 (wrap64 (t141 - 1)) a0_0 l0_1 a1_0 l1_1)) = some (r1, r2, r3, r4) := by first | (rw [hy138]; with_reducible exact H) | (have H2_ := (Option.bind_some _ _).symm.trans H; rw [hy138]; with_reducible exact H2_) | (have H2_ := (Option.bind_some _ _).symm.trans H; with_reducible exact H2_) | with_reducible exact H | (rw [hy138]; exact H) | exact H
     have Ny138 := am_ hy138; clear hy138
     replace H := Option.bind_eq_some_iff.mp H
     obtain ⟨t141, A80, H⟩ := H
     replace H : (spec_l02DivMod.l0 k (l1_1.length : Int) y135 y138 (wrap64 (t141 - 1)) a0_0 l0_1 a1_0 l1_1) = some (r1, r2, r3, r4) := H
     have A8 := am_ A80; clear A80
     have H' := am_ H
     clear H
     go_enter Tryd.func44, Tryd.ntmps44
     try go_wp2_with (first | ((with_reducible refine gate_dst (N := 2) rfl ?_); refine bx_ 2 #[.int .i64 a0_0, .slice A0_1 l0_1.length c0_1] 26 ?_; intro gb131 hg w9 hbox hb; obtain ⟨BK131, GW131, GE131⟩ := nb_ hbox hg HB; replace HB := bs_ HB hb; clear hb hbox hg) | ((with_reducible refine gate_dst (N := 3) rfl ?_); refine bx_ 3 #[.int .i64 a1_0, .slice A1_1 l1_1.length c1_1] 26 ?_; intro gb132 hg w10 hbox hb; obtain ⟨BK132, GW132, GE132⟩ := nb_ hbox hg HB; obtain ⟨NB131_132, NB132_131⟩ := nn_ hg BK131; replace BK131 := bb_ BK131 hb; replace HB := bs_ HB hb; clear hb hbox hg) | ((with_reducible refine gate_dst (N := 4) rfl ?_); refine bx_ 4 #[.int .i64 0, .slice none 0 0] 26 ?_; intro gb133 hg w11 hbox hb; obtain ⟨BK133, GW133, GE133⟩ := nb_ hbox hg HB; obtain ⟨NB131_133, NB133_131⟩ := nn_ hg BK131; obtain ⟨NB132_133, NB133_132⟩ := nn_ hg BK132; replace BK131 := bb_ BK131 hb; replace BK132 := bb_ BK132 hb; replace HB := bs_ HB hb; clear hb hbox hg) | ((with_reducible refine gate_dst (N := 5) rfl ?_); refine bx_ 5 #[.int .i64 0, .slice none 0 0] 26 ?_; intro gb134 hg w12 hbox hb; obtain ⟨BK134, GW134, GE134⟩ := nb_ hbox hg HB; obtain ⟨NB131_134, NB134_131⟩ := nn_ hg BK131; obtain ⟨NB132_134, NB134_132⟩ := nn_ hg BK132; obtain ⟨NB133_134, NB134_133⟩ := nn_ hg BK133; replace BK131 := bb_ BK131 hb; replace BK132 := bb_ BK132 hb; replace BK133 := bb_ BK133 hb; replace HB := bs_ HB hb; clear hb hbox hg; have hnb13 := NB132_131.out; have hnc13 := NB131_132.out; have hnb14 := NB132_133.out; have hnc14 := NB133_132.out; have hnb15 := NB132_134.out; have hnc15 := NB134_132.out; obtain ⟨hcz16_0, hcz16_1, hfz16_0, hfz16_1⟩ := ck2_ BK132))
     replace BK131 := am_ (blk_drew BK131.out); replace BK132 := am_ (blk_drew BK132.out); replace BK133 := am_ (blk_drew BK133.out); replace BK134 := am_ (blk_drew BK134.out); replace HB := am_ (below_drew1 HB.out)
     refine start_ (n := 9) (S := fun w' => w'.cell? ⟨gb131, 0, none⟩ = some (.int .i64 a0_0) ∧ w'.cell? ⟨gb131, 1, none⟩ = some (.slice A0_1 l0_1.length c0_1)) (ds := []) #[false, false, false, false, false, false, false, false, false] (by kernel_rfl) rfl rfl ⟨bc_ BK131 0, bc_ BK131 1⟩ (fun hHeld => ?_); refine with_tabW spec_l02DivMod.tab2 spec_l02DivMod.bits2 (fun HT_ HW_ => ?_)
     generalize w12.drew = w17 at BK131 BK132 BK133 BK134 HB hHeld ⊢
     refine pu_ #[true, false, false, false, false, false, false, false, false] 0 21 (any_of HT_.out (by kernel_rfl)) ?_
     refine pu_ #[true, true, false, false, false, false, false, false, false] 1 22 (any_of HT_.out (by kernel_rfl)) ?_
     refine pu_ #[true, true, false, true, false, false, false, false, false] 3 24 (any_of HT_.out (by kernel_rfl)) ?_
     refine tk_ #[true, true, false, true, true, false, false, false, false] 4 25 (take_ofW HT_.out HW_.out (by kernel_rfl)) hHeld ?_
     refine pu_ #[true, true, false, true, true, true, false, false, false] 5 26 (any_of HT_.out (by kernel_rfl)) ?_
     refine join_ (σ := Value × Value) 1 #[true, true, true, true, true, true, true, true, false] (fun s_ => [(23, s_.1), (27, s_.2), (7, s_.1)]) (fun s_ w' => (w'.cell? ⟨gb131, 0, none⟩ = some (.int .i64 a0_0) ∧ w'.cell? ⟨gb131, 1, none⟩ = some (.slice A0_1 l0_1.length c0_1)) ∧ (Kd.R (Kd.int .i64) 2 w' w.heap.size (fun k_ => some k_ ≠ (s_.2 : Value).ownBlock) s_.1 y135) ∧ (Kd.R (Kd.int .i64) 2 w' w.heap.size (fun k_ => some k_ ≠ (s_.1 : Value).ownBlock) s_.2 y138) ∧ (w'.heap[gb131]? = some (.cells #[.int .i64 a0_0, .slice A0_1 l0_1.length c0_1] 26 (0, 0))) ∧ (w'.heap[gb132]? = some (.cells #[.int .i64 a1_0, .slice A1_1 l1_1.length c1_1] 26 (0, 0))) ∧ (w'.heap[gb133]? = some (.cells #[.int .i64 0, .slice none 0 0] 26 (0, 0))) ∧ (w'.heap[gb134]? = some (.cells #[.int .i64 0, .slice none 0 0] 26 (0, 0))) ∧ (Below w.heap.size w w')) ?_ ?_
     rotate_left
     ·intro hCont
      refine two_ (i := 2) (j := 6) (Ni := some 23) (Nj := some 27) #[true, true, true, true, true, true, false, false, false] #[true, true, false, true, true, true, true, false, false] rfl rfl rfl rfl (two_of HT_.out (by kernel_rfl)) (by decide) (by decide) (fun K hK => ?_) (fun K hK => ?_)
      ·skip
       refine Kd.R_make_step (Kd.int .i64) _ 2 (by rfl) (N := 23) rfl 22 _ _ rfl ji3 rfl rfl Tryd.underlying22 (.int .i64 0) 8 info2 rfl (by decide) (by omega) 0 (ok := fun _ => True) (okp := fun _ => True) rfl (fun _ hk => hk) trivial (of_decide_eq_true (by first | (with_reducible assumption) | assumption)) (Nat.le_trans (Nat.mul_le_mul_right _ (of_decide_eq_true (by first | (with_reducible assumption) | assumption) : ji3.toNat ≤ 35184372088832)) (by omega)) (Below.refl _ _) (Nat.le_refl _) ?_
       intro v136 w18 ho19 hb hg_ hnew_
       clear hg_ hnew_
       (first | rw [← Ny135.out] at ho19 | (simp only [Int.reduceToNat] at ho19; rw [← Ny135.out] at ho19))
       have HO137 := am_ (Kd.R_lower ho19 (below_size (bl_ HB))); replace BK131 := am_ (blk_below (bk_ BK131) hb); replace BK132 := am_ (blk_below (bk_ BK132) hb); replace BK133 := am_ (blk_below (bk_ BK133) hb); replace BK134 := am_ (blk_below (bk_ BK134) hb); replace HB := am_ (below_step (bl_ HB) hb); clear hb ho19
       refine hK.out _ _ ⟨bc_ BK131 0, bc_ BK131 1⟩ (fun hHeld => ?_)
       clear hK K
       refine nr_ ?_
       refine pu_ #[true, true, true, true, true, true, false, true, false] 7 7 (any_of HT_.out (by kernel_rfl)) ?_
       refine one_ (i := 6) (N := some 27) #[true, true, true, true, true, true, true, true, false] rfl rfl (one_of HT_.out (by kernel_rfl)) (by decide) (fun K hK => ?_)
       refine Kd.R_make_step (Kd.int .i64) _ 2 (by rfl) (N := 27) rfl 22 _ _ rfl (l0_1.length : Int) rfl rfl Tryd.underlying22 (.int .i64 0) 8 info2 rfl (by decide) (by omega) 0 (ok := fun _ => True) (okp := fun _ => True) rfl (fun _ hk => hk) trivial (of_decide_eq_true (by first | (with_reducible assumption) | assumption)) (Nat.le_trans (Nat.mul_le_mul_right _ (of_decide_eq_true (by first | (with_reducible assumption) | assumption) : (l0_1.length : Int).toNat ≤ 35184372088832)) (by omega)) (Below.refl _ _) (Nat.le_refl _) ?_
       intro v139 w20 ho21 hb hg_ hnew_
       clear hg_ hnew_
       (first | rw [← Ny138.out] at ho21 | (simp only [Int.reduceToNat] at ho21; rw [← Ny138.out] at ho21))
       have HO140 := am_ (Kd.R_lower (Kd.R_new' ho21 (Kd.R_lt (kr_ HO137))) (below_size (bl_ HB))); replace HO137 := am_ (Kd.R_elder' (kr_ HO137) (Kd.R_base ho21) hb); replace BK131 := am_ (blk_below (bk_ BK131) hb); replace BK132 := am_ (blk_below (bk_ BK132) hb); replace BK133 := am_ (blk_below (bk_ BK133) hb); replace BK134 := am_ (blk_below (bk_ BK134) hb); replace HB := am_ (below_step (bl_ HB) hb); clear hb ho21
       refine hK.out _ _ ⟨bc_ BK131 0, bc_ BK131 1⟩ (fun hHeld => ?_)
       clear hK K
       refine nr_ ?_
       exact norm_ (by simp only [putAll, Act.put, List.setIfInBounds_toArray, List.set_cons_zero, List.set_cons_succ]) (hCont (v136, v139) _ ⟨hHeld, (km_ HO137 (fun _ hk => hk.2)), (km_ HO140 (fun _ hk => hk.2)), (bk_ BK131), (bk_ BK132), (bk_ BK133), (bk_ BK134), (bl_ HB)⟩)
      ·skip
       refine Kd.R_make_step (Kd.int .i64) _ 2 (by rfl) (N := 27) rfl 22 _ _ rfl (l0_1.length : Int) rfl rfl Tryd.underlying22 (.int .i64 0) 8 info2 rfl (by decide) (by omega) 0 (ok := fun _ => True) (okp := fun _ => True) rfl (fun _ hk => hk) trivial (of_decide_eq_true (by first | (with_reducible assumption) | assumption)) (Nat.le_trans (Nat.mul_le_mul_right _ (of_decide_eq_true (by first | (with_reducible assumption) | assumption) : (l0_1.length : Int).toNat ≤ 35184372088832)) (by omega)) (Below.refl _ _) (Nat.le_refl _) ?_
       intro v139 w18 ho19 hb hg_ hnew_
       clear hg_ hnew_
       (first | rw [← Ny138.out] at ho19 | (simp only [Int.reduceToNat] at ho19; rw [← Ny138.out] at ho19))
       have HO140 := am_ (Kd.R_lower ho19 (below_size (bl_ HB))); replace BK131 := am_ (blk_below (bk_ BK131) hb); replace BK132 := am_ (blk_below (bk_ BK132) hb); replace BK133 := am_ (blk_below (bk_ BK133) hb); replace BK134 := am_ (blk_below (bk_ BK134) hb); replace HB := am_ (below_step (bl_ HB) hb); clear hb ho19
       refine hK.out _ _ ⟨bc_ BK131 0, bc_ BK131 1⟩ (fun hHeld => ?_)
       clear hK K
       refine nr_ ?_
       refine one_ (i := 2) (N := some 23) #[true, true, true, true, true, true, true, false, false] rfl rfl (one_of HT_.out (by kernel_rfl)) (by decide) (fun K hK => ?_)
       refine Kd.R_make_step (Kd.int .i64) _ 2 (by rfl) (N := 23) rfl 22 _ _ rfl ji3 rfl rfl Tryd.underlying22 (.int .i64 0) 8 info2 rfl (by decide) (by omega) 0 (ok := fun _ => True) (okp := fun _ => True) rfl (fun _ hk => hk) trivial (of_decide_eq_true (by first | (with_reducible assumption) | assumption)) (Nat.le_trans (Nat.mul_le_mul_right _ (of_decide_eq_true (by first | (with_reducible assumption) | assumption) : ji3.toNat ≤ 35184372088832)) (by omega)) (Below.refl _ _) (Nat.le_refl _) ?_
       intro v136 w20 ho21 hb hg_ hnew_
       clear hg_ hnew_
       (first | rw [← Ny135.out] at ho21 | (simp only [Int.reduceToNat] at ho21; rw [← Ny135.out] at ho21))
       have HO137 := am_ (Kd.R_lower (Kd.R_new' ho21 (Kd.R_lt (kr_ HO140))) (below_size (bl_ HB))); replace HO140 := am_ (Kd.R_elder' (kr_ HO140) (Kd.R_base ho21) hb); replace BK131 := am_ (blk_below (bk_ BK131) hb); replace BK132 := am_ (blk_below (bk_ BK132) hb); replace BK133 := am_ (blk_below (bk_ BK133) hb); replace BK134 := am_ (blk_below (bk_ BK134) hb); replace HB := am_ (below_step (bl_ HB) hb); clear hb ho21
       refine hK.out _ _ ⟨bc_ BK131 0, bc_ BK131 1⟩ (fun hHeld => ?_)
       clear hK K
       refine nr_ ?_
       refine pu_ #[true, true, true, true, true, true, true, true, false] 7 7 (any_of HT_.out (by kernel_rfl)) ?_
       exact norm_ (by simp only [putAll, Act.put, List.setIfInBounds_toArray, List.set_cons_zero, List.set_cons_succ]) (hCont (v136, v139) _ ⟨hHeld, (km_ HO137 (fun _ hk => hk.2)), (km_ HO140 (fun _ hk => hk.2)), (bk_ BK131), (bk_ BK132), (bk_ BK133), (bk_ BK134), (bl_ HB)⟩)
     rintro ⟨v136, v139⟩ w22 ⟨hS_, h0_, h1_, h2_, h3_, h4_, h5_, h6_⟩
     try dsimp only at hS_ h0_ h1_ h2_ h3_ h4_ h5_ h6_
     have n0_ := am_ h0_
     have n1_ := am_ h1_
     have n2_ := am_ h2_
     have n3_ := am_ h3_
     have n4_ := am_ h4_
     have n5_ := am_ h5_
     have n6_ := am_ h6_
     clear BK131 BK132 BK133 BK134 HB h0_ h1_ h2_ h3_ h4_ h5_ h6_; have HO137 := n0_; have HO140 := n1_; have BK131 := n2_; have BK132 := n3_; have BK133 := n4_; have BK134 := n5_; have HB := n6_; clear n0_ n1_ n2_ n3_ n4_ n5_ n6_
     have hHeld : w22.cell? ⟨gb131, 0, none⟩ = some (.int .i64 a0_0) ∧ w22.cell? ⟨gb131, 1, none⟩ = some (.slice A0_1 l0_1.length c0_1) := hS_
     refine norm_ (a' := ?_) ?_ ?_
     rotate_left
     ·simp only [putAll, Act.put, List.setIfInBounds_toArray, List.set_cons_zero, List.set_cons_succ]
      rfl
     refine pu_ #[true, true, true, true, true, true, true, true, true] 8 8 (any_of HT_.out (by kernel_rfl)) ?_
     refine done_ (done_of HT_.out (by kernel_rfl)) ?_
     have hnb23 := NB131_133.out; have hnc23 := NB133_131.out; have hnb24 := NB131_134.out; have hnc24 := NB134_131.out
     obtain ⟨hcz25_0, hcz25_1, hfz25_0, hfz25_1⟩ := ck2_ BK131
     try go_wp2_with (first | ((with_reducible refine gate_callee (f := 80) rfl ?_); refine goesL_ (some 29) rfl rfl Tryd.func80 (by kernel_rfl) rfl #[.agg #[.int .i64 a0_0, .slice A0_1 l0_1.length c0_1]] rfl ma_ ?_; (with_reducible refine (spec_l02Length.calls k a0_0 _ _ l0_1 t141 _ ?side1 ?side2 A8.out).mono ?_); (case side1 => exact cb_ HR0_1 HB); (case side2 => exact HC0_1.out); rintro e w26 ⟨rfl, hb⟩; refine ⟨_, rfl, ?_⟩; replace HO137 := am_ (Kd.R_below (kr_ HO137) hb); replace HO140 := am_ (Kd.R_below (kr_ HO140) hb); replace BK131 := bb_ BK131 hb; replace BK132 := bb_ BK132 hb; replace BK133 := bb_ BK133 hb; replace BK134 := bb_ BK134 hb; replace HB := bs_ HB hb; (try clear hb)))
     go_loopg [9] k (fun kq v9 w' => ∃ (x7_1 : List Int) (x8_1 : List Int) (x9_1 : Int), v9 = .int .i64 x9_1 ∧ Aside0 (spec_l02DivMod.l0 kq (l1_1.length : Int) x7_1 x8_1 x9_1 a0_0 l0_1 a1_0 l1_1 = some (r1, r2, r3, r4)) ∧ Aside0 (kq ≤ k) ∧ Aside0 (Kd.R (Kd.int .i64) 2 w' w.heap.size (fun k_ => some k_ ≠ (v139 : Value).ownBlock) v136 x7_1) ∧ Aside0 (Kd.R (Kd.int .i64) 2 w' w.heap.size (fun k_ => some k_ ≠ (v136 : Value).ownBlock) v139 x8_1) ∧ Aside0 (w'.heap[gb131]? = some (.cells #[.int .i64 a0_0, (.slice A0_1 l0_1.length c0_1)] 26 (0, 0))) ∧ Aside0 (w'.heap[gb132]? = some (.cells #[.int .i64 a1_0, (.slice A1_1 l1_1.length c1_1)] 26 (0, 0))) ∧ Aside0 (w'.heap[gb133]? = some (.cells #[.int .i64 0, (.slice none 0 0)] 26 (0, 0))) ∧ Aside0 (w'.heap[gb134]? = some (.cells #[.int .i64 0, (.slice none 0 0)] 26 (0, 0))) ∧ Aside0 (Below w.heap.size w w'))
     case atStart => exact ⟨(y135), (y138), (wrap64 (t141 - 1)), (by first | rfl | (simp; done) | (simp [*]; done)), H', ⟨Nat.le_refl _⟩, ⟨kr_ HO137⟩, ⟨kr_ HO140⟩, ⟨bk_ BK131⟩, ⟨bk_ BK132⟩, ⟨bk_ BK133⟩, ⟨bk_ BK134⟩, ⟨bl_ HB⟩⟩
     case round =>
      clear H'; try clear c4; try clear c4b0; try clear c4b1; try clear c5; try clear c5b0; try clear c5b1; try clear c6; try clear c6b0; try clear c6b1; try clear c7; try clear c7b0; try clear c7b1; try clear hcz16_0; try clear hcz16_1; try clear hcz25_0; try clear hcz25_1; try clear hfz16_0; try clear hfz16_1; try clear hfz25_0; try clear hfz25_1
      obtain ⟨x7_1, x8_1, x9_1, rfl, HA, HK1, HO_7, HO_8, BK131, BK132, BK133, BK134, HB⟩ := hrel
      cases gk with
      | zero => exact absurd HA.out (by simp [spec_l02DivMod.l0])
      | succ k1 =>
       have H := HA.out; clear HA
       simp only [spec_l02DivMod.l0] at H
       by_cases c27 : x9_1 ≥ 0
       ·rw [if_pos c27] at H
        have c27b0 : decide (0 ≤ x9_1) = true := decide_eq_true c27
        clear c27
        replace H := Option.bind_eq_some_iff.mp H
        obtain ⟨t150, A280, H⟩ := H
        replace H : (spec_l02DivMod.l1 k1 (l1_1.length : Int) x7_1 x8_1 x9_1 t150 0 a0_0 l0_1 a1_0 l1_1) = some (r1, r2, r3, r4) := H
        have A28 := am_ A280; clear A280
        have H' := am_ H
        clear H; have hnb29 := NB131_132.out; have hnc29 := NB132_131.out; have hnb30 := NB131_133.out; have hnc30 := NB133_131.out; have hnb31 := NB131_134.out; have hnc31 := NB134_131.out
        obtain ⟨hcz32_0, hcz32_1, hfz32_0, hfz32_1⟩ := ck2_ BK131
        go_wp2_with (first | ((with_reducible refine gate_callee (f := 86) rfl ?_); refine goesL_ (some 37) rfl rfl Tryd.func86 (by kernel_rfl) rfl #[.agg #[.int .i64 a0_0, .slice A0_1 l0_1.length c0_1], .int .i64 x9_1] rfl ma_ ?_; (with_reducible refine (spec_l02Bit.calls a0_0 _ _ l0_1 x9_1 t150 _ ?side1 ?side2 A28.out).mono ?_); (case side1 => exact cb_ HR0_1 HB); (case side2 => exact HC0_1.out); rintro e w33 ⟨rfl, hb⟩; refine ⟨_, rfl, ?_⟩; replace HO_7 := am_ (Kd.R_below (kr_ HO_7) hb); replace HO_8 := am_ (Kd.R_below (kr_ HO_8) hb); replace BK131 := bb_ BK131 hb; replace BK132 := bb_ BK132 hb; replace BK133 := bb_ BK133 hb; replace BK134 := bb_ BK134 hb; replace HB := bs_ HB hb; (try clear hb)))
        go_loopg [10, 11] k1 (fun kq v10 v11 w' => ∃ (x7_2 : List Int) (x10_2 : Int) (x11_2 : Int), v10 = .int .i64 x10_2 ∧ v11 = .int .i64 x11_2 ∧ Aside0 (spec_l02DivMod.l1 kq (l1_1.length : Int) x7_2 x8_1 x9_1 x10_2 x11_2 a0_0 l0_1 a1_0 l1_1 = some (r1, r2, r3, r4)) ∧ Aside0 (kq ≤ k1) ∧ Aside0 (Kd.R (Kd.int .i64) 2 w' w.heap.size (fun k_ => some k_ ≠ (v139 : Value).ownBlock) v136 x7_2) ∧ Aside0 (Kd.R (Kd.int .i64) 2 w' w.heap.size (fun k_ => some k_ ≠ (v136 : Value).ownBlock) v139 x8_1) ∧ Aside0 (w'.heap[gb131]? = some (.cells #[.int .i64 a0_0, (.slice A0_1 l0_1.length c0_1)] 26 (0, 0))) ∧ Aside0 (w'.heap[gb132]? = some (.cells #[.int .i64 a1_0, (.slice A1_1 l1_1.length c1_1)] 26 (0, 0))) ∧ Aside0 (w'.heap[gb133]? = some (.cells #[.int .i64 0, (.slice none 0 0)] 26 (0, 0))) ∧ Aside0 (w'.heap[gb134]? = some (.cells #[.int .i64 0, (.slice none 0 0)] 26 (0, 0))) ∧ Aside0 (Below w.heap.size w w'))
        case atStart => exact ⟨(x7_1), (t150), (0), (by first | rfl | (simp; done) | (simp [*]; done)), (by first | rfl | (simp; done) | (simp [*]; done)), H', ⟨Nat.le_refl _⟩, ⟨kr_ HO_7⟩, ⟨kr_ HO_8⟩, ⟨bk_ BK131⟩, ⟨bk_ BK132⟩, ⟨bk_ BK133⟩, ⟨bk_ BK134⟩, ⟨bl_ HB⟩⟩
        case round =>
         clear H'; try clear c4; try clear c4b0; try clear c4b1; try clear c5; try clear c5b0; try clear c5b1; try clear c6; try clear c6b0; try clear c6b1; try clear c7; try clear c7b0; try clear c7b1; try clear c27; try clear c27b0; try clear hcz16_0; try clear hcz16_1; try clear hcz25_0; try clear hcz25_1; try clear hcz32_0; try clear hcz32_1; try clear hfz16_0; try clear hfz16_1; try clear hfz25_0; try clear hfz25_1; try clear hfz32_0; try clear hfz32_1
         obtain ⟨x7_2, x10_2, x11_2, rfl, rfl, HA, HK2, HO_7, HO_8, BK131, BK132, BK133, BK134, HB⟩ := hrel
         cases gk with
         | zero => exact absurd HA.out (by simp [spec_l02DivMod.l1])
         | succ k2 =>
          have H := HA.out; clear HA
          simp only [spec_l02DivMod.l1] at H
          by_cases c34 : x11_2 ≤ (l1_1.length : Int)
          ·rw [if_pos c34] at H
           have c34b0 : decide (x11_2 ≤ (l1_1.length : Int)) = true := decide_eq_true c34
           clear c34
           by_cases c35 : 0 ≤ x11_2
           ·rw [if_pos c35] at H
            have c35b0 : decide (0 ≤ x11_2) = true := decide_eq_true c35
            clear c35
            by_cases c36 : x11_2 < (x7_2.length : Int)
            ·rw [if_pos c36] at H
             have c36b0 : decide (x11_2 < (x7_2.length : Int)) = true := decide_eq_true c36
             clear c36
             obtain ⟨y152, hy152⟩ : ∃ y_ : List Int, y_ = (x7_2.set (x11_2 : Int).toNat (Int.tmod (wrap64 ((wrap64 (2 * (rd x7_2 x11_2))) + x10_2)) 16777216)) := ⟨_, rfl⟩
             replace H : (spec_l02DivMod.l1 k2 (l1_1.length : Int) y152 x8_1 x9_1 (wrap64 (Int.tdiv (wrap64 ((wrap64 (2 * (rd x7_2 x11_2))) + x10_2)) 16777216)) (wrap64 (x11_2 + 1)) a0_0 l0_1 a1_0 l1_1) = some (r1, r2, r3, r4) := by first | (rw [hy152]; with_reducible exact H) | (have H2_ := (Option.bind_some _ _).symm.trans H; rw [hy152]; with_reducible exact H2_) | (have H2_ := (Option.bind_some _ _).symm.trans H; with_reducible exact H2_) | with_reducible exact H | (rw [hy152]; exact H) | exact H
             have Ny152 := am_ hy152; clear hy152
             have H' := am_ H
             clear H
             obtain ⟨Ao38, co38, eo38⟩ := Kd.R_slice HO_7.out
             subst eo38
             have p151 : 0 ≤ (x11_2 : Int) := of_decide_eq_true (by first | (with_reducible assumption) | assumption)
             have q151 : x11_2 < (x7_2.length : Int) := of_decide_eq_true (by first | (with_reducible assumption) | assumption)
             obtain ⟨ad151, e151, hx151_0⟩ := Kd.at_int (Kd.R_reads' HO_7.out).2.2 x11_2 p151 q151
             cases e151
             replace p151 := eq_true p151
             replace q151 := eq_true q151
             have p37 : 0 ≤ (x11_2 : Int) := of_decide_eq_true (by first | (with_reducible assumption) | assumption)
             have q37 : (x11_2 : Int) < ((x7_2.length : Int) : Int) := of_decide_eq_true (by first | (with_reducible assumption) | assumption)
             obtain ⟨go37, co37, eo37, gb37, gl37, cl37, HG37⟩ := Kd.R_form HO_7.out (by omega)
             (first | cases eo37 | (injection eo37 with ea_ en_ ec_; (first | subst ea_ | (injection ea_ with ea_; subst ea_)); subst ec_; clear en_))
             have GB37 := am_ gb37; have GG37 := am_ HG37; clear gb37 gl37 HG37
             (first | simp only [add_plain] at hx151_0 | skip)
             obtain ⟨hx37_0, hf37_0⟩ := Kd.R_celln 0 HO_7.out (x11_2 : Int) p37 q37
             replace p37 := eq_true p37
             replace q37 := eq_true q37
             have HP39 := Kd.R_putg HO_7.out (x11_2 : Int) (Int.tmod (wrap64 ((wrap64 (2 * (rd x7_2 x11_2))) + x10_2)) 16777216)
             go_wp2_with (first | ((with_reducible refine gate_store (t := 2) (p := 54) rfl ?_); refine store_event (t := 2) (p := 54) (v := ?vo_w40) (w1 := (wr.setCell ⟨go37, (x11_2 : Int).toNat, none⟩ (.int .i64 (Int.tmod (wrap64 ((wrap64 (2 * (rd x7_2 x11_2))) + x10_2)) 16777216)))) ?hg ?ho ?hn ?hr ?_; (case ho => rfl); (case hg => rfl); (case hn => rfl); (case hr => first | (go_simp; done) | (go_simp; rfl)); intro w40 hw; have hg : wr.grownBy w40 (some go37) := (by rw [hw]; exact HP39.2); have hp_ : Kd.R (Kd.int .i64) 2 w40 w.heap.size (fun k_ => some k_ ≠ (v139 : Value).ownBlock) (.slice (some ⟨go37, 0, none⟩) x7_2.length co38) y152 := (by rw [hw, Ny152.out]; exact HP39.1); clear HP39; have n0_ := am_ (hp_); have n1_ := am_ (Kd.R_after (v := (.slice (some ⟨go37, 0, none⟩) x7_2.length co38)) (v1 := (.slice (some ⟨go37, 0, none⟩) x7_2.length co38)) (ok := (fun _ => True)) (km_ HO_8 (fun _ hk => ⟨trivial, hk⟩)) hg (.inl rfl)); have n2_ := am_ (blk_grown (g := gb131) (o := .cells #[.int .i64 a0_0, .slice A0_1 l0_1.length c0_1] 26 (0, 0)) (bk_ BK131) hg (Kd.R_ne HO_7.out BK131.out (by decide))); have n3_ := am_ (blk_grown (g := gb132) (o := .cells #[.int .i64 a1_0, .slice A1_1 l1_1.length c1_1] 26 (0, 0)) (bk_ BK132) hg (Kd.R_ne HO_7.out BK132.out (by decide))); have n4_ := am_ (blk_grown (g := gb133) (o := .cells #[.int .i64 0, .slice none 0 0] 26 (0, 0)) (bk_ BK133) hg (Kd.R_ne HO_7.out BK133.out (by decide))); have n5_ := am_ (blk_grown (g := gb134) (o := .cells #[.int .i64 0, .slice none 0 0] 26 (0, 0)) (bk_ BK134) hg (Kd.R_ne HO_7.out BK134.out (by decide))); have n6_ := am_ ((by rw [hw]; exact below_set (HB.out) GB37.out : Below w.heap.size w w40)); clear HO_7; clear HO_8; clear BK131; clear BK132; clear BK133; clear BK134; clear HB; have HO_7 := n0_; have HO_8 := n1_; have BK131 := n2_; have BK132 := n3_; have BK133 := n4_; have BK134 := n5_; have HB := n6_; clear n0_ n1_ n2_ n3_ n4_ n5_ n6_; clear hg hw hp_))
             go_roundg k2
             case measure => have := HK1.out; have := HK2.out; omega
             case rel => exact ⟨(y152), (wrap64 (Int.tdiv (wrap64 ((wrap64 (2 * (rd x7_2 x11_2))) + x10_2)) 16777216)), (wrap64 (x11_2 + 1)), (by first | rfl | (simp; done) | (simp [*]; done)), (by first | rfl | (simp; done) | (simp [*]; done)), H', ⟨by have := HK1.out; have := HK2.out; omega⟩, ⟨kr_ HO_7⟩, ⟨km_ HO_8 (fun _ hk => hk.2)⟩, ⟨bk_ BK131⟩, ⟨bk_ BK132⟩, ⟨bk_ BK133⟩, ⟨bk_ BK134⟩, ⟨bl_ HB⟩⟩
            ·rw [if_neg c36] at H
             exact absurd H (by simp)
           ·rw [if_neg c35] at H
            exact absurd H (by simp)
          ·rw [if_neg c34] at H
           have c34b0 : decide (x11_2 ≤ (l1_1.length : Int)) = false := decide_eq_false c34
           clear c34
           by_cases c41 : 0 ≤ (l1_1.length : Int)
           ·rw [if_pos c41] at H
            have c41b0 : decide (0 ≤ (l1_1.length : Int)) = true := decide_eq_true c41
            have c41b1 : decide (0 ≤ l1_1.length) = true := decide_eq_true (by omega)
            clear c41
            by_cases c42 : (l1_1.length : Int) < (x7_2.length : Int)
            ·rw [if_pos c42] at H
             have c42b0 : decide ((l1_1.length : Int) < (x7_2.length : Int)) = true := decide_eq_true c42
             have c42b1 : decide (l1_1.length < x7_2.length) = true := decide_eq_true (Int.ofNat_lt.mp c42)
             clear c42; have HC43 := am_ H; clear H
             obtain ⟨Ao44, co44, eo44⟩ := Kd.R_slice HO_7.out
             subst eo44
             have p153 : 0 ≤ ((l1_1.length : Int) : Int) := of_decide_eq_true (by first | (with_reducible assumption) | assumption)
             have q153 : (l1_1.length : Int) < (x7_2.length : Int) := of_decide_eq_true (by first | (with_reducible assumption) | assumption)
             obtain ⟨ad153, e153, hx153_0⟩ := Kd.at_int (Kd.R_reads' HO_7.out).2.2 (l1_1.length : Int) p153 q153
             cases e153
             (try simp only [Go.IntWalk.toNatUp] at hx153_0)
             replace p153 := eq_true p153
             replace q153 := eq_true q153
             go_upto_block 4 with (fail)
             go_cut [13] (fun v13 wc => ∃ (kq : Nat) (x13_42 : Bool), v13 = .bool x13_42 ∧ Aside0 (spec_l02DivMod.j4 kq (l1_1.length : Int) x7_2 x8_1 x9_1 x13_42 a0_0 l0_1 a1_0 l1_1 = some (r1, r2, r3, r4)) ∧ Aside0 (kq ≤ k2) ∧ Aside0 (Kd.R (Kd.int .i64) 2 wc w.heap.size (fun k_ => some k_ ≠ (v139 : Value).ownBlock) (.slice (some ad153) x7_2.length co44) x7_2) ∧ Aside0 (Kd.R (Kd.int .i64) 2 wc w.heap.size (fun k_ => some k_ ≠ ((.slice (some ad153) x7_2.length co44) : Value).ownBlock) v139 x8_1) ∧ Aside0 (wc.heap[gb131]? = some (.cells #[.int .i64 a0_0, (.slice A0_1 l0_1.length c0_1)] 26 (0, 0))) ∧ Aside0 (wc.heap[gb132]? = some (.cells #[.int .i64 a1_0, (.slice A1_1 l1_1.length c1_1)] 26 (0, 0))) ∧ Aside0 (wc.heap[gb133]? = some (.cells #[.int .i64 0, (.slice none 0 0)] 26 (0, 0))) ∧ Aside0 (wc.heap[gb134]? = some (.cells #[.int .i64 0, (.slice none 0 0)] 26 (0, 0))) ∧ Aside0 (Below w.heap.size w wc))
             case first =>
              have H := HC43.out; clear HC43
              have H' := am_ H
              clear H
              go_wp2
              go_loopg [13, 14] k2 (fun kq v13 v14 w' => ∃ (x13_3 : Bool) (x14_3 : Int), v13 = .bool x13_3 ∧ v14 = .int .i64 x14_3 ∧ Aside0 (spec_l02DivMod.l2 kq (l1_1.length : Int) x7_2 x8_1 x9_1 x13_3 x14_3 a0_0 l0_1 a1_0 l1_1 = some (r1, r2, r3, r4)) ∧ Aside0 (kq ≤ k2) ∧ Aside0 (Kd.R (Kd.int .i64) 2 w' w.heap.size (fun k_ => some k_ ≠ (v139 : Value).ownBlock) (.slice (some ad153) x7_2.length co44) x7_2) ∧ Aside0 (Kd.R (Kd.int .i64) 2 w' w.heap.size (fun k_ => some k_ ≠ ((.slice (some ad153) x7_2.length co44) : Value).ownBlock) v139 x8_1) ∧ Aside0 (w'.heap[gb131]? = some (.cells #[.int .i64 a0_0, (.slice A0_1 l0_1.length c0_1)] 26 (0, 0))) ∧ Aside0 (w'.heap[gb132]? = some (.cells #[.int .i64 a1_0, (.slice A1_1 l1_1.length c1_1)] 26 (0, 0))) ∧ Aside0 (w'.heap[gb133]? = some (.cells #[.int .i64 0, (.slice none 0 0)] 26 (0, 0))) ∧ Aside0 (w'.heap[gb134]? = some (.cells #[.int .i64 0, (.slice none 0 0)] 26 (0, 0))) ∧ Aside0 (Below w.heap.size w w'))
              case atStart => exact ⟨(((rd x7_2 (l1_1.length : Int)) == 0)), (wrap64 ((l1_1.length : Int) - 1)), (by first | rfl | (simp; done) | (simp [*]; done)), (by first | rfl | (simp; done) | (simp [*]; done)), H', ⟨Nat.le_refl _⟩, ⟨kr_ HO_7⟩, ⟨kr_ HO_8⟩, ⟨bk_ BK131⟩, ⟨bk_ BK132⟩, ⟨bk_ BK133⟩, ⟨bk_ BK134⟩, ⟨bl_ HB⟩⟩
              case round =>
               clear H'; try clear c4; try clear c4b0; try clear c4b1; try clear c5; try clear c5b0; try clear c5b1; try clear c6; try clear c6b0; try clear c6b1; try clear c7; try clear c7b0; try clear c7b1; try clear c27; try clear c27b0; try clear c34; try clear c34b0; try clear c35; try clear c41; try clear c41b0; try clear c41b1; try clear c42; try clear c42b0; try clear c42b1; try clear hcz16_0; try clear hcz16_1; try clear hcz25_0; try clear hcz25_1; try clear hcz32_0; try clear hcz32_1; try clear hfz16_0; try clear hfz16_1; try clear hfz25_0; try clear hfz25_1; try clear hfz32_0; try clear hfz32_1; try clear hx153_0; try clear p153; try clear q153
               obtain ⟨x13_3, x14_3, rfl, rfl, HA, HK3, HO_7, HO_8, BK131, BK132, BK133, BK134, HB⟩ := hrel
               cases gk with
               | zero => exact absurd HA.out (by simp [spec_l02DivMod.l2])
               | succ k3 =>
                have H := HA.out; clear HA
                simp only [spec_l02DivMod.l2] at H
                have HC45 := am_ H; clear H
                go_upto_region 15 with (fail)
                go_cut [68] (fun v68 wc => ∃ (kq : Nat) (x68_44 : Bool), v68 = .bool x68_44 ∧ Aside0 (spec_l02DivMod.j3 kq (l1_1.length : Int) x7_2 x8_1 x9_1 x13_3 x14_3 x68_44 a0_0 l0_1 a1_0 l1_1 = some (r1, r2, r3, r4)) ∧ Aside0 (kq ≤ k3) ∧ Aside0 (Kd.R (Kd.int .i64) 2 wc w.heap.size (fun k_ => some k_ ≠ (v139 : Value).ownBlock) (.slice (some ad153) x7_2.length co44) x7_2) ∧ Aside0 (Kd.R (Kd.int .i64) 2 wc w.heap.size (fun k_ => some k_ ≠ ((.slice (some ad153) x7_2.length co44) : Value).ownBlock) v139 x8_1) ∧ Aside0 (wc.heap[gb131]? = some (.cells #[.int .i64 a0_0, (.slice A0_1 l0_1.length c0_1)] 26 (0, 0))) ∧ Aside0 (wc.heap[gb132]? = some (.cells #[.int .i64 a1_0, (.slice A1_1 l1_1.length c1_1)] 26 (0, 0))) ∧ Aside0 (wc.heap[gb133]? = some (.cells #[.int .i64 0, (.slice none 0 0)] 26 (0, 0))) ∧ Aside0 (wc.heap[gb134]? = some (.cells #[.int .i64 0, (.slice none 0 0)] 26 (0, 0))) ∧ Aside0 (Below w.heap.size w wc))
                case first =>
                 have H := HC45.out; clear HC45
                 by_cases c46 : x14_3 ≥ 0
                 ·rw [if_pos c46] at H
                  have c46b0 : decide (0 ≤ x14_3) = true := decide_eq_true c46
                  clear c46
                  (first | rw [c46b0] | (simp only [i64_w, i32_w]; rw [c46b0]) | skip)
                  have H' := am_ H
                  clear H
                  go_wp2
                  go_meet
                  case rel => exact ⟨_, (x13_3), (by first | rfl | (simp; done) | (simp [*]; done)), H', ⟨by have := HK1.out; have := HK2.out; have := HK3.out; first | omega | exact Nat.le_refl _⟩, ⟨kr_ HO_7⟩, ⟨kr_ HO_8⟩, ⟨bk_ BK131⟩, ⟨bk_ BK132⟩, ⟨bk_ BK133⟩, ⟨bk_ BK134⟩, ⟨bl_ HB⟩⟩
                 ·rw [if_neg c46] at H
                  have c46b0 : decide (0 ≤ x14_3) = false := decide_eq_false c46
                  clear c46
                  (first | rw [c46b0] | (simp only [i64_w, i32_w]; rw [c46b0]) | skip)
                  have H' := am_ H
                  clear H
                  go_wp2
                  go_meet
                  case rel => exact ⟨_, (false), (by first | rfl | (simp; done) | (simp [*]; done)), H', ⟨by have := HK1.out; have := HK2.out; have := HK3.out; first | omega | exact Nat.le_refl _⟩, ⟨kr_ HO_7⟩, ⟨kr_ HO_8⟩, ⟨bk_ BK131⟩, ⟨bk_ BK132⟩, ⟨bk_ BK133⟩, ⟨bk_ BK134⟩, ⟨bl_ HB⟩⟩
                case rest =>
                 clear HC45; try clear c4; try clear c4b0; try clear c4b1; try clear c5; try clear c5b0; try clear c5b1; try clear c6; try clear c6b0; try clear c6b1; try clear c7; try clear c7b0; try clear c7b1; try clear c27; try clear c27b0; try clear c34; try clear c34b0; try clear c35; try clear c41; try clear c41b0; try clear c41b1; try clear c42; try clear c42b0; try clear c42b1; try clear c46; try clear hcz16_0; try clear hcz16_1; try clear hcz25_0; try clear hcz25_1; try clear hcz32_0; try clear hcz32_1; try clear hfz16_0; try clear hfz16_1; try clear hfz25_0; try clear hfz25_1; try clear hfz32_0; try clear hfz32_1; try clear hx153_0; try clear p153; try clear q153
                 obtain ⟨kq, x68_44, rfl, HA, HJ44, HO_7, HO_8, BK131, BK132, BK133, BK134, HB⟩ := hcut
                 cases kq with
                 | zero => exact absurd HA.out (by simp [spec_l02DivMod.j3])
                 | succ kj44 =>
                  have H := HA.out; clear HA
                  simp only [spec_l02DivMod.j3] at H
                  by_cases c47 : x68_44 = true
                  ·subst c47
                   have H1 : (if 0 ≤ x14_3 then (if x14_3 < (x7_2.length : Int) then (if x14_3 < (l1_1.length : Int) then (if (rd x7_2 x14_3) = (rd l1_1 x14_3) then (if x14_3 = 0 then (spec_l02DivMod.l2 kj44 (l1_1.length : Int) x7_2 x8_1 x9_1 false (wrap64 (x14_3 - 1)) a0_0 l0_1 a1_0 l1_1) else (spec_l02DivMod.l2 kj44 (l1_1.length : Int) x7_2 x8_1 x9_1 x13_3 (wrap64 (x14_3 - 1)) a0_0 l0_1 a1_0 l1_1)) else (spec_l02DivMod.j4 kj44 (l1_1.length : Int) x7_2 x8_1 x9_1 (decide ((rd x7_2 x14_3) < (rd l1_1 x14_3))) a0_0 l0_1 a1_0 l1_1)) else (none)) else (none)) else (none)) = some (r1, r2, r3, r4) := by rw [if_pos rfl] at H; exact H
                   clear H; have H := H1; clear H1
                   by_cases c48 : 0 ≤ x14_3
                   ·rw [if_pos c48] at H
                    have c48b0 : decide (0 ≤ x14_3) = true := decide_eq_true c48
                    clear c48
                    by_cases c49 : x14_3 < (x7_2.length : Int)
                    ·rw [if_pos c49] at H
                     have c49b0 : decide (x14_3 < (x7_2.length : Int)) = true := decide_eq_true c49
                     clear c49
                     by_cases c50 : x14_3 < (l1_1.length : Int)
                     ·rw [if_pos c50] at H
                      have c50b0 : decide (x14_3 < (l1_1.length : Int)) = true := decide_eq_true c50
                      clear c50
                      have HASIDE := am_ H; clear H
                      try go_wp2
                      replace HO_7 := am_ (Kd.R_drew HO_7.out); replace HO_8 := am_ (Kd.R_drew HO_8.out); replace BK131 := am_ (blk_drew BK131.out); replace BK132 := am_ (blk_drew BK132.out); replace BK133 := am_ (blk_drew BK133.out); replace BK134 := am_ (blk_drew BK134.out); replace HB := am_ (below_drew1 HB.out)
                      have p154 : 0 ≤ (x14_3 : Int) := of_decide_eq_true (by first | (with_reducible assumption) | assumption)
                      have q154 : x14_3 < (x7_2.length : Int) := of_decide_eq_true (by first | (with_reducible assumption) | assumption)
                      obtain ⟨ad154, e154, hx154_0⟩ := Kd.at_int (Kd.R_reads' HO_7.out).2.2 x14_3 p154 q154
                      obtain rfl : ad153 = ad154 := (by injection e154)
                      replace p154 := eq_true p154
                      replace q154 := eq_true q154
                      have p155 : 0 ≤ (x14_3 : Int) := of_decide_eq_true (by first | (with_reducible assumption) | assumption)
                      have q155 : x14_3 < (l1_1.length : Int) := of_decide_eq_true (by first | (with_reducible assumption) | assumption)
                      obtain ⟨ad155, e155, hx155_0⟩ := Kd.at_int HR1_1.out x14_3 p155 q155
                      have hw155_0 := hx155_0
                      cases e155
                      replace hx155_0 := (HB.out.cell (World.block_lt_of_cell? w _ hx155_0)).trans hx155_0
                      replace p155 := eq_true p155
                      replace q155 := eq_true q155
                      refine start_ (n := 10) (S := fun w' => w'.cell? ⟨gb132, 0, none⟩ = some (.int .i64 a1_0) ∧ w'.cell? ⟨gb132, 1, none⟩ = some (.slice (some ad155) l1_1.length c1_1) ∧ w'.cell? (ad153.add (x14_3).toNat) = some (.int .i64 (rd x7_2 x14_3)) ∧ w'.cell? (ad155.add (x14_3).toNat) = some (.int .i64 (rd l1_1 x14_3))) (ds := []) #[false, false, false, false, false, false, false, false, false, false] (by kernel_rfl) rfl rfl ⟨bc_ BK132 0, bc_ BK132 1, hx154_0, ((HB.out.cell (World.block_lt_of_cell? w _ hw155_0)).trans hw155_0)⟩ (fun hHeld => ?_); refine with_tabW spec_l02DivMod.tab17 spec_l02DivMod.bits17 (fun HT_ HW_ => ?_)
                      generalize wc.drew = w53 at HO_7 HO_8 BK131 BK132 BK133 BK134 HB hx154_0 hx155_0 hHeld ⊢
                      refine pu_ #[true, false, false, false, false, false, false, false, false, false] 0 71 (any_of HT_.out (by kernel_rfl)) ?_
                      refine pu_ #[true, true, false, false, false, false, false, false, false, false] 1 72 (any_of HT_.out (by kernel_rfl)) ?_
                      refine pu_ #[true, true, true, false, false, false, false, false, false, false] 2 73 (any_of HT_.out (by kernel_rfl)) ?_
                      refine pu_ #[true, true, true, false, true, false, false, false, false, false] 4 75 (any_of HT_.out (by kernel_rfl)) ?_
                      refine pu_ #[true, true, true, false, true, false, true, false, false, false] 6 77 (any_of HT_.out (by kernel_rfl)) ?_
                      refine tk_ #[true, true, true, true, true, false, true, false, false, false] 3 74 (take_ofW HT_.out HW_.out (by kernel_rfl)) hHeld ?_
                      refine tk_ #[true, true, true, true, true, true, true, false, false, false] 5 76 (take_ofW HT_.out HW_.out (by kernel_rfl)) hHeld ?_
                      refine pu_ #[true, true, true, true, true, true, true, true, false, false] 7 78 (any_of HT_.out (by kernel_rfl)) ?_
                      refine tk_ #[true, true, true, true, true, true, true, true, true, false] 8 79 (take_ofW HT_.out HW_.out (by kernel_rfl)) hHeld ?_
                      refine pu_ #[true, true, true, true, true, true, true, true, true, true] 9 80 (any_of HT_.out (by kernel_rfl)) ?_
                      refine done_ (done_of HT_.out (by kernel_rfl)) ?_
                      have H := HASIDE.out; clear HASIDE
                      by_cases c51 : (rd x7_2 x14_3) = (rd l1_1 x14_3)
                      ·rw [if_pos c51] at H
                       have c51b0 : ((rd x7_2 x14_3) == (rd l1_1 x14_3)) = true := beq_iff_eq.mpr c51
                       have c51b1 : ((rd x7_2 x14_3) != (rd l1_1 x14_3)) = false := bne_eq_false_iff_eq.mpr c51
                       clear c51
                       by_cases c52 : x14_3 = 0
                       ·rw [if_pos c52] at H
                        have c52b0 : (x14_3 == 0) = true := beq_iff_eq.mpr c52
                        have c52b1 : (x14_3 != 0) = false := bne_eq_false_iff_eq.mpr c52
                        clear c52
                        have H' := am_ H
                        clear H
                        try go_wp2
                        go_roundg kj44
                        case measure => have := HK1.out; have := HK2.out; have := HK3.out; have := HJ44.out; omega
                        case rel => exact ⟨(false), (wrap64 (x14_3 - 1)), (by first | rfl | (simp; done) | (simp [*]; done)), (by first | rfl | (simp; done) | (simp [*]; done)), H', ⟨by have := HK1.out; have := HK2.out; have := HK3.out; have := HJ44.out; omega⟩, ⟨kr_ HO_7⟩, ⟨kr_ HO_8⟩, ⟨bk_ BK131⟩, ⟨bk_ BK132⟩, ⟨bk_ BK133⟩, ⟨bk_ BK134⟩, ⟨bl_ HB⟩⟩
                       ·rw [if_neg c52] at H
                        have c52b0 : (x14_3 == 0) = false := beq_eq_false_iff_ne.mpr c52
                        have c52b1 : (x14_3 != 0) = true := bne_iff_ne.mpr c52
                        have H' := am_ H
                        clear H
                        try go_wp2
                        go_roundg kj44
                        case measure => have := HK1.out; have := HK2.out; have := HK3.out; have := HJ44.out; omega
                        case rel => exact ⟨(x13_3), (wrap64 (x14_3 - 1)), (by first | rfl | (simp; done) | (simp [*]; done)), (by first | rfl | (simp; done) | (simp [*]; done)), H', ⟨by have := HK1.out; have := HK2.out; have := HK3.out; have := HJ44.out; omega⟩, ⟨kr_ HO_7⟩, ⟨kr_ HO_8⟩, ⟨bk_ BK131⟩, ⟨bk_ BK132⟩, ⟨bk_ BK133⟩, ⟨bk_ BK134⟩, ⟨bl_ HB⟩⟩
                      ·rw [if_neg c51] at H
                       have c51b0 : ((rd x7_2 x14_3) == (rd l1_1 x14_3)) = false := beq_eq_false_iff_ne.mpr c51
                       have c51b1 : ((rd x7_2 x14_3) != (rd l1_1 x14_3)) = true := bne_iff_ne.mpr c51
                       have H' := am_ H
                       clear H
                       try go_wp2
                       replace HO_7 := am_ (Kd.R_drew HO_7.out); replace HO_8 := am_ (Kd.R_drew HO_8.out); replace BK131 := am_ (blk_drew BK131.out); replace BK132 := am_ (blk_drew BK132.out); replace BK133 := am_ (blk_drew BK133.out); replace BK134 := am_ (blk_drew BK134.out); replace HB := am_ (below_drew1 HB.out)
                       have p156 : 0 ≤ (x14_3 : Int) := of_decide_eq_true (by first | (with_reducible assumption) | assumption)
                       have q156 : x14_3 < (x7_2.length : Int) := of_decide_eq_true (by first | (with_reducible assumption) | assumption)
                       obtain ⟨ad156, e156, hx156_0⟩ := Kd.at_int (Kd.R_reads' HO_7.out).2.2 x14_3 p156 q156
                       obtain rfl : ad153 = ad156 := (by injection e156)
                       replace p156 := eq_true p156
                       replace q156 := eq_true q156
                       have p157 : 0 ≤ (x14_3 : Int) := of_decide_eq_true (by first | (with_reducible assumption) | assumption)
                       have q157 : x14_3 < (l1_1.length : Int) := of_decide_eq_true (by first | (with_reducible assumption) | assumption)
                       obtain ⟨ad157, e157, hx157_0⟩ := Kd.at_int HR1_1.out x14_3 p157 q157
                       have hw157_0 := hx157_0
                       obtain rfl : ad155 = ad157 := (by injection e157)
                       replace hx157_0 := (HB.out.cell (World.block_lt_of_cell? w _ hx157_0)).trans hx157_0
                       replace p157 := eq_true p157
                       replace q157 := eq_true q157
                       refine start_ (n := 11) (S := fun w' => w'.cell? ⟨gb132, 0, none⟩ = some (.int .i64 a1_0) ∧ w'.cell? ⟨gb132, 1, none⟩ = some (.slice (some ad155) l1_1.length c1_1) ∧ w'.cell? (ad153.add (x14_3).toNat) = some (.int .i64 (rd x7_2 x14_3)) ∧ w'.cell? (ad155.add (x14_3).toNat) = some (.int .i64 (rd l1_1 x14_3))) (ds := []) #[false, false, false, false, false, false, false, false, false, false, false] (by kernel_rfl) rfl rfl ⟨bc_ BK132 0, bc_ BK132 1, hx156_0, ((HB.out.cell (World.block_lt_of_cell? w _ hw157_0)).trans hw157_0)⟩ (fun hHeld => ?_); refine with_tabW spec_l02DivMod.tab18 spec_l02DivMod.bits18 (fun HT_ HW_ => ?_)
                       generalize w53.drew = w56 at HO_7 HO_8 BK131 BK132 BK133 BK134 HB hx156_0 hx157_0 hHeld ⊢
                       refine pu_ #[true, false, false, false, false, false, false, false, false, false, false] 0 81 (any_of HT_.out (by kernel_rfl)) ?_
                       refine pu_ #[true, true, false, false, false, false, false, false, false, false, false] 1 82 (any_of HT_.out (by kernel_rfl)) ?_
                       refine pu_ #[true, true, true, false, false, false, false, false, false, false, false] 2 83 (any_of HT_.out (by kernel_rfl)) ?_
                       refine pu_ #[true, true, true, false, true, false, false, false, false, false, false] 4 85 (any_of HT_.out (by kernel_rfl)) ?_
                       refine pu_ #[true, true, true, false, true, false, true, false, false, false, false] 6 87 (any_of HT_.out (by kernel_rfl)) ?_
                       refine tk_ #[true, true, true, true, true, false, true, false, false, false, false] 3 84 (take_ofW HT_.out HW_.out (by kernel_rfl)) hHeld ?_
                       refine tk_ #[true, true, true, true, true, true, true, false, false, false, false] 5 86 (take_ofW HT_.out HW_.out (by kernel_rfl)) hHeld ?_
                       refine pu_ #[true, true, true, true, true, true, true, true, false, false, false] 7 88 (any_of HT_.out (by kernel_rfl)) ?_
                       refine tk_ #[true, true, true, true, true, true, true, true, true, false, false] 8 89 (take_ofW HT_.out HW_.out (by kernel_rfl)) hHeld ?_
                       refine pu_ #[true, true, true, true, true, true, true, true, true, true, false] 9 90 (any_of HT_.out (by kernel_rfl)) ?_
                       refine pu_ #[true, true, true, true, true, true, true, true, true, true, true] 10 13 (any_of HT_.out (by kernel_rfl)) ?_
                       refine done_ (done_of HT_.out (by kernel_rfl)) ?_
                       try go_wp2
                       go_meet
                       case rel => exact ⟨_, (decide ((rd x7_2 x14_3) < (rd l1_1 x14_3))), (by first | rfl | (simp; done) | (simp [*]; done)), H', ⟨by have := HK1.out; have := HK2.out; have := HK3.out; have := HJ44.out; first | omega | exact Nat.le_refl _⟩, ⟨kr_ HO_7⟩, ⟨kr_ HO_8⟩, ⟨bk_ BK131⟩, ⟨bk_ BK132⟩, ⟨bk_ BK133⟩, ⟨bk_ BK134⟩, ⟨bl_ HB⟩⟩
                     ·rw [if_neg c50] at H
                      exact absurd H (by simp)
                    ·rw [if_neg c49] at H
                     exact absurd H (by simp)
                   ·rw [if_neg c48] at H
                    exact absurd H (by simp)
                  ·replace c47 := Bool.eq_false_iff.mpr c47
                   subst c47
                   have H1 : (spec_l02DivMod.j4 kj44 (l1_1.length : Int) x7_2 x8_1 x9_1 x13_3 a0_0 l0_1 a1_0 l1_1) = some (r1, r2, r3, r4) := by rw [if_neg (show ¬ (false = true) by decide)] at H; exact H
                   clear H; have H := H1; clear H1
                   have H' := am_ H
                   clear H
                   go_wp2
                   go_meet
                   case rel => exact ⟨_, (x13_3), (by first | rfl | (simp; done) | (simp [*]; done)), H', ⟨by have := HK1.out; have := HK2.out; have := HK3.out; have := HJ44.out; first | omega | exact Nat.le_refl _⟩, ⟨kr_ HO_7⟩, ⟨kr_ HO_8⟩, ⟨bk_ BK131⟩, ⟨bk_ BK132⟩, ⟨bk_ BK133⟩, ⟨bk_ BK134⟩, ⟨bl_ HB⟩⟩
             case rest =>
              clear HC43; try clear c4; try clear c5; try clear c42; try clear c42b0; try clear c42b1; try clear hcz16_0; try clear hcz16_1; try clear hcz25_0; try clear hcz25_1; try clear hcz32_0; try clear hcz32_1; try clear hfz16_0; try clear hfz16_1; try clear hfz25_0; try clear hfz25_1; try clear hfz32_0; try clear hfz32_1; try clear hx153_0; try clear p153; try clear q153
              obtain ⟨kq, x13_42, rfl, HA, HJ42, HO_7, HO_8, BK131, BK132, BK133, BK134, HB⟩ := hcut
              cases kq with
              | zero => exact absurd HA.out (by simp [spec_l02DivMod.j4])
              | succ kj42 =>
               have H := HA.out; clear HA
               simp only [spec_l02DivMod.j4] at H
               by_cases c57 : x13_42 = true
               ·subst c57
                have H1 : (spec_l02DivMod.l0 kj42 (l1_1.length : Int) x7_2 x8_1 (wrap64 (x9_1 - 1)) a0_0 l0_1 a1_0 l1_1) = some (r1, r2, r3, r4) := by rw [if_pos rfl] at H; exact H
                clear H; have H := H1; clear H1
                have H' := am_ H
                clear H
                go_wp2
                go_roundg kj42
                case measure => have := HK1.out; have := HK2.out; have := HJ42.out; omega
                case rel => exact ⟨(x7_2), (x8_1), (wrap64 (x9_1 - 1)), (by first | rfl | (simp; done) | (simp [*]; done)), H', ⟨by have := HK1.out; have := HK2.out; have := HJ42.out; omega⟩, ⟨kr_ HO_7⟩, ⟨kr_ HO_8⟩, ⟨bk_ BK131⟩, ⟨bk_ BK132⟩, ⟨bk_ BK133⟩, ⟨bk_ BK134⟩, ⟨bl_ HB⟩⟩
               ·replace c57 := Bool.eq_false_iff.mpr c57
                subst c57
                have H1 : (spec_l02DivMod.l3 kj42 (l1_1.length : Int) x7_2 x8_1 x9_1 0 0 a0_0 l0_1 a1_0 l1_1) = some (r1, r2, r3, r4) := by rw [if_neg (show ¬ (false = true) by decide)] at H; exact H
                clear H; have H := H1; clear H1
                have H' := am_ H
                clear H
                go_wp2
                try generalize ad153.add l1_1.length = pq59
                go_loopg [15, 16] kj42 (fun kq v15 v16 w' => ∃ (x7_4 : List Int) (x15_4 : Int) (x16_4 : Int), v15 = .int .i64 x15_4 ∧ v16 = .int .i64 x16_4 ∧ Aside0 (spec_l02DivMod.l3 kq (l1_1.length : Int) x7_4 x8_1 x9_1 x15_4 x16_4 a0_0 l0_1 a1_0 l1_1 = some (r1, r2, r3, r4)) ∧ Aside0 (kq ≤ kj42) ∧ Aside0 (Kd.R (Kd.int .i64) 2 w' w.heap.size (fun k_ => some k_ ≠ (v139 : Value).ownBlock) (.slice (some ad153) x7_2.length co44) x7_4) ∧ Aside0 (Kd.R (Kd.int .i64) 2 w' w.heap.size (fun k_ => some k_ ≠ ((.slice (some ad153) x7_2.length co44) : Value).ownBlock) v139 x8_1) ∧ Aside0 (w'.heap[gb131]? = some (.cells #[.int .i64 a0_0, (.slice A0_1 l0_1.length c0_1)] 26 (0, 0))) ∧ Aside0 (w'.heap[gb132]? = some (.cells #[.int .i64 a1_0, (.slice A1_1 l1_1.length c1_1)] 26 (0, 0))) ∧ Aside0 (w'.heap[gb133]? = some (.cells #[.int .i64 0, (.slice none 0 0)] 26 (0, 0))) ∧ Aside0 (w'.heap[gb134]? = some (.cells #[.int .i64 0, (.slice none 0 0)] 26 (0, 0))) ∧ Aside0 (Below w.heap.size w w'))
                case atStart => exact ⟨(x7_2), (0), (0), (by first | rfl | (simp; done) | (simp [*]; done)), (by first | rfl | (simp; done) | (simp [*]; done)), H', ⟨Nat.le_refl _⟩, ⟨kr_ HO_7⟩, ⟨kr_ HO_8⟩, ⟨bk_ BK131⟩, ⟨bk_ BK132⟩, ⟨bk_ BK133⟩, ⟨bk_ BK134⟩, ⟨bl_ HB⟩⟩
                case round =>
                 clear H'; try clear c4; try clear c5; try clear c42; try clear c42b0; try clear c42b1; try clear c57; try clear hcz16_0; try clear hcz16_1; try clear hcz25_0; try clear hcz25_1; try clear hcz32_0; try clear hcz32_1; try clear hfz16_0; try clear hfz16_1; try clear hfz25_0; try clear hfz25_1; try clear hfz32_0; try clear hfz32_1; try clear hx153_0; try clear p153; try clear q153
                 obtain ⟨x7_4, x15_4, x16_4, rfl, rfl, HA, HK4, HO_7, HO_8, BK131, BK132, BK133, BK134, HB⟩ := hrel
                 have hl7_4 := (Kd.R_reads' HO_7.out).1
                 rw [hl7_4] at HO_7
                 (try simp only [hl7_4])
                 (try simp only [hl7_4] at BK131)
                 (try simp only [hl7_4] at BK132)
                 (try simp only [hl7_4] at BK133)
                 (try simp only [hl7_4] at BK134)
                 (try simp only [hl7_4] at HO_8)
                 cases gk with
                 | zero => exact absurd HA.out (by simp [spec_l02DivMod.l3])
                 | succ k4 =>
                  have H := HA.out; clear HA
                  simp only [spec_l02DivMod.l3] at H
                  by_cases c58 : x16_4 ≤ (l1_1.length : Int)
                  ·rw [if_pos c58] at H
                   have c58b0 : decide (x16_4 ≤ (l1_1.length : Int)) = true := decide_eq_true c58
                   clear c58
                   by_cases c59 : 0 ≤ x16_4
                   ·rw [if_pos c59] at H
                    have c59b0 : decide (0 ≤ x16_4) = true := decide_eq_true c59
                    clear c59
                    by_cases c60 : x16_4 < (x7_4.length : Int)
                    ·rw [if_pos c60] at H
                     have c60b0 : decide (x16_4 < (x7_4.length : Int)) = true := decide_eq_true c60
                     clear c60
                     by_cases c61 : x16_4 < (l1_1.length : Int)
                     ·rw [if_pos c61] at H
                      have c61b0 : decide (x16_4 < (l1_1.length : Int)) = true := decide_eq_true c61
                      clear c61
                      by_cases c62 : x16_4 < (l1_1.length : Int)
                      ·rw [if_pos c62] at H
                       have c62b0 : decide (x16_4 < (l1_1.length : Int)) = true := decide_eq_true c62
                       clear c62
                       by_cases c63 : (wrap64 ((wrap64 ((rd x7_4 x16_4) - x15_4)) - (rd l1_1 x16_4))) < 0
                       ·rw [if_pos c63] at H
                        have c63b0 : decide ((wrap64 ((wrap64 ((rd x7_4 x16_4) - x15_4)) - (rd l1_1 x16_4))) < 0) = true := decide_eq_true c63
                        clear c63
                        obtain ⟨y162, hy162⟩ : ∃ y_ : List Int, y_ = (x7_4.set (x16_4 : Int).toNat (wrap64 ((wrap64 ((wrap64 ((rd x7_4 x16_4) - x15_4)) - (rd l1_1 x16_4))) + 16777216))) := ⟨_, rfl⟩
                        replace H : (spec_l02DivMod.l3 k4 (l1_1.length : Int) y162 x8_1 x9_1 1 (wrap64 (x16_4 + 1)) a0_0 l0_1 a1_0 l1_1) = some (r1, r2, r3, r4) := by first | (rw [hy162]; with_reducible exact H) | (have H2_ := (Option.bind_some _ _).symm.trans H; rw [hy162]; with_reducible exact H2_) | (have H2_ := (Option.bind_some _ _).symm.trans H; with_reducible exact H2_) | with_reducible exact H | (rw [hy162]; exact H) | exact H
                        have Ny162 := am_ hy162; clear hy162
                        have H' := am_ H
                        clear H
                        have p160 : 0 ≤ (x16_4 : Int) := of_decide_eq_true (by first | (with_reducible assumption) | assumption)
                        have q160 : x16_4 < (x7_4.length : Int) := of_decide_eq_true (by first | (with_reducible assumption) | assumption)
                        obtain ⟨ad160, e160, hx160_0⟩ := Kd.at_int (Kd.R_reads' HO_7.out).2.2 x16_4 p160 q160
                        obtain rfl : ad153 = ad160 := (by injection e160)
                        replace p160 := eq_true p160
                        replace q160 := eq_true q160
                        have hnb65 := NB132_131.out; have hnc65 := NB131_132.out; have hnb66 := NB132_133.out; have hnc66 := NB133_132.out; have hnb67 := NB132_134.out; have hnc67 := NB134_132.out
                        obtain ⟨hcz68_0, hcz68_1, hfz68_0, hfz68_1⟩ := ck2_ BK132
                        have p161 : 0 ≤ (x16_4 : Int) := of_decide_eq_true (by first | (with_reducible assumption) | assumption)
                        have q161 : x16_4 < (l1_1.length : Int) := of_decide_eq_true (by first | (with_reducible assumption) | assumption)
                        obtain ⟨ad161, e161, hx161_0⟩ := Kd.at_int HR1_1.out x16_4 p161 q161
                        cases e161
                        replace hx161_0 := (HB.out.cell (World.block_lt_of_cell? w _ hx161_0)).trans hx161_0
                        replace p161 := eq_true p161
                        replace q161 := eq_true q161
                        have p64 : 0 ≤ (x16_4 : Int) := of_decide_eq_true (by first | (with_reducible assumption) | assumption)
                        have q64 : (x16_4 : Int) < ((x7_4.length : Int) : Int) := of_decide_eq_true (by first | (with_reducible assumption) | assumption)
                        obtain ⟨go64, co64, eo64, gb64, gl64, cl64, HG64⟩ := Kd.R_form HO_7.out (by omega)
                        (first | cases eo64 | (injection eo64 with ea_ en_ ec_; (first | subst ea_ | (injection ea_ with ea_; subst ea_)); subst ec_; clear en_))
                        have GB64 := am_ gb64; have GG64 := am_ HG64; clear gb64 gl64 HG64
                        (first | simp only [add_plain] at hx153_0 | skip)
                        (first | simp only [add_plain] at hx154_0 | skip)
                        (first | simp only [add_plain] at hx156_0 | skip)
                        (first | simp only [add_plain] at hx160_0 | skip)
                        obtain ⟨hx64_0, hf64_0⟩ := Kd.R_celln 0 HO_7.out (x16_4 : Int) p64 q64
                        replace p64 := eq_true p64
                        replace q64 := eq_true q64
                        have HP69 := Kd.R_putg HO_7.out (x16_4 : Int) (wrap64 ((wrap64 ((wrap64 ((rd x7_4 x16_4) - x15_4)) - (rd l1_1 x16_4))) + 16777216))
                        go_wp2_with (first | ((with_reducible refine gate_store (t := 2) (p := 122) rfl ?_); refine store_event (t := 2) (p := 122) (v := ?vo_w70) (w1 := (wr.setCell ⟨go64, (x16_4 : Int).toNat, none⟩ (.int .i64 (wrap64 ((wrap64 ((wrap64 ((rd x7_4 x16_4) - x15_4)) - (rd l1_1 x16_4))) + 16777216))))) ?hg ?ho ?hn ?hr ?_; (case ho => rfl); (case hg => rfl); (case hn => rfl); (case hr => first | (go_simp; done) | (go_simp; rfl)); intro w70 hw; have hg : wr.grownBy w70 (some go64) := (by rw [hw]; exact HP69.2); have hp_ : Kd.R (Kd.int .i64) 2 w70 w.heap.size (fun k_ => some k_ ≠ (v139 : Value).ownBlock) (.slice (some ⟨go64, 0, none⟩) x7_4.length co44) y162 := (by rw [hw, Ny162.out]; exact HP69.1); clear HP69; have n0_ := am_ (hp_); have n1_ := am_ (Kd.R_after (v := (.slice (some ⟨go64, 0, none⟩) x7_4.length co44)) (v1 := (.slice (some ⟨go64, 0, none⟩) x7_4.length co44)) (ok := (fun _ => True)) (km_ HO_8 (fun _ hk => ⟨trivial, hk⟩)) hg (.inl rfl)); have n2_ := am_ (blk_grown (g := gb131) (o := .cells #[.int .i64 a0_0, .slice A0_1 l0_1.length c0_1] 26 (0, 0)) (bk_ BK131) hg (Kd.R_ne HO_7.out BK131.out (by decide))); have n3_ := am_ (blk_grown (g := gb132) (o := .cells #[.int .i64 a1_0, .slice (some ad161) l1_1.length c1_1] 26 (0, 0)) (bk_ BK132) hg (Kd.R_ne HO_7.out BK132.out (by decide))); have n4_ := am_ (blk_grown (g := gb133) (o := .cells #[.int .i64 0, .slice none 0 0] 26 (0, 0)) (bk_ BK133) hg (Kd.R_ne HO_7.out BK133.out (by decide))); have n5_ := am_ (blk_grown (g := gb134) (o := .cells #[.int .i64 0, .slice none 0 0] 26 (0, 0)) (bk_ BK134) hg (Kd.R_ne HO_7.out BK134.out (by decide))); have n6_ := am_ ((by rw [hw]; exact below_set (HB.out) GB64.out : Below w.heap.size w w70)); clear HO_7; clear HO_8; clear BK131; clear BK132; clear BK133; clear BK134; clear HB; have HO_7 := n0_; have HO_8 := n1_; have BK131 := n2_; have BK132 := n3_; have BK133 := n4_; have BK134 := n5_; have HB := n6_; clear n0_ n1_ n2_ n3_ n4_ n5_ n6_; clear hg hw hp_))
                        (try simp only [← hl7_4])
                        go_roundg k4
                        case measure => have := HK1.out; have := HK2.out; have := HJ42.out; have := HK4.out; omega
                        case rel => exact ⟨(y162), (1), (wrap64 (x16_4 + 1)), (by first | rfl | (simp; done) | (simp [*]; done)), (by first | rfl | (simp; done) | (simp [*]; done)), H', ⟨by have := HK1.out; have := HK2.out; have := HJ42.out; have := HK4.out; omega⟩, ⟨by (try simp only [hl7_4]); (with_reducible repeat (first | apply Kd.R_alloc | apply Kd.R_drewN | apply Kd.R_drew)); exact HO_7.out⟩, ⟨by (try simp only [hl7_4]); (with_reducible repeat (first | apply Kd.R_alloc | apply Kd.R_drewN | apply Kd.R_drew)); exact Kd.R_mono HO_8.out (fun _ hk => hk.2)⟩, ⟨by (try simp only [hl7_4]); (with_reducible repeat (first | refine blk_drewN ?_ _ | refine blk_drew ?_ | refine blk_alloc ?_ _)); exact BK131.out⟩, ⟨by (try simp only [hl7_4]); (with_reducible repeat (first | refine blk_drewN ?_ _ | refine blk_drew ?_ | refine blk_alloc ?_ _)); exact BK132.out⟩, ⟨by (try simp only [hl7_4]); (with_reducible repeat (first | refine blk_drewN ?_ _ | refine blk_drew ?_ | refine blk_alloc ?_ _)); exact BK133.out⟩, ⟨by (try simp only [hl7_4]); (with_reducible repeat (first | refine blk_drewN ?_ _ | refine blk_drew ?_ | refine blk_alloc ?_ _)); exact BK134.out⟩, ⟨bl_ HB⟩⟩
                       ·rw [if_neg c63] at H
                        have c63b0 : decide ((wrap64 ((wrap64 ((rd x7_4 x16_4) - x15_4)) - (rd l1_1 x16_4))) < 0) = false := decide_eq_false c63
                        clear c63
                        obtain ⟨y163, hy163⟩ : ∃ y_ : List Int, y_ = (x7_4.set (x16_4 : Int).toNat (wrap64 ((wrap64 ((rd x7_4 x16_4) - x15_4)) - (rd l1_1 x16_4)))) := ⟨_, rfl⟩
                        replace H : (spec_l02DivMod.l3 k4 (l1_1.length : Int) y163 x8_1 x9_1 0 (wrap64 (x16_4 + 1)) a0_0 l0_1 a1_0 l1_1) = some (r1, r2, r3, r4) := by first | (rw [hy163]; with_reducible exact H) | (have H2_ := (Option.bind_some _ _).symm.trans H; rw [hy163]; with_reducible exact H2_) | (have H2_ := (Option.bind_some _ _).symm.trans H; with_reducible exact H2_) | with_reducible exact H | (rw [hy163]; exact H) | exact H
                        have Ny163 := am_ hy163; clear hy163
                        have H' := am_ H
                        clear H
                        have p160 : 0 ≤ (x16_4 : Int) := of_decide_eq_true (by first | (with_reducible assumption) | assumption)
                        have q160 : x16_4 < (x7_4.length : Int) := of_decide_eq_true (by first | (with_reducible assumption) | assumption)
                        obtain ⟨ad160, e160, hx160_0⟩ := Kd.at_int (Kd.R_reads' HO_7.out).2.2 x16_4 p160 q160
                        obtain rfl : ad153 = ad160 := (by injection e160)
                        replace p160 := eq_true p160
                        replace q160 := eq_true q160
                        have hnb72 := NB132_131.out; have hnc72 := NB131_132.out; have hnb73 := NB132_133.out; have hnc73 := NB133_132.out; have hnb74 := NB132_134.out; have hnc74 := NB134_132.out
                        obtain ⟨hcz75_0, hcz75_1, hfz75_0, hfz75_1⟩ := ck2_ BK132
                        have p161 : 0 ≤ (x16_4 : Int) := of_decide_eq_true (by first | (with_reducible assumption) | assumption)
                        have q161 : x16_4 < (l1_1.length : Int) := of_decide_eq_true (by first | (with_reducible assumption) | assumption)
                        obtain ⟨ad161, e161, hx161_0⟩ := Kd.at_int HR1_1.out x16_4 p161 q161
                        cases e161
                        replace hx161_0 := (HB.out.cell (World.block_lt_of_cell? w _ hx161_0)).trans hx161_0
                        replace p161 := eq_true p161
                        replace q161 := eq_true q161
                        have p71 : 0 ≤ (x16_4 : Int) := of_decide_eq_true (by first | (with_reducible assumption) | assumption)
                        have q71 : (x16_4 : Int) < ((x7_4.length : Int) : Int) := of_decide_eq_true (by first | (with_reducible assumption) | assumption)
                        obtain ⟨go71, co71, eo71, gb71, gl71, cl71, HG71⟩ := Kd.R_form HO_7.out (by omega)
                        (first | cases eo71 | (injection eo71 with ea_ en_ ec_; (first | subst ea_ | (injection ea_ with ea_; subst ea_)); subst ec_; clear en_))
                        have GB71 := am_ gb71; have GG71 := am_ HG71; clear gb71 gl71 HG71
                        (first | simp only [add_plain] at hx160_0 | skip)
                        obtain ⟨hx71_0, hf71_0⟩ := Kd.R_celln 0 HO_7.out (x16_4 : Int) p71 q71
                        replace p71 := eq_true p71
                        replace q71 := eq_true q71
                        have HP76 := Kd.R_putg HO_7.out (x16_4 : Int) (wrap64 ((wrap64 ((rd x7_4 x16_4) - x15_4)) - (rd l1_1 x16_4)))
                        go_wp2_with (first | ((with_reducible refine gate_store (t := 2) (p := 122) rfl ?_); refine store_event (t := 2) (p := 122) (v := ?vo_w77) (w1 := (wr.setCell ⟨go71, (x16_4 : Int).toNat, none⟩ (.int .i64 (wrap64 ((wrap64 ((rd x7_4 x16_4) - x15_4)) - (rd l1_1 x16_4)))))) ?hg ?ho ?hn ?hr ?_; (case ho => rfl); (case hg => rfl); (case hn => rfl); (case hr => first | (go_simp; done) | (go_simp; rfl)); intro w77 hw; have hg : wr.grownBy w77 (some go71) := (by rw [hw]; exact HP76.2); have hp_ : Kd.R (Kd.int .i64) 2 w77 w.heap.size (fun k_ => some k_ ≠ (v139 : Value).ownBlock) (.slice (some ⟨go71, 0, none⟩) x7_4.length co44) y163 := (by rw [hw, Ny163.out]; exact HP76.1); clear HP76; have n0_ := am_ (hp_); have n1_ := am_ (Kd.R_after (v := (.slice (some ⟨go71, 0, none⟩) x7_4.length co44)) (v1 := (.slice (some ⟨go71, 0, none⟩) x7_4.length co44)) (ok := (fun _ => True)) (km_ HO_8 (fun _ hk => ⟨trivial, hk⟩)) hg (.inl rfl)); have n2_ := am_ (blk_grown (g := gb131) (o := .cells #[.int .i64 a0_0, .slice A0_1 l0_1.length c0_1] 26 (0, 0)) (bk_ BK131) hg (Kd.R_ne HO_7.out BK131.out (by decide))); have n3_ := am_ (blk_grown (g := gb132) (o := .cells #[.int .i64 a1_0, .slice (some ad161) l1_1.length c1_1] 26 (0, 0)) (bk_ BK132) hg (Kd.R_ne HO_7.out BK132.out (by decide))); have n4_ := am_ (blk_grown (g := gb133) (o := .cells #[.int .i64 0, .slice none 0 0] 26 (0, 0)) (bk_ BK133) hg (Kd.R_ne HO_7.out BK133.out (by decide))); have n5_ := am_ (blk_grown (g := gb134) (o := .cells #[.int .i64 0, .slice none 0 0] 26 (0, 0)) (bk_ BK134) hg (Kd.R_ne HO_7.out BK134.out (by decide))); have n6_ := am_ ((by rw [hw]; exact below_set (HB.out) GB71.out : Below w.heap.size w w77)); clear HO_7; clear HO_8; clear BK131; clear BK132; clear BK133; clear BK134; clear HB; have HO_7 := n0_; have HO_8 := n1_; have BK131 := n2_; have BK132 := n3_; have BK133 := n4_; have BK134 := n5_; have HB := n6_; clear n0_ n1_ n2_ n3_ n4_ n5_ n6_; clear hg hw hp_))
                        (try simp only [← hl7_4])
                        go_roundg k4
                        case measure => have := HK1.out; have := HK2.out; have := HJ42.out; have := HK4.out; omega
                        case rel => exact ⟨(y163), (0), (wrap64 (x16_4 + 1)), (by first | rfl | (simp; done) | (simp [*]; done)), (by first | rfl | (simp; done) | (simp [*]; done)), H', ⟨by have := HK1.out; have := HK2.out; have := HJ42.out; have := HK4.out; omega⟩, ⟨by (try simp only [hl7_4]); (with_reducible repeat (first | apply Kd.R_alloc | apply Kd.R_drewN | apply Kd.R_drew)); exact HO_7.out⟩, ⟨by (try simp only [hl7_4]); (with_reducible repeat (first | apply Kd.R_alloc | apply Kd.R_drewN | apply Kd.R_drew)); exact Kd.R_mono HO_8.out (fun _ hk => hk.2)⟩, ⟨by (try simp only [hl7_4]); (with_reducible repeat (first | refine blk_drewN ?_ _ | refine blk_drew ?_ | refine blk_alloc ?_ _)); exact BK131.out⟩, ⟨by (try simp only [hl7_4]); (with_reducible repeat (first | refine blk_drewN ?_ _ | refine blk_drew ?_ | refine blk_alloc ?_ _)); exact BK132.out⟩, ⟨by (try simp only [hl7_4]); (with_reducible repeat (first | refine blk_drewN ?_ _ | refine blk_drew ?_ | refine blk_alloc ?_ _)); exact BK133.out⟩, ⟨by (try simp only [hl7_4]); (with_reducible repeat (first | refine blk_drewN ?_ _ | refine blk_drew ?_ | refine blk_alloc ?_ _)); exact BK134.out⟩, ⟨bl_ HB⟩⟩
                      ·rw [if_neg c62] at H
                       exact absurd H (by simp)
                     ·rw [if_neg c61] at H
                      have c61b0 : decide (x16_4 < (l1_1.length : Int)) = false := decide_eq_false c61
                      clear c61
                      by_cases c78 : (wrap64 ((rd x7_4 x16_4) - x15_4)) < 0
                      ·rw [if_pos c78] at H
                       have c78b0 : decide ((wrap64 ((rd x7_4 x16_4) - x15_4)) < 0) = true := decide_eq_true c78
                       clear c78
                       obtain ⟨y164, hy164⟩ : ∃ y_ : List Int, y_ = (x7_4.set (x16_4 : Int).toNat (wrap64 ((wrap64 ((rd x7_4 x16_4) - x15_4)) + 16777216))) := ⟨_, rfl⟩
                       replace H : (spec_l02DivMod.l3 k4 (l1_1.length : Int) y164 x8_1 x9_1 1 (wrap64 (x16_4 + 1)) a0_0 l0_1 a1_0 l1_1) = some (r1, r2, r3, r4) := by first | (rw [hy164]; with_reducible exact H) | (have H2_ := (Option.bind_some _ _).symm.trans H; rw [hy164]; with_reducible exact H2_) | (have H2_ := (Option.bind_some _ _).symm.trans H; with_reducible exact H2_) | with_reducible exact H | (rw [hy164]; exact H) | exact H
                       have Ny164 := am_ hy164; clear hy164
                       have H' := am_ H
                       clear H
                       have p160 : 0 ≤ (x16_4 : Int) := of_decide_eq_true (by first | (with_reducible assumption) | assumption)
                       have q160 : x16_4 < (x7_4.length : Int) := of_decide_eq_true (by first | (with_reducible assumption) | assumption)
                       obtain ⟨ad160, e160, hx160_0⟩ := Kd.at_int (Kd.R_reads' HO_7.out).2.2 x16_4 p160 q160
                       obtain rfl : ad153 = ad160 := (by injection e160)
                       replace p160 := eq_true p160
                       replace q160 := eq_true q160
                       have p79 : 0 ≤ (x16_4 : Int) := of_decide_eq_true (by first | (with_reducible assumption) | assumption)
                       have q79 : (x16_4 : Int) < ((x7_4.length : Int) : Int) := of_decide_eq_true (by first | (with_reducible assumption) | assumption)
                       obtain ⟨go79, co79, eo79, gb79, gl79, cl79, HG79⟩ := Kd.R_form HO_7.out (by omega)
                       (first | cases eo79 | (injection eo79 with ea_ en_ ec_; (first | subst ea_ | (injection ea_ with ea_; subst ea_)); subst ec_; clear en_))
                       have GB79 := am_ gb79; have GG79 := am_ HG79; clear gb79 gl79 HG79
                       (first | simp only [add_plain] at hx160_0 | skip)
                       obtain ⟨hx79_0, hf79_0⟩ := Kd.R_celln 0 HO_7.out (x16_4 : Int) p79 q79
                       replace p79 := eq_true p79
                       replace q79 := eq_true q79
                       have HP80 := Kd.R_putg HO_7.out (x16_4 : Int) (wrap64 ((wrap64 ((rd x7_4 x16_4) - x15_4)) + 16777216))
                       go_wp2_with (first | ((with_reducible refine gate_store (t := 2) (p := 122) rfl ?_); refine store_event (t := 2) (p := 122) (v := ?vo_w81) (w1 := (wr.setCell ⟨go79, (x16_4 : Int).toNat, none⟩ (.int .i64 (wrap64 ((wrap64 ((rd x7_4 x16_4) - x15_4)) + 16777216))))) ?hg ?ho ?hn ?hr ?_; (case ho => rfl); (case hg => rfl); (case hn => rfl); (case hr => first | (go_simp; done) | (go_simp; rfl)); intro w81 hw; have hg : wr.grownBy w81 (some go79) := (by rw [hw]; exact HP80.2); have hp_ : Kd.R (Kd.int .i64) 2 w81 w.heap.size (fun k_ => some k_ ≠ (v139 : Value).ownBlock) (.slice (some ⟨go79, 0, none⟩) x7_4.length co44) y164 := (by rw [hw, Ny164.out]; exact HP80.1); clear HP80; have n0_ := am_ (hp_); have n1_ := am_ (Kd.R_after (v := (.slice (some ⟨go79, 0, none⟩) x7_4.length co44)) (v1 := (.slice (some ⟨go79, 0, none⟩) x7_4.length co44)) (ok := (fun _ => True)) (km_ HO_8 (fun _ hk => ⟨trivial, hk⟩)) hg (.inl rfl)); have n2_ := am_ (blk_grown (g := gb131) (o := .cells #[.int .i64 a0_0, .slice A0_1 l0_1.length c0_1] 26 (0, 0)) (bk_ BK131) hg (Kd.R_ne HO_7.out BK131.out (by decide))); have n3_ := am_ (blk_grown (g := gb132) (o := .cells #[.int .i64 a1_0, .slice A1_1 l1_1.length c1_1] 26 (0, 0)) (bk_ BK132) hg (Kd.R_ne HO_7.out BK132.out (by decide))); have n4_ := am_ (blk_grown (g := gb133) (o := .cells #[.int .i64 0, .slice none 0 0] 26 (0, 0)) (bk_ BK133) hg (Kd.R_ne HO_7.out BK133.out (by decide))); have n5_ := am_ (blk_grown (g := gb134) (o := .cells #[.int .i64 0, .slice none 0 0] 26 (0, 0)) (bk_ BK134) hg (Kd.R_ne HO_7.out BK134.out (by decide))); have n6_ := am_ ((by rw [hw]; exact below_set (HB.out) GB79.out : Below w.heap.size w w81)); clear HO_7; clear HO_8; clear BK131; clear BK132; clear BK133; clear BK134; clear HB; have HO_7 := n0_; have HO_8 := n1_; have BK131 := n2_; have BK132 := n3_; have BK133 := n4_; have BK134 := n5_; have HB := n6_; clear n0_ n1_ n2_ n3_ n4_ n5_ n6_; clear hg hw hp_))
                       (try simp only [← hl7_4])
                       go_roundg k4
                       case measure => have := HK1.out; have := HK2.out; have := HJ42.out; have := HK4.out; omega
                       case rel => exact ⟨(y164), (1), (wrap64 (x16_4 + 1)), (by first | rfl | (simp; done) | (simp [*]; done)), (by first | rfl | (simp; done) | (simp [*]; done)), H', ⟨by have := HK1.out; have := HK2.out; have := HJ42.out; have := HK4.out; omega⟩, ⟨by (try simp only [hl7_4]); (with_reducible repeat (first | apply Kd.R_alloc | apply Kd.R_drewN | apply Kd.R_drew)); exact HO_7.out⟩, ⟨by (try simp only [hl7_4]); (with_reducible repeat (first | apply Kd.R_alloc | apply Kd.R_drewN | apply Kd.R_drew)); exact Kd.R_mono HO_8.out (fun _ hk => hk.2)⟩, ⟨by (try simp only [hl7_4]); (with_reducible repeat (first | refine blk_drewN ?_ _ | refine blk_drew ?_ | refine blk_alloc ?_ _)); exact BK131.out⟩, ⟨by (try simp only [hl7_4]); (with_reducible repeat (first | refine blk_drewN ?_ _ | refine blk_drew ?_ | refine blk_alloc ?_ _)); exact BK132.out⟩, ⟨by (try simp only [hl7_4]); (with_reducible repeat (first | refine blk_drewN ?_ _ | refine blk_drew ?_ | refine blk_alloc ?_ _)); exact BK133.out⟩, ⟨by (try simp only [hl7_4]); (with_reducible repeat (first | refine blk_drewN ?_ _ | refine blk_drew ?_ | refine blk_alloc ?_ _)); exact BK134.out⟩, ⟨bl_ HB⟩⟩
                      ·rw [if_neg c78] at H
                       have c78b0 : decide ((wrap64 ((rd x7_4 x16_4) - x15_4)) < 0) = false := decide_eq_false c78
                       clear c78
                       obtain ⟨y165, hy165⟩ : ∃ y_ : List Int, y_ = (x7_4.set (x16_4 : Int).toNat (wrap64 ((rd x7_4 x16_4) - x15_4))) := ⟨_, rfl⟩
                       replace H : (spec_l02DivMod.l3 k4 (l1_1.length : Int) y165 x8_1 x9_1 0 (wrap64 (x16_4 + 1)) a0_0 l0_1 a1_0 l1_1) = some (r1, r2, r3, r4) := by first | (rw [hy165]; with_reducible exact H) | (have H2_ := (Option.bind_some _ _).symm.trans H; rw [hy165]; with_reducible exact H2_) | (have H2_ := (Option.bind_some _ _).symm.trans H; with_reducible exact H2_) | with_reducible exact H | (rw [hy165]; exact H) | exact H
                       have Ny165 := am_ hy165; clear hy165
                       have H' := am_ H
                       clear H
                       have p160 : 0 ≤ (x16_4 : Int) := of_decide_eq_true (by first | (with_reducible assumption) | assumption)
                       have q160 : x16_4 < (x7_4.length : Int) := of_decide_eq_true (by first | (with_reducible assumption) | assumption)
                       obtain ⟨ad160, e160, hx160_0⟩ := Kd.at_int (Kd.R_reads' HO_7.out).2.2 x16_4 p160 q160
                       obtain rfl : ad153 = ad160 := (by injection e160)
                       replace p160 := eq_true p160
                       replace q160 := eq_true q160
                       have p82 : 0 ≤ (x16_4 : Int) := of_decide_eq_true (by first | (with_reducible assumption) | assumption)
                       have q82 : (x16_4 : Int) < ((x7_4.length : Int) : Int) := of_decide_eq_true (by first | (with_reducible assumption) | assumption)
                       obtain ⟨go82, co82, eo82, gb82, gl82, cl82, HG82⟩ := Kd.R_form HO_7.out (by omega)
                       (first | cases eo82 | (injection eo82 with ea_ en_ ec_; (first | subst ea_ | (injection ea_ with ea_; subst ea_)); subst ec_; clear en_))
                       have GB82 := am_ gb82; have GG82 := am_ HG82; clear gb82 gl82 HG82
                       (first | simp only [add_plain] at hx160_0 | skip)
                       obtain ⟨hx82_0, hf82_0⟩ := Kd.R_celln 0 HO_7.out (x16_4 : Int) p82 q82
                       replace p82 := eq_true p82
                       replace q82 := eq_true q82
                       have HP83 := Kd.R_putg HO_7.out (x16_4 : Int) (wrap64 ((rd x7_4 x16_4) - x15_4))
                       go_wp2_with (first | ((with_reducible refine gate_store (t := 2) (p := 122) rfl ?_); refine store_event (t := 2) (p := 122) (v := ?vo_w84) (w1 := (wr.setCell ⟨go82, (x16_4 : Int).toNat, none⟩ (.int .i64 (wrap64 ((rd x7_4 x16_4) - x15_4))))) ?hg ?ho ?hn ?hr ?_; (case ho => rfl); (case hg => rfl); (case hn => rfl); (case hr => first | (go_simp; done) | (go_simp; rfl)); intro w84 hw; have hg : wr.grownBy w84 (some go82) := (by rw [hw]; exact HP83.2); have hp_ : Kd.R (Kd.int .i64) 2 w84 w.heap.size (fun k_ => some k_ ≠ (v139 : Value).ownBlock) (.slice (some ⟨go82, 0, none⟩) x7_4.length co44) y165 := (by rw [hw, Ny165.out]; exact HP83.1); clear HP83; have n0_ := am_ (hp_); have n1_ := am_ (Kd.R_after (v := (.slice (some ⟨go82, 0, none⟩) x7_4.length co44)) (v1 := (.slice (some ⟨go82, 0, none⟩) x7_4.length co44)) (ok := (fun _ => True)) (km_ HO_8 (fun _ hk => ⟨trivial, hk⟩)) hg (.inl rfl)); have n2_ := am_ (blk_grown (g := gb131) (o := .cells #[.int .i64 a0_0, .slice A0_1 l0_1.length c0_1] 26 (0, 0)) (bk_ BK131) hg (Kd.R_ne HO_7.out BK131.out (by decide))); have n3_ := am_ (blk_grown (g := gb132) (o := .cells #[.int .i64 a1_0, .slice A1_1 l1_1.length c1_1] 26 (0, 0)) (bk_ BK132) hg (Kd.R_ne HO_7.out BK132.out (by decide))); have n4_ := am_ (blk_grown (g := gb133) (o := .cells #[.int .i64 0, .slice none 0 0] 26 (0, 0)) (bk_ BK133) hg (Kd.R_ne HO_7.out BK133.out (by decide))); have n5_ := am_ (blk_grown (g := gb134) (o := .cells #[.int .i64 0, .slice none 0 0] 26 (0, 0)) (bk_ BK134) hg (Kd.R_ne HO_7.out BK134.out (by decide))); have n6_ := am_ ((by rw [hw]; exact below_set (HB.out) GB82.out : Below w.heap.size w w84)); clear HO_7; clear HO_8; clear BK131; clear BK132; clear BK133; clear BK134; clear HB; have HO_7 := n0_; have HO_8 := n1_; have BK131 := n2_; have BK132 := n3_; have BK133 := n4_; have BK134 := n5_; have HB := n6_; clear n0_ n1_ n2_ n3_ n4_ n5_ n6_; clear hg hw hp_))
                       (try simp only [← hl7_4])
                       go_roundg k4
                       case measure => have := HK1.out; have := HK2.out; have := HJ42.out; have := HK4.out; omega
                       case rel => exact ⟨(y165), (0), (wrap64 (x16_4 + 1)), (by first | rfl | (simp; done) | (simp [*]; done)), (by first | rfl | (simp; done) | (simp [*]; done)), H', ⟨by have := HK1.out; have := HK2.out; have := HJ42.out; have := HK4.out; omega⟩, ⟨by (try simp only [hl7_4]); (with_reducible repeat (first | apply Kd.R_alloc | apply Kd.R_drewN | apply Kd.R_drew)); exact HO_7.out⟩, ⟨by (try simp only [hl7_4]); (with_reducible repeat (first | apply Kd.R_alloc | apply Kd.R_drewN | apply Kd.R_drew)); exact Kd.R_mono HO_8.out (fun _ hk => hk.2)⟩, ⟨by (try simp only [hl7_4]); (with_reducible repeat (first | refine blk_drewN ?_ _ | refine blk_drew ?_ | refine blk_alloc ?_ _)); exact BK131.out⟩, ⟨by (try simp only [hl7_4]); (with_reducible repeat (first | refine blk_drewN ?_ _ | refine blk_drew ?_ | refine blk_alloc ?_ _)); exact BK132.out⟩, ⟨by (try simp only [hl7_4]); (with_reducible repeat (first | refine blk_drewN ?_ _ | refine blk_drew ?_ | refine blk_alloc ?_ _)); exact BK133.out⟩, ⟨by (try simp only [hl7_4]); (with_reducible repeat (first | refine blk_drewN ?_ _ | refine blk_drew ?_ | refine blk_alloc ?_ _)); exact BK134.out⟩, ⟨bl_ HB⟩⟩
                    ·rw [if_neg c60] at H
                     exact absurd H (by simp)
                   ·rw [if_neg c59] at H
                    exact absurd H (by simp)
                  ·rw [if_neg c58] at H
                   have c58b0 : decide (x16_4 ≤ (l1_1.length : Int)) = false := decide_eq_false c58
                   clear c58
                   obtain ⟨ji85, hji85⟩ : ∃ j_ : Int, (wrap64 (Int.tdiv x9_1 24)) = j_ := ⟨_, rfl⟩
                   replace H : (if 0 ≤ (ji85) then (if (ji85) < (x8_1.length : Int) then (if 0 ≤ (IntKind.u64.wrap (Int.tmod x9_1 24)) then (spec_l02DivMod.l0 k4 (l1_1.length : Int) x7_4 (x8_1.set ((ji85) : Int).toNat (wrap64 ((rd x8_1 (ji85)) + (shl .i64 1 (IntKind.u64.wrap (Int.tmod x9_1 24)))))) (wrap64 (x9_1 - 1)) a0_0 l0_1 a1_0 l1_1) else (none)) else (none)) else (none)) = some (r1, r2, r3, r4) := by first | (rw [hji85] at H; exact H) | (simp only [hji85] at H ⊢; exact H)
                   have hji85w : (IntKind.i64.wrap (Int.tdiv x9_1 24)) = ji85 := (i64_w _).trans hji85
                   by_cases c86 : 0 ≤ (ji85)
                   ·rw [if_pos c86] at H
                    have c86b0 : decide (0 ≤ (ji85)) = true := decide_eq_true c86
                    clear c86
                    by_cases c87 : (ji85) < (x8_1.length : Int)
                    ·rw [if_pos c87] at H
                     have c87b0 : decide ((ji85) < (x8_1.length : Int)) = true := decide_eq_true c87
                     clear c87
                     obtain ⟨ji88, hji88⟩ : ∃ j_ : Int, (IntKind.u64.wrap (Int.tmod x9_1 24)) = j_ := ⟨_, rfl⟩
                     replace H : (if 0 ≤ (ji88) then (spec_l02DivMod.l0 k4 (l1_1.length : Int) x7_4 (x8_1.set ((ji85) : Int).toNat (wrap64 ((rd x8_1 (ji85)) + (shl .i64 1 (ji88))))) (wrap64 (x9_1 - 1)) a0_0 l0_1 a1_0 l1_1) else (none)) = some (r1, r2, r3, r4) := by first | (rw [hji88] at H; exact H) | (simp only [hji88] at H ⊢; exact H)
                     by_cases c89 : 0 ≤ (ji88)
                     ·rw [if_pos c89] at H
                      have c89b0 := eq_true c89
                      have c89b1 : decide (0 ≤ (ji88)) = true := decide_eq_true c89
                      clear c89
                      obtain ⟨ji90, hji90⟩ : ∃ j_ : Int, (shl .i64 1 (ji88)) = j_ := ⟨_, rfl⟩
                      replace H : (spec_l02DivMod.l0 k4 (l1_1.length : Int) x7_4 (x8_1.set ((ji85) : Int).toNat (wrap64 ((rd x8_1 (ji85)) + (ji90)))) (wrap64 (x9_1 - 1)) a0_0 l0_1 a1_0 l1_1) = some (r1, r2, r3, r4) := by first | (rw [hji90] at H; exact H) | (simp only [hji90] at H ⊢; exact H)
                      have hji90_ : (IntKind.i64.wrap (1 * 2 ^ min (ji88).toNat 64)) = ji90 := hji90
                      have hji90z : (ji88) ≤ 64 → (IntKind.i64.wrap (1 * 2 ^ (ji88).toNat)) = ji90 := shl_small hji90
                      have hji90u : (IntKind.i64.wrap (2 ^ min (ji88).toNat 64)) = ji90 := by have h_ := hji90_; rw [Int.one_mul] at h_; exact h_
                      have hji90v : (ji88) ≤ 64 → (IntKind.i64.wrap (2 ^ (ji88).toNat)) = ji90 := fun hle_ => by have h_ := hji90z hle_; rw [Int.one_mul] at h_; exact h_
                      have hji90y : (wrap64 (1 * 2 ^ min (ji88).toNat 64)) = ji90 := (i64_w _).symm.trans hji90_
                      have hji90x : (ji88) ≤ 64 → (wrap64 (1 * 2 ^ (ji88).toNat)) = ji90 := fun h_ => (i64_w _).symm.trans (hji90z h_)
                      obtain ⟨y159, hy159⟩ : ∃ y_ : List Int, y_ = (x8_1.set ((ji85) : Int).toNat (wrap64 ((rd x8_1 (ji85)) + (ji90)))) := ⟨_, rfl⟩
                      replace H : (spec_l02DivMod.l0 k4 (l1_1.length : Int) x7_4 y159 (wrap64 (x9_1 - 1)) a0_0 l0_1 a1_0 l1_1) = some (r1, r2, r3, r4) := by first | (rw [hy159]; with_reducible exact H) | (have H2_ := (Option.bind_some _ _).symm.trans H; rw [hy159]; with_reducible exact H2_) | (have H2_ := (Option.bind_some _ _).symm.trans H; with_reducible exact H2_) | with_reducible exact H | (rw [hy159]; exact H) | exact H
                      have Ny159 := am_ hy159; clear hy159
                      have H' := am_ H
                      clear H
                      obtain ⟨Ao92, co92, eo92⟩ := Kd.R_slice HO_8.out
                      subst eo92
                      have p158 : 0 ≤ ((ji85) : Int) := of_decide_eq_true (by first | (with_reducible assumption) | assumption)
                      have q158 : (ji85) < (x8_1.length : Int) := of_decide_eq_true (by first | (with_reducible assumption) | assumption)
                      obtain ⟨ad158, e158, hx158_0⟩ := Kd.at_int (Kd.R_reads' HO_8.out).2.2 (ji85) p158 q158
                      cases e158
                      replace p158 := eq_true p158
                      replace q158 := eq_true q158
                      have p91 : 0 ≤ ((ji85) : Int) := of_decide_eq_true (by first | (with_reducible assumption) | assumption)
                      have q91 : ((ji85) : Int) < ((x8_1.length : Int) : Int) := of_decide_eq_true (by first | (with_reducible assumption) | assumption)
                      obtain ⟨go91, co91, eo91, gb91, gl91, cl91, HG91⟩ := Kd.R_form HO_8.out (by omega)
                      (first | cases eo91 | (injection eo91 with ea_ en_ ec_; (first | subst ea_ | (injection ea_ with ea_; subst ea_)); subst ec_; clear en_))
                      have GB91 := am_ gb91; have GG91 := am_ HG91; clear gb91 gl91 HG91
                      (first | simp only [add_plain] at hx158_0 | skip)
                      obtain ⟨hx91_0, hf91_0⟩ := Kd.R_celln 0 HO_8.out ((ji85) : Int) p91 q91
                      replace p91 := eq_true p91
                      replace q91 := eq_true q91
                      have HP93 := Kd.R_putg HO_8.out ((ji85) : Int) (wrap64 ((rd x8_1 (ji85)) + (ji90)))
                      go_wp2_with (first | ((with_reducible refine gate_store (t := 2) (p := 136) rfl ?_); refine store_event (t := 2) (p := 136) (v := ?vo_w94) (w1 := (wr.setCell ⟨go91, ((ji85) : Int).toNat, none⟩ (.int .i64 (wrap64 ((rd x8_1 (ji85)) + (ji90)))))) ?hg ?ho ?hn ?hr ?_; (case ho => rfl); (case hg => rfl); (case hn => rfl); (case hr => first | (go_simp; done) | (go_simp; rfl)); intro w94 hw; have hg : wr.grownBy w94 (some go91) := (by rw [hw]; exact HP93.2); have hp_ : Kd.R (Kd.int .i64) 2 w94 w.heap.size (fun k_ => some k_ ≠ (.slice (some ad153) x7_4.length co44 : Value).ownBlock) (.slice (some ⟨go91, 0, none⟩) x8_1.length co92) y159 := (by rw [hw, Ny159.out]; exact HP93.1); clear HP93; have n0_ := am_ (Kd.R_after (v := (.slice (some ⟨go91, 0, none⟩) x8_1.length co92)) (v1 := (.slice (some ⟨go91, 0, none⟩) x8_1.length co92)) (ok := (fun _ => True)) (km_ HO_7 (fun _ hk => ⟨trivial, hk⟩)) hg (.inl rfl)); have n1_ := am_ (hp_); have n2_ := am_ (blk_grown (g := gb131) (o := .cells #[.int .i64 a0_0, .slice A0_1 l0_1.length c0_1] 26 (0, 0)) (bk_ BK131) hg (Kd.R_ne HO_8.out BK131.out (by decide))); have n3_ := am_ (blk_grown (g := gb132) (o := .cells #[.int .i64 a1_0, .slice A1_1 l1_1.length c1_1] 26 (0, 0)) (bk_ BK132) hg (Kd.R_ne HO_8.out BK132.out (by decide))); have n4_ := am_ (blk_grown (g := gb133) (o := .cells #[.int .i64 0, .slice none 0 0] 26 (0, 0)) (bk_ BK133) hg (Kd.R_ne HO_8.out BK133.out (by decide))); have n5_ := am_ (blk_grown (g := gb134) (o := .cells #[.int .i64 0, .slice none 0 0] 26 (0, 0)) (bk_ BK134) hg (Kd.R_ne HO_8.out BK134.out (by decide))); have n6_ := am_ ((by rw [hw]; exact below_set (HB.out) GB91.out : Below w.heap.size w w94)); clear HO_7; clear HO_8; clear BK131; clear BK132; clear BK133; clear BK134; clear HB; have HO_7 := n0_; have HO_8 := n1_; have BK131 := n2_; have BK132 := n3_; have BK133 := n4_; have BK134 := n5_; have HB := n6_; clear n0_ n1_ n2_ n3_ n4_ n5_ n6_; clear hg hw hp_))
                      (try simp only [← hl7_4])
                      go_roundg k4
                      case measure => have := HK1.out; have := HK2.out; have := HJ42.out; have := HK4.out; omega
                      case rel => exact ⟨(x7_4), (y159), (wrap64 (x9_1 - 1)), (by first | rfl | (simp; done) | (simp [*]; done)), H', ⟨by have := HK1.out; have := HK2.out; have := HJ42.out; have := HK4.out; omega⟩, ⟨by (try simp only [hl7_4]); (with_reducible repeat (first | apply Kd.R_alloc | apply Kd.R_drewN | apply Kd.R_drew)); exact Kd.R_mono HO_7.out (fun _ hk => hk.2)⟩, ⟨by (try simp only [hl7_4]); (with_reducible repeat (first | apply Kd.R_alloc | apply Kd.R_drewN | apply Kd.R_drew)); exact HO_8.out⟩, ⟨by (try simp only [hl7_4]); (with_reducible repeat (first | refine blk_drewN ?_ _ | refine blk_drew ?_ | refine blk_alloc ?_ _)); exact BK131.out⟩, ⟨by (try simp only [hl7_4]); (with_reducible repeat (first | refine blk_drewN ?_ _ | refine blk_drew ?_ | refine blk_alloc ?_ _)); exact BK132.out⟩, ⟨by (try simp only [hl7_4]); (with_reducible repeat (first | refine blk_drewN ?_ _ | refine blk_drew ?_ | refine blk_alloc ?_ _)); exact BK133.out⟩, ⟨by (try simp only [hl7_4]); (with_reducible repeat (first | refine blk_drewN ?_ _ | refine blk_drew ?_ | refine blk_alloc ?_ _)); exact BK134.out⟩, ⟨bl_ HB⟩⟩
                     ·rw [if_neg c89] at H
                      exact absurd H (by simp)
                    ·rw [if_neg c87] at H
                     exact absurd H (by simp)
                   ·rw [if_neg c86] at H
                    exact absurd H (by simp)
            ·rw [if_neg c42] at H
             exact absurd H (by simp)
           ·rw [if_neg c41] at H
            exact absurd H (by simp)
       ·rw [if_neg c27] at H
        have c27b0 : decide (0 ≤ x9_1) = false := decide_eq_false c27
        clear c27
        replace H := Option.bind_eq_some_iff.mp H
        obtain ⟨⟨t142, t143⟩, A950, H⟩ := H
        replace H : ((spec_l02Make.f k1 a0_0 x7_1).bind fun bt146 => (some (t142, t143, bt146.1, bt146.2))) = some (r1, r2, r3, r4) := H
        have A95 := am_ A950; clear A950
        replace H := Option.bind_eq_some_iff.mp H
        obtain ⟨⟨t146, t147⟩, A960, H⟩ := H
        replace H : (some (t142, t143, t146, t147)) = some (r1, r2, r3, r4) := H
        have A96 := am_ A960; clear A960
        simp only [Option.some.injEq, Prod.mk.injEq] at H
        obtain ⟨rfl, rfl, rfl, rfl⟩ := H
        try go_wp2
        replace HO_7 := am_ (Kd.R_drew HO_7.out); replace HO_8 := am_ (Kd.R_drew HO_8.out); replace BK131 := am_ (blk_drew BK131.out); replace BK132 := am_ (blk_drew BK132.out); replace BK133 := am_ (blk_drew BK133.out); replace BK134 := am_ (blk_drew BK134.out); replace HB := am_ (below_drew1 HB.out)
        obtain ⟨Ao98, co98, eo98⟩ := Kd.R_slice HO_8.out
        (first | subst eo98 | (injection eo98 with f1_ f2_ f3_; have f4_ := f1_.symm; have f5_ := f3_.symm; clear f1_ f2_ f3_; subst f4_; subst f5_))
        refine start_ (n := 13) (S := fun w' => w'.cell? ⟨gb131, 0, none⟩ = some (.int .i64 a0_0) ∧ w'.cell? ⟨gb131, 1, none⟩ = some (.slice A0_1 l0_1.length c0_1) ∧ w'.cell? ⟨gb132, 0, none⟩ = some (.int .i64 a1_0) ∧ w'.cell? ⟨gb132, 1, none⟩ = some (.slice A1_1 l1_1.length c1_1)) (ds := []) #[false, false, false, false, false, false, false, false, false, false, false, false, false] (by kernel_rfl) rfl rfl ⟨bc_ BK131 0, bc_ BK131 1, bc_ BK132 0, bc_ BK132 1⟩ (fun hHeld => ?_); refine with_tabW spec_l02DivMod.tab35 spec_l02DivMod.bits35 (fun HT_ HW_ => ?_)
        generalize wr.drew = w97 at HO_7 HO_8 BK131 BK132 BK133 BK134 HB hHeld ⊢
        refine pu_ #[true, false, false, false, false, false, false, false, false, false, false, false, false] 0 137 (any_of HT_.out (by kernel_rfl)) ?_
        refine pu_ #[true, false, true, false, false, false, false, false, false, false, false, false, false] 2 139 (any_of HT_.out (by kernel_rfl)) ?_
        refine pu_ #[true, false, true, false, false, true, false, false, false, false, false, false, false] 5 142 (any_of HT_.out (by kernel_rfl)) ?_
        refine pu_ #[true, false, true, false, false, true, false, true, false, false, false, false, false] 7 144 (any_of HT_.out (by kernel_rfl)) ?_
        refine pu_ #[true, false, true, false, false, true, false, true, false, true, false, false, false] 9 146 (any_of HT_.out (by kernel_rfl)) ?_
        refine tk_ #[true, true, true, false, false, true, false, true, false, true, false, false, false] 1 138 (take_ofW HT_.out HW_.out (by kernel_rfl)) hHeld ?_
        refine tk_ #[true, true, true, true, false, true, false, true, false, true, false, false, false] 3 140 (take_ofW HT_.out HW_.out (by kernel_rfl)) hHeld ?_
        refine pu_ #[true, true, true, true, true, true, false, true, false, true, false, false, false] 4 141 (any_of HT_.out (by kernel_rfl)) ?_
        refine tk_ #[true, true, true, true, true, true, false, true, true, true, false, false, false] 8 145 (take_ofW HT_.out HW_.out (by kernel_rfl)) hHeld ?_
        refine one_ (i := 6) (N := some 143) #[true, true, true, true, true, true, true, true, true, true, false, false, false] rfl rfl (one_of HT_.out (by kernel_rfl)) (by decide) (fun K hK => ?_)
        refine goes_ Tryd.func87 (by kernel_rfl) rfl #[.int .i64 (wrap64 (a0_0 * a1_0)), .slice Ao98 x8_1.length co98] (by rfl) rfl rfl ma_ ?_
        with_reducible refine (spec_l02Make.calls k1 (wrap64 (a0_0 * a1_0)) _ _ x8_1 t142 t143 _ ?side1 ?side2 A95.out).mono ?_
        (case side1 => exact cr_ HO_8)
        (case side2 => exact (Kd.R_reads' HO_8.out).2.1)
        rintro e w99 ⟨v144, rfl, ho0, hb⟩
        refine ⟨_, rfl, ?_⟩
        have HO145 := am_ (Kd.R_lower (Kd.R_new' (Kd.R_new' ho0 (Kd.R_lt (kr_ HO_7))) (Kd.R_lt (kr_ HO_8))) (below_size (bl_ HB))); replace HO_7 := am_ (Kd.R_elder' (kr_ HO_7) (Kd.R_base ho0) hb); replace HO_8 := am_ (Kd.R_elder' (kr_ HO_8) (Kd.R_base ho0) hb); replace BK131 := am_ (blk_below (bk_ BK131) hb); replace BK132 := am_ (blk_below (bk_ BK132) hb); replace BK133 := am_ (blk_below (bk_ BK133) hb); replace BK134 := am_ (blk_below (bk_ BK134) hb); replace HB := am_ (below_step (bl_ HB) hb); (try clear hb); (try clear hb2); (try clear hk); (try clear hi); (try clear ho0)
        obtain ⟨Ao100, co100, eo100⟩ := Kd.R_slice HO_7.out
        (first | subst eo100 | (injection eo100 with f1_ f2_ f3_; have f4_ := f1_.symm; have f5_ := f3_.symm; clear f1_ f2_ f3_; subst f4_; subst f5_))
        refine hK.out _ _ ⟨bc_ BK131 0, bc_ BK131 1, bc_ BK132 0, bc_ BK132 1⟩ (fun hHeld => ?_)
        clear hK K
        refine nr_ ?_
        refine one_ (i := 10) (N := some 147) #[true, true, true, true, true, true, true, true, true, true, true, false, false] rfl rfl (one_of HT_.out (by kernel_rfl)) (by decide) (fun K hK => ?_)
        refine goes_ Tryd.func87 (by kernel_rfl) rfl #[.int .i64 a0_0, .slice Ao100 x7_1.length co100] (by rfl) rfl rfl ma_ ?_
        with_reducible refine (spec_l02Make.calls k1 a0_0 _ _ x7_1 t146 t147 _ ?side1 ?side2 A96.out).mono ?_
        (case side1 => exact cr_ HO_7)
        (case side2 => exact (Kd.R_reads' HO_7.out).2.1)
        rintro e w101 ⟨v148, rfl, ho0, hb⟩
        refine ⟨_, rfl, ?_⟩
        have HO149 := am_ (Kd.R_lower (Kd.R_new' (Kd.R_new' (Kd.R_new' ho0 (Kd.R_lt (kr_ HO_7))) (Kd.R_lt (kr_ HO_8))) (Kd.R_lt (kr_ HO145))) (below_size (bl_ HB))); replace HO_7 := am_ (Kd.R_elder' (kr_ HO_7) (Kd.R_base ho0) hb); replace HO_8 := am_ (Kd.R_elder' (kr_ HO_8) (Kd.R_base ho0) hb); replace HO145 := am_ (Kd.R_elder' (kr_ HO145) (Kd.R_base ho0) hb); replace BK131 := am_ (blk_below (bk_ BK131) hb); replace BK132 := am_ (blk_below (bk_ BK132) hb); replace BK133 := am_ (blk_below (bk_ BK133) hb); replace BK134 := am_ (blk_below (bk_ BK134) hb); replace HB := am_ (below_step (bl_ HB) hb); (try clear hb); (try clear hb2); (try clear hk); (try clear hi); (try clear ho0)
        obtain ⟨Ao103, co103, eo103⟩ := Kd.R_slice HO145.out
        (first | subst eo103 | (injection eo103 with f1_ f2_ f3_; have f4_ := f1_.symm; have f5_ := f3_.symm; clear f1_ f2_ f3_; subst f4_; subst f5_))
        obtain ⟨Ao106, co106, eo106⟩ := Kd.R_slice HO149.out
        (first | subst eo106 | (injection eo106 with f1_ f2_ f3_; have f4_ := f1_.symm; have f5_ := f3_.symm; clear f1_ f2_ f3_; subst f4_; subst f5_))
        refine hK.out _ _ ⟨bc_ BK131 0, bc_ BK131 1, bc_ BK132 0, bc_ BK132 1⟩ (fun hHeld => ?_)
        clear hK K
        refine nr_ ?_
        refine one_ (i := 11) (N := none) #[true, true, true, true, true, true, true, true, true, true, true, true, false] rfl rfl (one_of HT_.out (by kernel_rfl)) (by decide) (fun K hK => ?_)
        have hs102 : w101.cell? ⟨gb133, 0, none⟩ = some (.int .i64 0) := bc_ BK133 0
        have hfs102 := blk_frozen BK133.out 0; have hns102_0 := NB131_133.out; have hns102_1 := NB132_133.out; have hns102_3 := NB134_133.out; have hms102_0 := NB133_131.out; have hms102_1 := NB133_132.out; have hms102_3 := NB133_134.out
        have hs104 : w101.cell? ⟨gb133, 1, none⟩ = some (.slice none 0 0) := bc_ BK133 1
        have hfs104 := blk_frozen BK133.out 1; have hns104_0 := NB131_133.out; have hns104_1 := NB132_133.out; have hns104_3 := NB134_133.out; have hms104_0 := NB133_131.out; have hms104_1 := NB133_132.out; have hms104_3 := NB133_134.out
        refine skip_ (w1 := ?_) (by rfl) rfl ?_ ?_
        rotate_left
        ·go_simp
         rfl
        refine hK.out _ _ ⟨((cell_far (p := ⟨gb133, _, none⟩) NB131_133.out _).trans (((cell_far (p := ⟨gb133, _, none⟩) NB131_133.out _).trans (hHeld.1)))), ((cell_far (p := ⟨gb133, _, none⟩) NB131_133.out _).trans (((cell_far (p := ⟨gb133, _, none⟩) NB131_133.out _).trans (hHeld.2.1)))), ((cell_far (p := ⟨gb133, _, none⟩) NB132_133.out _).trans (((cell_far (p := ⟨gb133, _, none⟩) NB132_133.out _).trans (hHeld.2.2.1)))), ((cell_far (p := ⟨gb133, _, none⟩) NB132_133.out _).trans (((cell_far (p := ⟨gb133, _, none⟩) NB132_133.out _).trans (hHeld.2.2.2))))⟩ (fun hHeld => ?_)
        clear hK K
        refine one_ (i := 12) (N := none) #[true, true, true, true, true, true, true, true, true, true, true, true, true] rfl rfl (one_of HT_.out (by kernel_rfl)) (by decide) (fun K hK => ?_)
        have hs105 : w101.cell? ⟨gb134, 0, none⟩ = some (.int .i64 0) := bc_ BK134 0
        have hfs105 := blk_frozen BK134.out 0; have hns105_0 := NB131_134.out; have hns105_1 := NB132_134.out; have hns105_2 := NB133_134.out; have hms105_0 := NB134_131.out; have hms105_1 := NB134_132.out; have hms105_2 := NB134_133.out
        have hs107 : w101.cell? ⟨gb134, 1, none⟩ = some (.slice none 0 0) := bc_ BK134 1
        have hfs107 := blk_frozen BK134.out 1; have hns107_0 := NB131_134.out; have hns107_1 := NB132_134.out; have hns107_2 := NB133_134.out; have hms107_0 := NB134_131.out; have hms107_1 := NB134_132.out; have hms107_2 := NB134_133.out
        refine skip_ (w1 := ?_) (by rfl) rfl ?_ ?_
        rotate_left
        ·go_simp
         rfl
        refine hK.out _ _ ⟨((cell_far (p := ⟨gb134, _, none⟩) NB131_134.out _).trans (((cell_far (p := ⟨gb134, _, none⟩) NB131_134.out _).trans (hHeld.1)))), ((cell_far (p := ⟨gb134, _, none⟩) NB131_134.out _).trans (((cell_far (p := ⟨gb134, _, none⟩) NB131_134.out _).trans (hHeld.2.1)))), ((cell_far (p := ⟨gb134, _, none⟩) NB132_134.out _).trans (((cell_far (p := ⟨gb134, _, none⟩) NB132_134.out _).trans (hHeld.2.2.1)))), ((cell_far (p := ⟨gb134, _, none⟩) NB132_134.out _).trans (((cell_far (p := ⟨gb134, _, none⟩) NB132_134.out _).trans (hHeld.2.2.2))))⟩ (fun hHeld => ?_)
        clear hK K
        refine done_ (done_of HT_.out (by kernel_rfl)) ?_
        try go_wp2
        refine bodyPost_ret (results_cc rfl _ _ gb133 gb134 26 26 #[.int .i64 t142, .slice Ao103 t143.length co103] #[.int .i64 t146, .slice Ao106 t147.length co106] (0, 0) (0, 0) _ _ rfl (by (with_reducible repeat (first | refine blk_drewN ?_ _ | refine blk_drew ?_ | refine blk_alloc ?_ _)); refine blk_far ?_ NB133_134.out _; (with_reducible repeat (first | refine blk_drewN ?_ _ | refine blk_drew ?_ | refine blk_alloc ?_ _)); refine blk_far ?_ NB133_134.out _; (with_reducible repeat (first | refine blk_drewN ?_ _ | refine blk_drew ?_ | refine blk_alloc ?_ _)); refine blk_put (cs := #[.int .i64 t142, .slice none 0 0]) ?_ 1 _ rfl; (with_reducible repeat (first | refine blk_drewN ?_ _ | refine blk_drew ?_ | refine blk_alloc ?_ _)); refine blk_put (cs := #[.int .i64 0, .slice none 0 0]) ?_ 0 _ rfl; (with_reducible repeat (first | refine blk_drewN ?_ _ | refine blk_drew ?_ | refine blk_alloc ?_ _)); exact BK133.out) Tryd.underlying26 rfl (by kernel_rfl) rfl (by (with_reducible repeat (first | refine blk_drewN ?_ _ | refine blk_drew ?_ | refine blk_alloc ?_ _)); refine blk_put (cs := #[.int .i64 t146, .slice none 0 0]) ?_ 1 _ rfl; (with_reducible repeat (first | refine blk_drewN ?_ _ | refine blk_drew ?_ | refine blk_alloc ?_ _)); refine blk_put (cs := #[.int .i64 0, .slice none 0 0]) ?_ 0 _ rfl; (with_reducible repeat (first | refine blk_drewN ?_ _ | refine blk_drew ?_ | refine blk_alloc ?_ _)); refine blk_far ?_ NB134_133.out _; (with_reducible repeat (first | refine blk_drewN ?_ _ | refine blk_drew ?_ | refine blk_alloc ?_ _)); refine blk_far ?_ NB134_133.out _; (with_reducible repeat (first | refine blk_drewN ?_ _ | refine blk_drew ?_ | refine blk_alloc ?_ _)); exact BK134.out) Tryd.underlying26 rfl (by kernel_rfl)) rfl ?_
        exact ⟨_, _, by first | rfl | (simp [errW_none, errW_some] <;> rfl) | (simp only [← hji3]; first | rfl | (simp [errW_none, errW_some] <;> rfl)) | (simp [*, errW_none, errW_some] <;> rfl), by (with_reducible repeat (first | apply Kd.R_alloc | apply Kd.R_drewN | apply Kd.R_drew)); exact Kd.R_mono (Kd.R_far (p := ⟨gb134, 1, none⟩) (Kd.R_far (p := ⟨gb134, 0, none⟩) (Kd.R_far (p := ⟨gb133, 1, none⟩) (Kd.R_far (p := ⟨gb133, 0, none⟩) (Kd.R_types (Kd.R_types HO145.out BK133.out (by decide)) BK134.out (by decide)) (fun _ hk => hk.1.2) (.int .i64 t142)) (fun _ hk => hk.1.2) (.slice Ao103 t143.length co103)) (fun _ hk => hk.2) (.int .i64 t146)) (fun _ hk => hk.2) (.slice Ao106 t147.length co106)) (fun _ hk => hk.1.1.2), by (with_reducible repeat (first | apply Kd.R_alloc | apply Kd.R_drewN | apply Kd.R_drew)); exact Kd.R_mono (Kd.R_far (p := ⟨gb134, 1, none⟩) (Kd.R_far (p := ⟨gb134, 0, none⟩) (Kd.R_far (p := ⟨gb133, 1, none⟩) (Kd.R_far (p := ⟨gb133, 0, none⟩) (Kd.R_types (Kd.R_types HO149.out BK133.out (by decide)) BK134.out (by decide)) (fun _ hk => hk.1.2) (.int .i64 t142)) (fun _ hk => hk.1.2) (.slice Ao103 t143.length co103)) (fun _ hk => hk.2) (.int .i64 t146)) (fun _ hk => hk.2) (.slice Ao106 t147.length co106)) (fun _ hk => hk.1.1.2), bl_ HB⟩
    ·rw [if_neg c7] at H
     exact absurd H (by simp)
   ·rw [if_neg c6] at H
    exact absurd H (by simp)
  ·rw [if_neg c5] at H
   exact absurd H (by simp)
 ·rw [if_neg c4] at H
  exact absurd H (by simp)
end Go.Proofs.YtghhphndbbefjaaDoor.X
