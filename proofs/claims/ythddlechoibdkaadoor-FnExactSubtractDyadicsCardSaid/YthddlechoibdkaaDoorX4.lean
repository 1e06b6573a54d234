/- Functions of the program as plain Lean functions, each with a proof that its call does what that function says. Printed by a program over the kit's print; conditions stand in each contract. -/
import Derived.Test.YthddlechoibdkaaDoorSq
import Derived.Test.YthddlechoibdkaaDoorDyP
import Derived.Test.YthddlechoibdkaaDoorX0
import Derived.Test.YthddlechoibdkaaDoorX1
import Derived.Test.YthddlechoibdkaaDoorX3
namespace Go.Proofs.YthddlechoibdkaaDoor.X
open Go.RowKit Go.Proofs.YthddlechoibdkaaDoorW.PrintWords Go.Proofs.YthddlechoibdkaaDoorW.PrintLast Go.Proofs.YthddlechoibdkaaDoorW.PrintMore Go.Proofs.YthddlechoibdkaaDoor.Sq
attribute [local go_sem] max2_int min2_int max_two min_two max_three min_three max_four min_four   -- for this text's walks alone
set_option linter.unusedVariables false
set_option linter.unusedSimpArgs false

/-! ### laws_FnExactSubtractDyadics: function 10 -/
mutual
def laws_FnExactSubtractDyadics.j0 : Nat → Int → Int → Bool → Int → List Int → Int → Int → List Int → Int → Int → List Int → Int → Int → List Int → Int → Int → List Int → Int → Int → List Int → Int → Option (Bool)
  | 0, _, _, _, _, _, _, _, _, _, _, _, _, _, _, _, _, _, _, _, _, _ => none
  | k + 1, x7, x11, x53, x362000, x362001, x362002, x363000, x363001, x363002, x382000, x382001, x382002, x388000, x388001, x388002, x394000, x394001, x394002, x401000, x401001, x401002 => if x53 = true then (some false) else ((laws_toDyadic.f k x362000 x362001 x362002).bind fun bt402 => ((laws_eqDyadic.f k x388000 x388001 x388002 bt402.1 bt402.2.1 bt402.2.2).bind fun t407 => (if t407 = true then ((laws_toDyadic.f k x363000 x363001 x363002).bind fun bt408 => ((laws_eqDyadic.f k x394000 x394001 x394002 bt408.1 bt408.2.1 bt408.2.2).bind fun t413 => (if t413 = true then ((laws_markDyadic.f k x388000 x388001 x388002 1).bind fun bt414 => ((laws_markDyadic.f k x394000 x394001 x394002 bt414.1).bind fun bt416 => (if bt416.1 < 0 then (laws_FnExactSubtractDyadics.j1 k x7 true x362000 x362001 x362002 x363000 x363001 x363002 x382000 x382001 x382002 x401000 x401001 x401002) else ((laws_eqDyadic.f k x401000 x401001 x401002 x382000 x382001 x382002).bind fun t418 => (if t418 = true then (laws_FnExactSubtractDyadics.j1 k x7 (x11 != x7) x362000 x362001 x362002 x363000 x363001 x363002 x382000 x382001 x382002 x401000 x401001 x401002) else (laws_FnExactSubtractDyadics.j1 k x7 true x362000 x362001 x362002 x363000 x363001 x363002 x382000 x382001 x382002 x401000 x401001 x401002)))))) else (some false)))) else (some false))))
def laws_FnExactSubtractDyadics.j1 : Nat → Int → Bool → Int → List Int → Int → Int → List Int → Int → Int → List Int → Int → Int → List Int → Int → Option (Bool)
  | 0, _, _, _, _, _, _, _, _, _, _, _, _, _, _ => none
  | k + 1, x7, x82, x362000, x362001, x362002, x363000, x363001, x363002, x382000, x382001, x382002, x401000, x401001, x401002 => if x82 = true then (some false) else ((laws_markDyadic.f k x401000 x401001 x401002 1).bind fun bt419 => ((laws_heldDyadic.f k x401000 bt419.2 x401002 1).bind fun t421 => (if t421 < 0 then (some false) else (if t421 = bt419.1 then ((laws_toDyadic.f k x362000 x362001 x362002).bind fun bt422 => ((laws_toDyadic.f k x363000 x363001 x363002).bind fun bt427 => ((impl_SubtractDyadics.f bt422.1 bt422.2.1 bt422.2.2 bt427.1 bt427.2.1 bt427.2.2).bind fun bt432 => ((laws_eqDyadic.f k bt432.1 bt432.2.1 bt432.2.2.1 x382000 x382001 x382002).bind fun t439 => (if t439 = true then (laws_FnExactSubtractDyadics.j2 k bt419.1 (bt432.2.2.2 != x7) x401000 bt419.2 x401002) else (laws_FnExactSubtractDyadics.j2 k bt419.1 true x401000 bt419.2 x401002)))))) else (some false)))))
def laws_FnExactSubtractDyadics.j2 : Nat → Int → Bool → Int → List Int → Int → Option (Bool)
  | 0, _, _, _, _, _ => none
  | k + 1, x13, x110, x401000, x401001, x401002 => if x110 = true then (some false) else ((laws_heldDyadic.f k x401000 x401001 x401002 1).bind fun t440 => (if t440 < 0 then (some false) else (if t440 = x13 then (some true) else (some false))))
end
def laws_FnExactSubtractDyadics.f (k : Nat) (a0_0 : Int) (l0_1 : List Int) (a0_2 : Int) (a1_0 : Int) (l1_1 : List Int) (a1_2 : Int) : Option (Bool) := (laws_szDyadic.f a0_0 l0_1 a0_2 1048576).bind fun t363 => (if t363 < 0 then (some true) else ((laws_szDyadic.f a1_0 l1_1 a1_2 t363).bind fun t364 => (if t364 < 0 then (some true) else ((laws_toDyadic.f k a0_0 l0_1 a0_2).bind fun bt365 => ((laws_toDyadic.f k a1_0 l1_1 a1_2).bind fun bt370 => ((spec_SubtractDyadics.f k bt365.1 bt365.2.1 bt365.2.2 bt370.1 bt370.2.1 bt370.2.2).bind fun bt375 => ((laws_toDyadic.f k a0_0 l0_1 a0_2).bind fun bt382 => ((laws_toDyadic.f k a1_0 l1_1 a1_2).bind fun bt388 => ((impl_SubtractDyadics.f bt382.1 bt382.2.1 bt382.2.2 bt388.1 bt388.2.1 bt388.2.2).bind fun bt394 => ((laws_eqDyadic.f k bt394.1 bt394.2.1 bt394.2.2.1 bt375.1 bt375.2.1 bt375.2.2.1).bind fun t401 => (if t401 = true then (laws_FnExactSubtractDyadics.j0 k bt375.2.2.2 bt394.2.2.2 (bt394.2.2.2 != bt375.2.2.2) a0_0 l0_1 a0_2 a1_0 l1_1 a1_2 bt375.1 bt375.2.1 bt375.2.2.1 bt382.1 bt382.2.1 bt382.2.2 bt388.1 bt388.2.1 bt388.2.2 bt394.1 bt394.2.1 bt394.2.2.1) else (laws_FnExactSubtractDyadics.j0 k bt375.2.2.2 bt394.2.2.2 true a0_0 l0_1 a0_2 a1_0 l1_1 a1_2 bt375.1 bt375.2.1 bt375.2.2.1 bt382.1 bt382.2.1 bt382.2.2 bt388.1 bt388.2.1 bt388.2.2 bt394.1 bt394.2.1 bt394.2.2.1))))))))))))
theorem laws_FnExactSubtractDyadics.mono_l : ∀ k, (∀ y0 y1 y2 y3 y4 y5 y6 y7 y8 y9 y10 y11 y12 y13 y14 y15 y16 y17 y18 y19 y20, LeO (laws_FnExactSubtractDyadics.j0 k y0 y1 y2 y3 y4 y5 y6 y7 y8 y9 y10 y11 y12 y13 y14 y15 y16 y17 y18 y19 y20) (laws_FnExactSubtractDyadics.j0 (k + 1) y0 y1 y2 y3 y4 y5 y6 y7 y8 y9 y10 y11 y12 y13 y14 y15 y16 y17 y18 y19 y20)) ∧ (∀ y0 y1 y2 y3 y4 y5 y6 y7 y8 y9 y10 y11 y12 y13, LeO (laws_FnExactSubtractDyadics.j1 k y0 y1 y2 y3 y4 y5 y6 y7 y8 y9 y10 y11 y12 y13) (laws_FnExactSubtractDyadics.j1 (k + 1) y0 y1 y2 y3 y4 y5 y6 y7 y8 y9 y10 y11 y12 y13)) ∧ (∀ y0 y1 y2 y3 y4, LeO (laws_FnExactSubtractDyadics.j2 k y0 y1 y2 y3 y4) (laws_FnExactSubtractDyadics.j2 (k + 1) y0 y1 y2 y3 y4))
  | 0 => ⟨fun _ _ _ _ _ _ _ _ _ _ _ _ _ _ _ _ _ _ _ _ _ r h => by simp [laws_FnExactSubtractDyadics.j0] at h, fun _ _ _ _ _ _ _ _ _ _ _ _ _ _ r h => by simp [laws_FnExactSubtractDyadics.j1] at h, fun _ _ _ _ _ r h => by simp [laws_FnExactSubtractDyadics.j2] at h⟩
  | k + 1 => by
    obtain ⟨ih0, ih1, ih2⟩ := laws_FnExactSubtractDyadics.mono_l k
    refine ⟨?_, ?_, ?_⟩
    · intro y0 y1 y2 y3 y4 y5 y6 y7 y8 y9 y10 y11 y12 y13 y14 y15 y16 y17 y18 y19 y20
      unfold laws_FnExactSubtractDyadics.j0
      repeat' first
      | (with_reducible exact ih0 _ _ _ _ _ _ _ _ _ _ _ _ _ _ _ _ _ _ _ _ _)
      | (with_reducible exact ih1 _ _ _ _ _ _ _ _ _ _ _ _ _ _)
      | (with_reducible exact ih2 _ _ _ _ _)
      | (with_reducible exact laws_eqDyadic.mono _ _ _ _ _ _ _)
      | (with_reducible exact laws_heldDyadic.mono _ _ _ _ _)
      | (with_reducible exact laws_markDyadic.mono _ _ _ _ _)
      | (with_reducible exact laws_toDyadic.mono _ _ _ _)
      | (with_reducible exact spec_SubtractDyadics.mono _ _ _ _ _ _ _)
      | (with_reducible exact LeO.refl _)
      | (with_reducible exact LeO.none _)
      | (with_reducible refine LeO.ite ?_ ?_)
      | (with_reducible refine LeO.bind ?_ (fun _ => ?_))
      | exact ih0 _ _ _ _ _ _ _ _ _ _ _ _ _ _ _ _ _ _ _ _ _
      | exact ih1 _ _ _ _ _ _ _ _ _ _ _ _ _ _
      | exact ih2 _ _ _ _ _
      | exact laws_eqDyadic.mono _ _ _ _ _ _ _
      | exact laws_heldDyadic.mono _ _ _ _ _
      | exact laws_markDyadic.mono _ _ _ _ _
      | exact laws_toDyadic.mono _ _ _ _
      | exact spec_SubtractDyadics.mono _ _ _ _ _ _ _
      | exact LeO.none _
      | refine LeO.ite ?_ ?_
      | refine LeO.bind ?_ (fun _ => ?_)
    · intro y0 y1 y2 y3 y4 y5 y6 y7 y8 y9 y10 y11 y12 y13
      unfold laws_FnExactSubtractDyadics.j1
      repeat' first
      | (with_reducible exact ih0 _ _ _ _ _ _ _ _ _ _ _ _ _ _ _ _ _ _ _ _ _)
      | (with_reducible exact ih1 _ _ _ _ _ _ _ _ _ _ _ _ _ _)
      | (with_reducible exact ih2 _ _ _ _ _)
      | (with_reducible exact laws_eqDyadic.mono _ _ _ _ _ _ _)
      | (with_reducible exact laws_heldDyadic.mono _ _ _ _ _)
      | (with_reducible exact laws_markDyadic.mono _ _ _ _ _)
      | (with_reducible exact laws_toDyadic.mono _ _ _ _)
      | (with_reducible exact spec_SubtractDyadics.mono _ _ _ _ _ _ _)
      | (with_reducible exact LeO.refl _)
      | (with_reducible exact LeO.none _)
      | (with_reducible refine LeO.ite ?_ ?_)
      | (with_reducible refine LeO.bind ?_ (fun _ => ?_))
      | exact ih0 _ _ _ _ _ _ _ _ _ _ _ _ _ _ _ _ _ _ _ _ _
      | exact ih1 _ _ _ _ _ _ _ _ _ _ _ _ _ _
      | exact ih2 _ _ _ _ _
      | exact laws_eqDyadic.mono _ _ _ _ _ _ _
      | exact laws_heldDyadic.mono _ _ _ _ _
      | exact laws_markDyadic.mono _ _ _ _ _
      | exact laws_toDyadic.mono _ _ _ _
      | exact spec_SubtractDyadics.mono _ _ _ _ _ _ _
      | exact LeO.none _
      | refine LeO.ite ?_ ?_
      | refine LeO.bind ?_ (fun _ => ?_)
    · intro y0 y1 y2 y3 y4
      unfold laws_FnExactSubtractDyadics.j2
      repeat' first
      | (with_reducible exact ih0 _ _ _ _ _ _ _ _ _ _ _ _ _ _ _ _ _ _ _ _ _)
      | (with_reducible exact ih1 _ _ _ _ _ _ _ _ _ _ _ _ _ _)
      | (with_reducible exact ih2 _ _ _ _ _)
      | (with_reducible exact laws_eqDyadic.mono _ _ _ _ _ _ _)
      | (with_reducible exact laws_heldDyadic.mono _ _ _ _ _)
      | (with_reducible exact laws_markDyadic.mono _ _ _ _ _)
      | (with_reducible exact laws_toDyadic.mono _ _ _ _)
      | (with_reducible exact spec_SubtractDyadics.mono _ _ _ _ _ _ _)
      | (with_reducible exact LeO.refl _)
      | (with_reducible exact LeO.none _)
      | (with_reducible refine LeO.ite ?_ ?_)
      | (with_reducible refine LeO.bind ?_ (fun _ => ?_))
      | exact ih0 _ _ _ _ _ _ _ _ _ _ _ _ _ _ _ _ _ _ _ _ _
      | exact ih1 _ _ _ _ _ _ _ _ _ _ _ _ _ _
      | exact ih2 _ _ _ _ _
      | exact laws_eqDyadic.mono _ _ _ _ _ _ _
      | exact laws_heldDyadic.mono _ _ _ _ _
      | exact laws_markDyadic.mono _ _ _ _ _
      | exact laws_toDyadic.mono _ _ _ _
      | exact spec_SubtractDyadics.mono _ _ _ _ _ _ _
      | exact LeO.none _
      | refine LeO.ite ?_ ?_
      | refine LeO.bind ?_ (fun _ => ?_)
theorem laws_FnExactSubtractDyadics.mono : ∀ a0 a1 a2 a3 a4 a5 k, LeO (laws_FnExactSubtractDyadics.f k a0 a1 a2 a3 a4 a5) (laws_FnExactSubtractDyadics.f (k + 1) a0 a1 a2 a3 a4 a5) := by
  intro a0 a1 a2 a3 a4 a5 k
  obtain ⟨ih0, ih1, ih2⟩ := laws_FnExactSubtractDyadics.mono_l k
  unfold laws_FnExactSubtractDyadics.f
  repeat' first
      | (with_reducible exact ih0 _ _ _ _ _ _ _ _ _ _ _ _ _ _ _ _ _ _ _ _ _)
      | (with_reducible exact ih1 _ _ _ _ _ _ _ _ _ _ _ _ _ _)
      | (with_reducible exact ih2 _ _ _ _ _)
      | (with_reducible exact laws_eqDyadic.mono _ _ _ _ _ _ _)
      | (with_reducible exact laws_heldDyadic.mono _ _ _ _ _)
      | (with_reducible exact laws_markDyadic.mono _ _ _ _ _)
      | (with_reducible exact laws_toDyadic.mono _ _ _ _)
      | (with_reducible exact spec_SubtractDyadics.mono _ _ _ _ _ _ _)
      | (with_reducible exact LeO.refl _)
      | (with_reducible exact LeO.none _)
      | (with_reducible refine LeO.ite ?_ ?_)
      | (with_reducible refine LeO.bind ?_ (fun _ => ?_))
      | exact ih0 _ _ _ _ _ _ _ _ _ _ _ _ _ _ _ _ _ _ _ _ _
      | exact ih1 _ _ _ _ _ _ _ _ _ _ _ _ _ _
      | exact ih2 _ _ _ _ _
      | exact laws_eqDyadic.mono _ _ _ _ _ _ _
      | exact laws_heldDyadic.mono _ _ _ _ _
      | exact laws_markDyadic.mono _ _ _ _ _
      | exact laws_toDyadic.mono _ _ _ _
      | exact spec_SubtractDyadics.mono _ _ _ _ _ _ _
      | exact LeO.none _
      | refine LeO.ite ?_ ?_
      | refine LeO.bind ?_ (fun _ => ?_)
def laws_FnExactSubtractDyadics.T8 : Bool × List (List Nat × List Nat) := (true, [([], []), ([0], [0]), ([], []), ([2, 1], [2]), ([1, 3, 3], [1, 3]), ([4], [4]), ([5], [5]), ([5], [5]), ([], []), ([8, 6, 4, 0, 1, 2, 3, 4, 5, 6, 8], [6, 8]), ([7, 9, 0, 1, 2, 3, 4, 5, 6, 7, 8, 9], [7])])
def laws_FnExactSubtractDyadics.B8 : List Nat := [0, 1, 0, 7, 15, 31, 63, 63, 0, 383, 1023]
theorem laws_FnExactSubtractDyadics.tab8 : rtab .any (opsOf Tryd.f10 8) = laws_FnExactSubtractDyadics.T8 := by kernel_rfl
theorem laws_FnExactSubtractDyadics.bits8 : waitsOk laws_FnExactSubtractDyadics.T8.2 laws_FnExactSubtractDyadics.B8 = true := by kernel_rfl
def laws_FnExactSubtractDyadics.T31 : Bool × List (List Nat × List Nat) := (true, [([], []), ([0], [0]), ([], []), ([2, 1], [2]), ([1, 3, 3], [1, 3]), ([4], [4]), ([5], [5]), ([5], [5]), ([], []), ([8, 6, 4, 0, 1, 2, 3, 4, 5, 6, 8], [6, 8]), ([7, 9, 0, 1, 2, 3, 4, 5, 6, 7, 8, 9], [7])])
def laws_FnExactSubtractDyadics.B31 : List Nat := [0, 1, 0, 7, 15, 31, 63, 63, 0, 383, 1023]
theorem laws_FnExactSubtractDyadics.tab31 : rtab .any (opsOf Tryd.f10 31) = laws_FnExactSubtractDyadics.T31 := by kernel_rfl
theorem laws_FnExactSubtractDyadics.bits31 : waitsOk laws_FnExactSubtractDyadics.T31.2 laws_FnExactSubtractDyadics.B31 = true := by kernel_rfl
set_option maxHeartbeats 8000000 in
set_option maxRecDepth 100000 in
theorem laws_FnExactSubtractDyadics.calls (k : Nat) (a0_0 : Int) (A0_1 : Option Addr) (c0_1 : Nat) (l0_1 : List Int) (a0_2 : Int) (a1_0 : Int) (A1_1 : Option Addr) (c1_1 : Nat) (l1_1 : List Int) (a1_2 : Int) (r : Bool) (w : World) (hr0_1 : Kd.C (Kd.int .i64) w A0_1 l0_1.length l0_1) (hc0_1 : l0_1.length ≤ c0_1) (hr1_1 : Kd.C (Kd.int .i64) w A1_1 l1_1.length l1_1) (hc1_1 : l1_1.length ≤ c1_1) (hT : Go.Proofs.YthddlechoibdkaaDoor.Big.Tab w) (h : laws_FnExactSubtractDyadics.f k a0_0 l0_1 a0_2 a1_0 l1_1 a1_2 = some r) :
  Calls Tryd.prog 10 #[.agg #[.int .i64 a0_0, .slice A0_1 l0_1.length c0_1, .int .i64 a0_2], .agg #[.int .i64 a1_0, .slice A1_1 l1_1.length c1_1, .int .i64 a1_2]] w fun e w' => e = .returned (.bool r) ∧ Below w.heap.size w w' := by
 have HTab := Aside0.mk hT; clear hT
 have hu26 := Tryd.underlying26; have hu30 := Tryd.underlying30; have HR0_1 := Aside0.mk hr0_1; have HC0_1 := Aside0.mk hc0_1; clear hr0_1 hc0_1; have HR1_1 := Aside0.mk hr1_1; have HC1_1 := Aside0.mk hc1_1; clear hr1_1 hc1_1; have HB := am_ (Below.refl w.heap.size w)
 have H : ((laws_szDyadic.f a0_0 l0_1 a0_2 1048576).bind fun t363 => (if t363 < 0 then (some true) else ((laws_szDyadic.f a1_0 l1_1 a1_2 t363).bind fun t364 => (if t364 < 0 then (some true) else ((laws_toDyadic.f k a0_0 l0_1 a0_2).bind fun bt365 => ((laws_toDyadic.f k a1_0 l1_1 a1_2).bind fun bt370 => ((spec_SubtractDyadics.f k bt365.1 bt365.2.1 bt365.2.2 bt370.1 bt370.2.1 bt370.2.2).bind fun bt375 => ((laws_toDyadic.f k a0_0 l0_1 a0_2).bind fun bt382 => ((laws_toDyadic.f k a1_0 l1_1 a1_2).bind fun bt388 => ((impl_SubtractDyadics.f bt382.1 bt382.2.1 bt382.2.2 bt388.1 bt388.2.1 bt388.2.2).bind fun bt394 => ((laws_eqDyadic.f k bt394.1 bt394.2.1 bt394.2.2.1 bt375.1 bt375.2.1 bt375.2.2.1).bind fun t401 => (if t401 = true then (laws_FnExactSubtractDyadics.j0 k bt375.2.2.2 bt394.2.2.2 (bt394.2.2.2 != bt375.2.2.2) a0_0 l0_1 a0_2 a1_0 l1_1 a1_2 bt375.1 bt375.2.1 bt375.2.2.1 bt382.1 bt382.2.1 bt382.2.2 bt388.1 bt388.2.1 bt388.2.2 bt394.1 bt394.2.1 bt394.2.2.1) else (laws_FnExactSubtractDyadics.j0 k bt375.2.2.2 bt394.2.2.2 true a0_0 l0_1 a0_2 a1_0 l1_1 a1_2 bt375.1 bt375.2.1 bt375.2.2.1 bt382.1 bt382.2.1 bt382.2.2 bt388.1 bt388.2.1 bt388.2.2 bt394.1 bt394.2.1 bt394.2.2.1))))))))))))) = some r := h
 clear h
 replace H := Option.bind_eq_some_iff.mp H
 obtain ⟨t363, A30, H⟩ := H
 replace H : (if t363 < 0 then (some true) else ((laws_szDyadic.f a1_0 l1_1 a1_2 t363).bind fun t364 => (if t364 < 0 then (some true) else ((laws_toDyadic.f k a0_0 l0_1 a0_2).bind fun bt365 => ((laws_toDyadic.f k a1_0 l1_1 a1_2).bind fun bt370 => ((spec_SubtractDyadics.f k bt365.1 bt365.2.1 bt365.2.2 bt370.1 bt370.2.1 bt370.2.2).bind fun bt375 => ((laws_toDyadic.f k a0_0 l0_1 a0_2).bind fun bt382 => ((laws_toDyadic.f k a1_0 l1_1 a1_2).bind fun bt388 => ((impl_SubtractDyadics.f bt382.1 bt382.2.1 bt382.2.2 bt388.1 bt388.2.1 bt388.2.2).bind fun bt394 => ((laws_eqDyadic.f k bt394.1 bt394.2.1 bt394.2.2.1 bt375.1 bt375.2.1 bt375.2.2.1).bind fun t401 => (if t401 = true then (laws_FnExactSubtractDyadics.j0 k bt375.2.2.2 bt394.2.2.2 (bt394.2.2.2 != bt375.2.2.2) a0_0 l0_1 a0_2 a1_0 l1_1 a1_2 bt375.1 bt375.2.1 bt375.2.2.1 bt382.1 bt382.2.1 bt382.2.2 bt388.1 bt388.2.1 bt388.2.2 bt394.1 bt394.2.1 bt394.2.2.1) else (laws_FnExactSubtractDyadics.j0 k bt375.2.2.2 bt394.2.2.2 true a0_0 l0_1 a0_2 a1_0 l1_1 a1_2 bt375.1 bt375.2.1 bt375.2.2.1 bt382.1 bt382.2.1 bt382.2.2 bt388.1 bt388.2.1 bt388.2.2 bt394.1 bt394.2.1 bt394.2.2.1)))))))))))) = some r := H
 have A3 := Aside0.mk A30; clear A30
 by_cases c4 : t363 < 0
 ·rw [if_pos c4] at H
  have c4b0 : decide (t363 < 0) = true := decide_eq_true c4
  clear c4; obtain rfl := Option.some.inj H
  go_enter Tryd.func10, Tryd.ntmps10
  go_wp2_with (first | ((with_reducible refine gate_dst (N := 2) rfl ?_); refine box_event ?hg (N := 2) ?hd (cs := #[.int .i64 a0_0, .slice A0_1 l0_1.length c0_1, .int .i64 a0_2]) (t := 26) ?hr ?_; (case hd => rfl); (case hg => rfl); (case hr => first | (go_simp; done) | (go_simp; rfl)); intro gb361 hg w5 hbox hb; have BK361 := am_ (hbox); have GW361 := am_ (gs_ hg HB); have GE361 := am_ (gs_ hg HB); replace HB := am_ (below_step (bl_ HB) hb); clear hb hbox hg) | ((with_reducible refine gate_dst (N := 3) rfl ?_); refine box_event ?hg (N := 3) ?hd (cs := #[.int .i64 a1_0, .slice A1_1 l1_1.length c1_1, .int .i64 a1_2]) (t := 26) ?hr ?_; (case hd => rfl); (case hg => rfl); (case hr => first | (go_simp; done) | (go_simp; rfl)); intro gb362 hg w6 hbox hb; have BK362 := am_ (hbox); have GW362 := am_ (gs_ hg HB); have GE362 := am_ (gs_ hg HB); have NB361_362 := am_ (nl_ hg BK361); have NB362_361 := am_ (ng_ hg BK361); replace BK361 := am_ (blk_below (bk_ BK361) hb); replace HB := am_ (below_step (bl_ HB) hb); clear hb hbox hg; have hnb7 := NB361_362.out; have hnc7 := NB362_361.out; have hcz8_0 : w6.cell? ⟨gb361, 0, none⟩ = some (.int .i64 a0_0) := bc_ BK361 0; have hcz8_1 : w6.cell? ⟨gb361, 1, none⟩ = some (.slice A0_1 l0_1.length c0_1) := bc_ BK361 1; have hcz8_2 : w6.cell? ⟨gb361, 2, none⟩ = some (.int .i64 a0_2) := bc_ BK361 2; have hfz8_0 := blk_frozen BK361.out 0; have hfz8_1 := blk_frozen BK361.out 1; have hfz8_2 := blk_frozen BK361.out 2) | ((with_reducible refine gate_callee (f := 11) rfl ?_); refine goesL_ (some 19) rfl rfl Tryd.func11 (by kernel_rfl) rfl #[.agg #[.int .i64 a0_0, .slice A0_1 l0_1.length c0_1, .int .i64 a0_2], .int .i64 1048576] rfl ma_ ?_; (with_reducible refine (laws_szDyadic.calls a0_0 _ _ l0_1 a0_2 1048576 t363 _ ?side1 ?side2 A3.out).mono ?_); (case side1 => exact cb_ HR0_1 HB); (case side2 => exact HC0_1.out); rintro e w9 ⟨rfl, hb⟩; refine ⟨_, rfl, ?_⟩; replace BK361 := am_ (blk_below (bk_ BK361) hb); replace BK362 := am_ (blk_below (bk_ BK362) hb); replace HB := am_ (below_step (bl_ HB) hb); (try clear hb); (try clear hb2); (try clear hk); (try clear hi)))
  go_ret
  exact ⟨by first | rfl | (simp [errW_none, errW_some] <;> rfl) | (simp [*, errW_none, errW_some] <;> rfl), bl_ HB⟩
 ·rw [if_neg c4] at H
  have c4b0 : decide (t363 < 0) = false := decide_eq_false c4
  clear c4
  replace H := Option.bind_eq_some_iff.mp H
  obtain ⟨t364, A100, H⟩ := H
  replace H : (if t364 < 0 then (some true) else ((laws_toDyadic.f k a0_0 l0_1 a0_2).bind fun bt365 => ((laws_toDyadic.f k a1_0 l1_1 a1_2).bind fun bt370 => ((spec_SubtractDyadics.f k bt365.1 bt365.2.1 bt365.2.2 bt370.1 bt370.2.1 bt370.2.2).bind fun bt375 => ((laws_toDyadic.f k a0_0 l0_1 a0_2).bind fun bt382 => ((laws_toDyadic.f k a1_0 l1_1 a1_2).bind fun bt388 => ((impl_SubtractDyadics.f bt382.1 bt382.2.1 bt382.2.2 bt388.1 bt388.2.1 bt388.2.2).bind fun bt394 => ((laws_eqDyadic.f k bt394.1 bt394.2.1 bt394.2.2.1 bt375.1 bt375.2.1 bt375.2.2.1).bind fun t401 => (if t401 = true then (laws_FnExactSubtractDyadics.j0 k bt375.2.2.2 bt394.2.2.2 (bt394.2.2.2 != bt375.2.2.2) a0_0 l0_1 a0_2 a1_0 l1_1 a1_2 bt375.1 bt375.2.1 bt375.2.2.1 bt382.1 bt382.2.1 bt382.2.2 bt388.1 bt388.2.1 bt388.2.2 bt394.1 bt394.2.1 bt394.2.2.1) else (laws_FnExactSubtractDyadics.j0 k bt375.2.2.2 bt394.2.2.2 true a0_0 l0_1 a0_2 a1_0 l1_1 a1_2 bt375.1 bt375.2.1 bt375.2.2.1 bt382.1 bt382.2.1 bt382.2.2 bt388.1 bt388.2.1 bt388.2.2 bt394.1 bt394.2.1 bt394.2.2.1)))))))))) = some r := H
  have A10 := Aside0.mk A100; clear A100
  by_cases c11 : t364 < 0
  ·rw [if_pos c11] at H
   have c11b0 : decide (t364 < 0) = true := decide_eq_true c11
   clear c11; obtain rfl := Option.some.inj H
   go_enter Tryd.func10, Tryd.ntmps10
   go_wp2_with (first | ((with_reducible refine gate_dst (N := 2) rfl ?_); refine box_event ?hg (N := 2) ?hd (cs := #[.int .i64 a0_0, .slice A0_1 l0_1.length c0_1, .int .i64 a0_2]) (t := 26) ?hr ?_; (case hd => rfl); (case hg => rfl); (case hr => first | (go_simp; done) | (go_simp; rfl)); intro gb361 hg w12 hbox hb; have BK361 := am_ (hbox); have GW361 := am_ (gs_ hg HB); have GE361 := am_ (gs_ hg HB); replace HB := am_ (below_step (bl_ HB) hb); clear hb hbox hg) | ((with_reducible refine gate_dst (N := 3) rfl ?_); refine box_event ?hg (N := 3) ?hd (cs := #[.int .i64 a1_0, .slice A1_1 l1_1.length c1_1, .int .i64 a1_2]) (t := 26) ?hr ?_; (case hd => rfl); (case hg => rfl); (case hr => first | (go_simp; done) | (go_simp; rfl)); intro gb362 hg w13 hbox hb; have BK362 := am_ (hbox); have GW362 := am_ (gs_ hg HB); have GE362 := am_ (gs_ hg HB); have NB361_362 := am_ (nl_ hg BK361); have NB362_361 := am_ (ng_ hg BK361); replace BK361 := am_ (blk_below (bk_ BK361) hb); replace HB := am_ (below_step (bl_ HB) hb); clear hb hbox hg; have hnb14 := NB361_362.out; have hnc14 := NB362_361.out; have hcz15_0 : w13.cell? ⟨gb361, 0, none⟩ = some (.int .i64 a0_0) := bc_ BK361 0; have hcz15_1 : w13.cell? ⟨gb361, 1, none⟩ = some (.slice A0_1 l0_1.length c0_1) := bc_ BK361 1; have hcz15_2 : w13.cell? ⟨gb361, 2, none⟩ = some (.int .i64 a0_2) := bc_ BK361 2; have hfz15_0 := blk_frozen BK361.out 0; have hfz15_1 := blk_frozen BK361.out 1; have hfz15_2 := blk_frozen BK361.out 2) | ((with_reducible refine gate_callee (f := 11) rfl ?_); refine goesL_ (some 19) rfl rfl Tryd.func11 (by kernel_rfl) rfl #[.agg #[.int .i64 a0_0, .slice A0_1 l0_1.length c0_1, .int .i64 a0_2], .int .i64 1048576] rfl ma_ ?_; (with_reducible refine (laws_szDyadic.calls a0_0 _ _ l0_1 a0_2 1048576 t363 _ ?side1 ?side2 A3.out).mono ?_); (case side1 => exact cb_ HR0_1 HB); (case side2 => exact HC0_1.out); rintro e w16 ⟨rfl, hb⟩; refine ⟨_, rfl, ?_⟩; replace BK361 := am_ (blk_below (bk_ BK361) hb); replace BK362 := am_ (blk_below (bk_ BK362) hb); replace HB := am_ (below_step (bl_ HB) hb); (try clear hb); (try clear hb2); (try clear hk); (try clear hi); have hcz17_0 : w16.cell? ⟨gb362, 0, none⟩ = some (.int .i64 a1_0) := bc_ BK362 0; have hcz17_1 : w16.cell? ⟨gb362, 1, none⟩ = some (.slice A1_1 l1_1.length c1_1) := bc_ BK362 1; have hcz17_2 : w16.cell? ⟨gb362, 2, none⟩ = some (.int .i64 a1_2) := bc_ BK362 2; have hfz17_0 := blk_frozen BK362.out 0; have hfz17_1 := blk_frozen BK362.out 1; have hfz17_2 := blk_frozen BK362.out 2) | ((with_reducible refine gate_callee (f := 11) rfl ?_); refine goesL_ (some 24) rfl rfl Tryd.func11 (by kernel_rfl) rfl #[.agg #[.int .i64 a1_0, .slice A1_1 l1_1.length c1_1, .int .i64 a1_2], .int .i64 t363] rfl ma_ ?_; (with_reducible refine (laws_szDyadic.calls a1_0 _ _ l1_1 a1_2 t363 t364 _ ?side1 ?side2 A10.out).mono ?_); (case side1 => exact cb_ HR1_1 HB); (case side2 => exact HC1_1.out); rintro e w18 ⟨rfl, hb⟩; refine ⟨_, rfl, ?_⟩; replace BK361 := am_ (blk_below (bk_ BK361) hb); replace BK362 := am_ (blk_below (bk_ BK362) hb); replace HB := am_ (below_step (bl_ HB) hb); (try clear hb); (try clear hb2); (try clear hk); (try clear hi)))
   go_ret
   exact ⟨by first | rfl | (simp [errW_none, errW_some] <;> rfl) | (simp [*, errW_none, errW_some] <;> rfl), bl_ HB⟩
  ·rw [if_neg c11] at H
   have c11b0 : decide (t364 < 0) = false := decide_eq_false c11
   clear c11
   replace H := Option.bind_eq_some_iff.mp H
   obtain ⟨⟨t365, t366, t369⟩, A190, H⟩ := H
   replace H : ((laws_toDyadic.f k a1_0 l1_1 a1_2).bind fun bt370 => ((spec_SubtractDyadics.f k t365 t366 t369 bt370.1 bt370.2.1 bt370.2.2).bind fun bt375 => ((laws_toDyadic.f k a0_0 l0_1 a0_2).bind fun bt382 => ((laws_toDyadic.f k a1_0 l1_1 a1_2).bind fun bt388 => ((impl_SubtractDyadics.f bt382.1 bt382.2.1 bt382.2.2 bt388.1 bt388.2.1 bt388.2.2).bind fun bt394 => ((laws_eqDyadic.f k bt394.1 bt394.2.1 bt394.2.2.1 bt375.1 bt375.2.1 bt375.2.2.1).bind fun t401 => (if t401 = true then (laws_FnExactSubtractDyadics.j0 k bt375.2.2.2 bt394.2.2.2 (bt394.2.2.2 != bt375.2.2.2) a0_0 l0_1 a0_2 a1_0 l1_1 a1_2 bt375.1 bt375.2.1 bt375.2.2.1 bt382.1 bt382.2.1 bt382.2.2 bt388.1 bt388.2.1 bt388.2.2 bt394.1 bt394.2.1 bt394.2.2.1) else (laws_FnExactSubtractDyadics.j0 k bt375.2.2.2 bt394.2.2.2 true a0_0 l0_1 a0_2 a1_0 l1_1 a1_2 bt375.1 bt375.2.1 bt375.2.2.1 bt382.1 bt382.2.1 bt382.2.2 bt388.1 bt388.2.1 bt388.2.2 bt394.1 bt394.2.1 bt394.2.2.1)))))))) = some r := H
   have A19 := Aside0.mk A190; clear A190
   replace H := Option.bind_eq_some_iff.mp H
   obtain ⟨⟨t370, t371, t374⟩, A200, H⟩ := H
   replace H : ((spec_SubtractDyadics.f k t365 t366 t369 t370 t371 t374).bind fun bt375 => ((laws_toDyadic.f k a0_0 l0_1 a0_2).bind fun bt382 => ((laws_toDyadic.f k a1_0 l1_1 a1_2).bind fun bt388 => ((impl_SubtractDyadics.f bt382.1 bt382.2.1 bt382.2.2 bt388.1 bt388.2.1 bt388.2.2).bind fun bt394 => ((laws_eqDyadic.f k bt394.1 bt394.2.1 bt394.2.2.1 bt375.1 bt375.2.1 bt375.2.2.1).bind fun t401 => (if t401 = true then (laws_FnExactSubtractDyadics.j0 k bt375.2.2.2 bt394.2.2.2 (bt394.2.2.2 != bt375.2.2.2) a0_0 l0_1 a0_2 a1_0 l1_1 a1_2 bt375.1 bt375.2.1 bt375.2.2.1 bt382.1 bt382.2.1 bt382.2.2 bt388.1 bt388.2.1 bt388.2.2 bt394.1 bt394.2.1 bt394.2.2.1) else (laws_FnExactSubtractDyadics.j0 k bt375.2.2.2 bt394.2.2.2 true a0_0 l0_1 a0_2 a1_0 l1_1 a1_2 bt375.1 bt375.2.1 bt375.2.2.1 bt382.1 bt382.2.1 bt382.2.2 bt388.1 bt388.2.1 bt388.2.2 bt394.1 bt394.2.1 bt394.2.2.1))))))) = some r := H
   have A20 := Aside0.mk A200; clear A200
   replace H := Option.bind_eq_some_iff.mp H
   obtain ⟨⟨t375, t376, t379, t380⟩, A210, H⟩ := H
   replace H : ((laws_toDyadic.f k a0_0 l0_1 a0_2).bind fun bt382 => ((laws_toDyadic.f k a1_0 l1_1 a1_2).bind fun bt388 => ((impl_SubtractDyadics.f bt382.1 bt382.2.1 bt382.2.2 bt388.1 bt388.2.1 bt388.2.2).bind fun bt394 => ((laws_eqDyadic.f k bt394.1 bt394.2.1 bt394.2.2.1 t375 t376 t379).bind fun t401 => (if t401 = true then (laws_FnExactSubtractDyadics.j0 k t380 bt394.2.2.2 (bt394.2.2.2 != t380) a0_0 l0_1 a0_2 a1_0 l1_1 a1_2 t375 t376 t379 bt382.1 bt382.2.1 bt382.2.2 bt388.1 bt388.2.1 bt388.2.2 bt394.1 bt394.2.1 bt394.2.2.1) else (laws_FnExactSubtractDyadics.j0 k t380 bt394.2.2.2 true a0_0 l0_1 a0_2 a1_0 l1_1 a1_2 t375 t376 t379 bt382.1 bt382.2.1 bt382.2.2 bt388.1 bt388.2.1 bt388.2.2 bt394.1 bt394.2.1 bt394.2.2.1)))))) = some r := H
   have A21 := Aside0.mk A210; clear A210
   replace H := Option.bind_eq_some_iff.mp H
   obtain ⟨⟨t382, t383, t386⟩, A220, H⟩ := H
   replace H : ((laws_toDyadic.f k a1_0 l1_1 a1_2).bind fun bt388 => ((impl_SubtractDyadics.f t382 t383 t386 bt388.1 bt388.2.1 bt388.2.2).bind fun bt394 => ((laws_eqDyadic.f k bt394.1 bt394.2.1 bt394.2.2.1 t375 t376 t379).bind fun t401 => (if t401 = true then (laws_FnExactSubtractDyadics.j0 k t380 bt394.2.2.2 (bt394.2.2.2 != t380) a0_0 l0_1 a0_2 a1_0 l1_1 a1_2 t375 t376 t379 t382 t383 t386 bt388.1 bt388.2.1 bt388.2.2 bt394.1 bt394.2.1 bt394.2.2.1) else (laws_FnExactSubtractDyadics.j0 k t380 bt394.2.2.2 true a0_0 l0_1 a0_2 a1_0 l1_1 a1_2 t375 t376 t379 t382 t383 t386 bt388.1 bt388.2.1 bt388.2.2 bt394.1 bt394.2.1 bt394.2.2.1))))) = some r := H
   have A22 := Aside0.mk A220; clear A220
   replace H := Option.bind_eq_some_iff.mp H
   obtain ⟨⟨t388, t389, t392⟩, A230, H⟩ := H
   replace H : ((impl_SubtractDyadics.f t382 t383 t386 t388 t389 t392).bind fun bt394 => ((laws_eqDyadic.f k bt394.1 bt394.2.1 bt394.2.2.1 t375 t376 t379).bind fun t401 => (if t401 = true then (laws_FnExactSubtractDyadics.j0 k t380 bt394.2.2.2 (bt394.2.2.2 != t380) a0_0 l0_1 a0_2 a1_0 l1_1 a1_2 t375 t376 t379 t382 t383 t386 t388 t389 t392 bt394.1 bt394.2.1 bt394.2.2.1) else (laws_FnExactSubtractDyadics.j0 k t380 bt394.2.2.2 true a0_0 l0_1 a0_2 a1_0 l1_1 a1_2 t375 t376 t379 t382 t383 t386 t388 t389 t392 bt394.1 bt394.2.1 bt394.2.2.1)))) = some r := H
   have A23 := Aside0.mk A230; clear A230
   replace H := Option.bind_eq_some_iff.mp H
   obtain ⟨⟨t394, t395, t398, t399⟩, A240, H⟩ := H
   replace H : ((laws_eqDyadic.f k t394 t395 t398 t375 t376 t379).bind fun t401 => (if t401 = true then (laws_FnExactSubtractDyadics.j0 k t380 t399 (t399 != t380) a0_0 l0_1 a0_2 a1_0 l1_1 a1_2 t375 t376 t379 t382 t383 t386 t388 t389 t392 t394 t395 t398) else (laws_FnExactSubtractDyadics.j0 k t380 t399 true a0_0 l0_1 a0_2 a1_0 l1_1 a1_2 t375 t376 t379 t382 t383 t386 t388 t389 t392 t394 t395 t398))) = some r := H
   have A24 := Aside0.mk A240; clear A240; have HC25 := Aside0.mk H; clear H
   go_enter Tryd.func10, Tryd.ntmps10
   try go_wp2_with (first | ((with_reducible refine gate_dst (N := 2) rfl ?_); refine box_event ?hg (N := 2) ?hd (cs := #[.int .i64 a0_0, .slice A0_1 l0_1.length c0_1, .int .i64 a0_2]) (t := 26) ?hr ?_; (case hd => rfl); (case hg => rfl); (case hr => first | (go_simp; done) | (go_simp; rfl)); intro gb361 hg w26 hbox hb; have BK361 := am_ (hbox); have GW361 := am_ (gs_ hg HB); have GE361 := am_ (gs_ hg HB); replace HB := am_ (below_step (bl_ HB) hb); clear hb hbox hg) | ((with_reducible refine gate_dst (N := 3) rfl ?_); refine box_event ?hg (N := 3) ?hd (cs := #[.int .i64 a1_0, .slice A1_1 l1_1.length c1_1, .int .i64 a1_2]) (t := 26) ?hr ?_; (case hd => rfl); (case hg => rfl); (case hr => first | (go_simp; done) | (go_simp; rfl)); intro gb362 hg w27 hbox hb; have BK362 := am_ (hbox); have GW362 := am_ (gs_ hg HB); have GE362 := am_ (gs_ hg HB); have NB361_362 := am_ (nl_ hg BK361); have NB362_361 := am_ (ng_ hg BK361); replace BK361 := am_ (blk_below (bk_ BK361) hb); replace HB := am_ (below_step (bl_ HB) hb); clear hb hbox hg; have hnb28 := NB361_362.out; have hnc28 := NB362_361.out; have hcz29_0 : w27.cell? ⟨gb361, 0, none⟩ = some (.int .i64 a0_0) := bc_ BK361 0; have hcz29_1 : w27.cell? ⟨gb361, 1, none⟩ = some (.slice A0_1 l0_1.length c0_1) := bc_ BK361 1; have hcz29_2 : w27.cell? ⟨gb361, 2, none⟩ = some (.int .i64 a0_2) := bc_ BK361 2; have hfz29_0 := blk_frozen BK361.out 0; have hfz29_1 := blk_frozen BK361.out 1; have hfz29_2 := blk_frozen BK361.out 2) | ((with_reducible refine gate_callee (f := 11) rfl ?_); refine goesL_ (some 19) rfl rfl Tryd.func11 (by kernel_rfl) rfl #[.agg #[.int .i64 a0_0, .slice A0_1 l0_1.length c0_1, .int .i64 a0_2], .int .i64 1048576] rfl ma_ ?_; (with_reducible refine (laws_szDyadic.calls a0_0 _ _ l0_1 a0_2 1048576 t363 _ ?side1 ?side2 A3.out).mono ?_); (case side1 => exact cb_ HR0_1 HB); (case side2 => exact HC0_1.out); rintro e w30 ⟨rfl, hb⟩; refine ⟨_, rfl, ?_⟩; replace BK361 := am_ (blk_below (bk_ BK361) hb); replace BK362 := am_ (blk_below (bk_ BK362) hb); replace HB := am_ (below_step (bl_ HB) hb); (try clear hb); (try clear hb2); (try clear hk); (try clear hi); have hcz31_0 : w30.cell? ⟨gb362, 0, none⟩ = some (.int .i64 a1_0) := bc_ BK362 0; have hcz31_1 : w30.cell? ⟨gb362, 1, none⟩ = some (.slice A1_1 l1_1.length c1_1) := bc_ BK362 1; have hcz31_2 : w30.cell? ⟨gb362, 2, none⟩ = some (.int .i64 a1_2) := bc_ BK362 2; have hfz31_0 := blk_frozen BK362.out 0; have hfz31_1 := blk_frozen BK362.out 1; have hfz31_2 := blk_frozen BK362.out 2) | ((with_reducible refine gate_callee (f := 11) rfl ?_); refine goesL_ (some 24) rfl rfl Tryd.func11 (by kernel_rfl) rfl #[.agg #[.int .i64 a1_0, .slice A1_1 l1_1.length c1_1, .int .i64 a1_2], .int .i64 t363] rfl ma_ ?_; (with_reducible refine (laws_szDyadic.calls a1_0 _ _ l1_1 a1_2 t363 t364 _ ?side1 ?side2 A10.out).mono ?_); (case side1 => exact cb_ HR1_1 HB); (case side2 => exact HC1_1.out); rintro e w32 ⟨rfl, hb⟩; refine ⟨_, rfl, ?_⟩; replace BK361 := am_ (blk_below (bk_ BK361) hb); replace BK362 := am_ (blk_below (bk_ BK362) hb); replace HB := am_ (below_step (bl_ HB) hb); (try clear hb); (try clear hb2); (try clear hk); (try clear hi)))
   have n0_ := am_ (blk_drew BK361.out); have n1_ := am_ (blk_drew BK362.out); have n2_ := am_ (below_drew1 HB.out); clear BK361 BK362 HB; have BK361 := n0_; have BK362 := n1_; have HB := n2_; clear n0_ n1_ n2_
   refine start_ (n := 11) (S := fun w' => w'.cell? ⟨gb361, 0, none⟩ = some (.int .i64 a0_0) ∧ w'.cell? ⟨gb361, 1, none⟩ = some (.slice A0_1 l0_1.length c0_1) ∧ w'.cell? ⟨gb361, 2, none⟩ = some (.int .i64 a0_2) ∧ w'.cell? ⟨gb362, 0, none⟩ = some (.int .i64 a1_0) ∧ w'.cell? ⟨gb362, 1, none⟩ = some (.slice A1_1 l1_1.length c1_1) ∧ w'.cell? ⟨gb362, 2, none⟩ = some (.int .i64 a1_2)) (ds := []) #[false, false, false, false, false, false, false, false, false, false, false] (by kernel_rfl) rfl rfl ⟨bc_ BK361 0, bc_ BK361 1, bc_ BK361 2, bc_ BK362 0, bc_ BK362 1, bc_ BK362 2⟩ (fun hHeld => ?_); refine with_tabW laws_FnExactSubtractDyadics.tab8 laws_FnExactSubtractDyadics.bits8 (fun HT_ HW_ => ?_)
   generalize w32.drew = w33 at BK361 BK362 HB hHeld ⊢
   refine take_ (i := 0) (N := some 28) (v := ?_) (a' := ?_) #[true, false, false, false, false, false, false, false, false, false, false] rfl rfl (take_ofW HT_.out HW_.out (by kernel_rfl)) (fun _ _ _ h => h) (Or.inl ⟨by rfl, ?_⟩) hHeld ?_ ?_
   rotate_left
   ·rintro w' ⟨s0, s1, s2, s3, s4, s5⟩
    go_simp
    with_reducible rfl
   rotate_left
   ·exact nm_
   refine take_ (i := 2) (N := some 30) (v := ?_) (a' := ?_) #[true, false, true, false, false, false, false, false, false, false, false] rfl rfl (take_ofW HT_.out HW_.out (by kernel_rfl)) (fun _ _ _ h => h) (Or.inl ⟨by rfl, ?_⟩) hHeld ?_ ?_
   rotate_left
   ·rintro w' ⟨s0, s1, s2, s3, s4, s5⟩
    go_simp
    with_reducible rfl
   rotate_left
   ·exact nm_
   refine join_ (σ := Value × Value × Value × Nat) 2 #[true, true, true, true, true, true, true, true, true, false, false] (fun s_ => [(29, .agg #[.int .i64 t365, s_.1, .int .i64 t369]), (31, .agg #[.int .i64 t370, s_.2.1, .int .i64 t374]), (32, .tuple #[.agg #[.int .i64 t375, s_.2.2.1, .int .i64 t379], .int .i64 t380]), (6, .pointer (some ⟨s_.2.2.2, 0, none⟩)), (27, .tuple #[.agg #[.int .i64 t375, s_.2.2.1, .int .i64 t379], .int .i64 t380]), (33, .agg #[.int .i64 t375, s_.2.2.1, .int .i64 t379]), (34, .int .i64 t380)]) (fun s_ w' => (w'.cell? ⟨gb361, 0, none⟩ = some (.int .i64 a0_0) ∧ w'.cell? ⟨gb361, 1, none⟩ = some (.slice A0_1 l0_1.length c0_1) ∧ w'.cell? ⟨gb361, 2, none⟩ = some (.int .i64 a0_2) ∧ w'.cell? ⟨gb362, 0, none⟩ = some (.int .i64 a1_0) ∧ w'.cell? ⟨gb362, 1, none⟩ = some (.slice A1_1 l1_1.length c1_1) ∧ w'.cell? ⟨gb362, 2, none⟩ = some (.int .i64 a1_2)) ∧ (Kd.R (Kd.int .i64) 2 w' w.heap.size (fun k_ => some k_ ≠ (s_.2.1 : Value).ownBlock ∧ some k_ ≠ (s_.2.2.1 : Value).ownBlock) s_.1 t366) ∧ (Kd.R (Kd.int .i64) 2 w' w.heap.size (fun k_ => some k_ ≠ (s_.1 : Value).ownBlock ∧ some k_ ≠ (s_.2.2.1 : Value).ownBlock) s_.2.1 t371) ∧ (Kd.R (Kd.int .i64) 2 w' w.heap.size (fun k_ => some k_ ≠ (s_.1 : Value).ownBlock ∧ some k_ ≠ (s_.2.1 : Value).ownBlock) s_.2.2.1 t376) ∧ (w'.heap[gb361]? = some (.cells #[.int .i64 a0_0, .slice A0_1 l0_1.length c0_1, .int .i64 a0_2] 26 (0, 0))) ∧ (w'.heap[gb362]? = some (.cells #[.int .i64 a1_0, .slice A1_1 l1_1.length c1_1, .int .i64 a1_2] 26 (0, 0))) ∧ (w'.heap[s_.2.2.2]? = some (.cells #[.int .i64 0, .slice none 0 0, .int .i64 0] 30 (0, 0))) ∧ (w.heap.size ≤ s_.2.2.2) ∧ (w.heap.size ≤ s_.2.2.2) ∧ (gb361 ≠ s_.2.2.2) ∧ (s_.2.2.2 ≠ gb361) ∧ (gb362 ≠ s_.2.2.2) ∧ (s_.2.2.2 ≠ gb362) ∧ (Below w.heap.size w w')) ?_ ?_
   rotate_left
   ·intro hCont
    refine two_ (i := 1) (j := 8) (Ni := some 29) (Nj := some 6) #[true, true, true, false, false, false, false, false, false, false, false] #[true, false, true, false, false, false, false, false, true, false, false] rfl rfl rfl rfl (two_of HT_.out (by kernel_rfl)) (by decide) (by decide) (fun K hK => ?_) (fun K hK => ?_)
    ·skip
     refine goes_ Tryd.func13 (by kernel_rfl) rfl #[.agg #[.int .i64 a0_0, .slice A0_1 l0_1.length c0_1, .int .i64 a0_2]] (by rfl) rfl rfl ma_ ?_
     with_reducible refine (laws_toDyadic.calls k a0_0 _ _ l0_1 a0_2 t365 t366 t369 _ ?side1 ?side2 A19.out).mono ?_
     (case side1 => exact cb_ HR0_1 HB)
     (case side2 => exact HC0_1.out)
     rintro e w34 ⟨v367, rfl, ho0, hb⟩
     refine ⟨_, rfl, ?_⟩
     have n0_ := am_ (Kd.R_lower ho0 (below_size (bl_ HB))); have n1_ := am_ (blk_below (bk_ BK361) hb); have n2_ := am_ (blk_below (bk_ BK362) hb); have n3_ := am_ (below_step (bl_ HB) hb); clear BK361 BK362 HB; have HO368 := n0_; have BK361 := n1_; have BK362 := n2_; have HB := n3_; clear n0_ n1_ n2_ n3_; (try clear hb); (try clear hb2); (try clear hk); (try clear hi); (try clear ho0)
     refine hK.out _ _ ⟨bc_ BK361 0, bc_ BK361 1, bc_ BK361 2, bc_ BK362 0, bc_ BK362 1, bc_ BK362 2⟩ (fun hHeld => ?_)
     clear hK K
     refine norm_ (a' := ?_) ?_ ?_
     rotate_left
     ·show Act.put _ (some 29) _ = _
      exact nm_
     refine two_ (i := 3) (j := 8) (Ni := some 31) (Nj := some 6) #[true, true, true, true, false, false, false, false, false, false, false] #[true, true, true, false, false, false, false, false, true, false, false] rfl rfl rfl rfl (two_of HT_.out (by kernel_rfl)) (by decide) (by decide) (fun K hK => ?_) (fun K hK => ?_)
     ·skip
      refine goes_ Tryd.func13 (by kernel_rfl) rfl #[.agg #[.int .i64 a1_0, .slice A1_1 l1_1.length c1_1, .int .i64 a1_2]] (by rfl) rfl rfl ma_ ?_
      with_reducible refine (laws_toDyadic.calls k a1_0 _ _ l1_1 a1_2 t370 t371 t374 _ ?side1 ?side2 A20.out).mono ?_
      (case side1 => exact cb_ HR1_1 HB)
      (case side2 => exact HC1_1.out)
      rintro e w35 ⟨v372, rfl, ho0, hb⟩
      refine ⟨_, rfl, ?_⟩
      have n0_ := am_ (Kd.R_elder' (kr_ HO368) (Kd.R_base ho0) hb); have n1_ := am_ (Kd.R_lower (Kd.R_new' ho0 (Kd.R_lt (kr_ HO368))) (below_size (bl_ HB))); have n2_ := am_ (blk_below (bk_ BK361) hb); have n3_ := am_ (blk_below (bk_ BK362) hb); have n4_ := am_ (below_step (bl_ HB) hb); clear HO368 BK361 BK362 HB; have HO368 := n0_; have HO373 := n1_; have BK361 := n2_; have BK362 := n3_; have HB := n4_; clear n0_ n1_ n2_ n3_ n4_; (try clear hb); (try clear hb2); (try clear hk); (try clear hi); (try clear ho0)
      obtain ⟨Ao36, co36, eo36⟩ := Kd.R_slice HO368.out
      (first | subst eo36 | (injection eo36 with f1_ f2_ f3_; have f4_ := f1_.symm; have f5_ := f3_.symm; clear f1_ f2_ f3_; subst f4_; subst f5_))
      obtain ⟨Ao37, co37, eo37⟩ := Kd.R_slice HO373.out
      (first | subst eo37 | (injection eo37 with f1_ f2_ f3_; have f4_ := f1_.symm; have f5_ := f3_.symm; clear f1_ f2_ f3_; subst f4_; subst f5_))
      refine hK.out _ _ ⟨bc_ BK361 0, bc_ BK361 1, bc_ BK361 2, bc_ BK362 0, bc_ BK362 1, bc_ BK362 2⟩ (fun hHeld => ?_)
      clear hK K
      refine norm_ (a' := ?_) ?_ ?_
      rotate_left
      ·show Act.put _ (some 31) _ = _
       exact nm_
      refine two_ (i := 4) (j := 8) (Ni := some 32) (Nj := some 6) #[true, true, true, true, true, false, false, false, false, false, false] #[true, true, true, true, false, false, false, false, true, false, false] rfl rfl rfl rfl (two_of HT_.out (by kernel_rfl)) (by decide) (by decide) (fun K hK => ?_) (fun K hK => ?_)
      ·skip
       refine goes_ Tryd.func34 (by kernel_rfl) rfl #[.agg #[.int .i64 t365, .slice Ao36 t366.length co36, .int .i64 t369], .agg #[.int .i64 t370, .slice Ao37 t371.length co37, .int .i64 t374]] (by rfl) rfl rfl ma_ ?_
       with_reducible refine (spec_SubtractDyadics.calls k t365 _ _ t366 t369 t370 _ _ t371 t374 t375 t376 t379 t380 _ ?side1 ?side2 ?side3 ?side4 A21.out).mono ?_
       (case side1 => exact cr_ HO368)
       (case side2 => exact (Kd.R_reads' HO368.out).2.1)
       (case side3 => exact cr_ HO373)
       (case side4 => exact (Kd.R_reads' HO373.out).2.1)
       rintro e w38 ⟨v377, rfl, ho0, hb⟩
       refine ⟨_, rfl, ?_⟩
       have n0_ := am_ (Kd.R_elder' (kr_ HO368) (Kd.R_base ho0) hb); have n1_ := am_ (Kd.R_elder' (kr_ HO373) (Kd.R_base ho0) hb); have n2_ := am_ (Kd.R_lower (Kd.R_new' (Kd.R_new' ho0 (Kd.R_lt (kr_ HO368))) (Kd.R_lt (kr_ HO373))) (below_size (bl_ HB))); have n3_ := am_ (blk_below (bk_ BK361) hb); have n4_ := am_ (blk_below (bk_ BK362) hb); have n5_ := am_ (below_step (bl_ HB) hb); clear HO368 HO373 BK361 BK362 HB; have HO368 := n0_; have HO373 := n1_; have HO378 := n2_; have BK361 := n3_; have BK362 := n4_; have HB := n5_; clear n0_ n1_ n2_ n3_ n4_ n5_; (try clear hb); (try clear hb2); (try clear hk); (try clear hi); (try clear ho0)
       refine hK.out _ _ ⟨bc_ BK361 0, bc_ BK361 1, bc_ BK361 2, bc_ BK362 0, bc_ BK362 1, bc_ BK362 2⟩ (fun hHeld => ?_)
       clear hK K
       refine norm_ (a' := ?_) ?_ ?_
       rotate_left
       ·show Act.put _ (some 32) _ = _
        exact nm_
       refine pure_ (i := 5) (N := some 27) (v := ?_) (a' := ?_) #[true, true, true, true, true, true, false, false, false, false, false] rfl rfl (any_of HT_.out (by kernel_rfl)) (fun _ _ _ h => h) (Or.inl ⟨by rfl, ?_⟩) ?_ ?_
       rotate_left
       ·intro w'
        go_simp
        with_reducible rfl
       rotate_left
       ·exact nm_
       refine pure_ (i := 6) (N := some 33) (v := ?_) (a' := ?_) #[true, true, true, true, true, true, true, false, false, false, false] rfl rfl (any_of HT_.out (by kernel_rfl)) (fun _ _ _ h => h) (Or.inl ⟨by rfl, ?_⟩) ?_ ?_
       rotate_left
       ·intro w'
        go_simp
        with_reducible rfl
       rotate_left
       ·exact nm_
       refine pure_ (i := 7) (N := some 34) (v := ?_) (a' := ?_) #[true, true, true, true, true, true, true, true, false, false, false] rfl rfl (any_of HT_.out (by kernel_rfl)) (fun _ _ _ h => h) (Or.inl ⟨by rfl, ?_⟩) ?_ ?_
       rotate_left
       ·intro w'
        go_simp
        with_reducible rfl
       rotate_left
       ·exact nm_
       refine one_ (i := 8) (N := some 6) #[true, true, true, true, true, true, true, true, true, false, false] rfl rfl (one_of HT_.out (by kernel_rfl)) (by decide) (fun K hK => ?_)
       refine box_step ?hg (N := 6) ?hd (cs := #[.int .i64 0, .slice none 0 0, .int .i64 0]) (t := 30) ?hr ?_; (case hd => rfl); (case hg => rfl); (case hr => first | (go_simp; done) | (go_simp; rfl))
       intro gb381 hg w39 hbox hb
       have n0_ := am_ (Kd.R_below (kr_ HO368) hb); have n1_ := am_ (Kd.R_below (kr_ HO373) hb); have n2_ := am_ (Kd.R_below (kr_ HO378) hb); have n3_ := am_ (blk_below (bk_ BK361) hb); have n4_ := am_ (blk_below (bk_ BK362) hb); have n5_ := am_ (below_step (bl_ HB) hb); have n6_ := am_ (hbox); have n7_ := am_ (gs_ hg HB); have n8_ := am_ (gs_ hg HB); have n9_ := am_ (nl_ hg BK361); have n10_ := am_ (ng_ hg BK361); have n11_ := am_ (nl_ hg BK362); have n12_ := am_ (ng_ hg BK362); clear HO368 HO373 HO378 BK361 BK362 HB; have HO368 := n0_; have HO373 := n1_; have HO378 := n2_; have BK361 := n3_; have BK362 := n4_; have HB := n5_; have BK381 := n6_; have GW381 := n7_; have GE381 := n8_; have NB361_381 := n9_; have NB381_361 := n10_; have NB362_381 := n11_; have NB381_362 := n12_; clear n0_ n1_ n2_ n3_ n4_ n5_ n6_ n7_ n8_ n9_ n10_ n11_ n12_ hb hbox hg
       refine hK.out _ _ ⟨bc_ BK361 0, bc_ BK361 1, bc_ BK361 2, bc_ BK362 0, bc_ BK362 1, bc_ BK362 2⟩ (fun hHeld => ?_)
       clear hK K
       refine norm_ (a' := ?_) ?_ ?_
       rotate_left
       ·show Act.put _ (some 6) _ = _
        exact nm_
       exact norm_ (by simp only [putAll, Act.put, List.setIfInBounds_toArray, List.set_cons_zero, List.set_cons_succ]) (hCont (.slice Ao36 t366.length co36, .slice Ao37 t371.length co37, v377, gb381) _ ⟨hHeld, (km_ HO368 (fun _ hk => ⟨hk.1.2, hk.2⟩)), (km_ HO373 (fun _ hk => ⟨hk.1.2, hk.2⟩)), (km_ HO378 (fun _ hk => ⟨hk.1.2, hk.2⟩)), (bk_ BK361), (bk_ BK362), (bk_ BK381), GW381.out, GE381.out, NB361_381.out, NB381_361.out, NB362_381.out, NB381_362.out, (bl_ HB)⟩)
      ·skip
       refine box_step ?hg (N := 6) ?hd (cs := #[.int .i64 0, .slice none 0 0, .int .i64 0]) (t := 30) ?hr ?_; (case hd => rfl); (case hg => rfl); (case hr => first | (go_simp; done) | (go_simp; rfl))
       intro gb381 hg w36 hbox hb
       have n0_ := am_ (Kd.R_below (kr_ HO368) hb); have n1_ := am_ (Kd.R_below (kr_ HO373) hb); have n2_ := am_ (blk_below (bk_ BK361) hb); have n3_ := am_ (blk_below (bk_ BK362) hb); have n4_ := am_ (below_step (bl_ HB) hb); have n5_ := am_ (hbox); have n6_ := am_ (gs_ hg HB); have n7_ := am_ (gs_ hg HB); have n8_ := am_ (nl_ hg BK361); have n9_ := am_ (ng_ hg BK361); have n10_ := am_ (nl_ hg BK362); have n11_ := am_ (ng_ hg BK362); clear HO368 HO373 BK361 BK362 HB; have HO368 := n0_; have HO373 := n1_; have BK361 := n2_; have BK362 := n3_; have HB := n4_; have BK381 := n5_; have GW381 := n6_; have GE381 := n7_; have NB361_381 := n8_; have NB381_361 := n9_; have NB362_381 := n10_; have NB381_362 := n11_; clear n0_ n1_ n2_ n3_ n4_ n5_ n6_ n7_ n8_ n9_ n10_ n11_ hb hbox hg
       obtain ⟨Ao37, co37, eo37⟩ := Kd.R_slice HO368.out
       (first | subst eo37 | (injection eo37 with f1_ f2_ f3_; have f4_ := f1_.symm; have f5_ := f3_.symm; clear f1_ f2_ f3_; subst f4_; subst f5_))
       obtain ⟨Ao38, co38, eo38⟩ := Kd.R_slice HO373.out
       (first | subst eo38 | (injection eo38 with f1_ f2_ f3_; have f4_ := f1_.symm; have f5_ := f3_.symm; clear f1_ f2_ f3_; subst f4_; subst f5_))
       refine hK.out _ _ ⟨bc_ BK361 0, bc_ BK361 1, bc_ BK361 2, bc_ BK362 0, bc_ BK362 1, bc_ BK362 2⟩ (fun hHeld => ?_)
       clear hK K
       refine norm_ (a' := ?_) ?_ ?_
       rotate_left
       ·show Act.put _ (some 6) _ = _
        exact nm_
       refine one_ (i := 4) (N := some 32) #[true, true, true, true, true, false, false, false, true, false, false] rfl rfl (one_of HT_.out (by kernel_rfl)) (by decide) (fun K hK => ?_)
       refine goes_ Tryd.func34 (by kernel_rfl) rfl #[.agg #[.int .i64 t365, .slice Ao37 t366.length co37, .int .i64 t369], .agg #[.int .i64 t370, .slice Ao38 t371.length co38, .int .i64 t374]] (by rfl) rfl rfl ma_ ?_
       with_reducible refine (spec_SubtractDyadics.calls k t365 _ _ t366 t369 t370 _ _ t371 t374 t375 t376 t379 t380 _ ?side1 ?side2 ?side3 ?side4 A21.out).mono ?_
       (case side1 => exact cr_ HO368)
       (case side2 => exact (Kd.R_reads' HO368.out).2.1)
       (case side3 => exact cr_ HO373)
       (case side4 => exact (Kd.R_reads' HO373.out).2.1)
       rintro e w39 ⟨v377, rfl, ho0, hb⟩
       refine ⟨_, rfl, ?_⟩
       have n0_ := am_ (Kd.R_elder' (kr_ HO368) (Kd.R_base ho0) hb); have n1_ := am_ (Kd.R_elder' (kr_ HO373) (Kd.R_base ho0) hb); have n2_ := am_ (Kd.R_lower (Kd.R_new' (Kd.R_new' ho0 (Kd.R_lt (kr_ HO368))) (Kd.R_lt (kr_ HO373))) (below_size (bl_ HB))); have n3_ := am_ (blk_below (bk_ BK361) hb); have n4_ := am_ (blk_below (bk_ BK362) hb); have n5_ := am_ (blk_below (bk_ BK381) hb); have n6_ := am_ (below_step (bl_ HB) hb); clear HO368 HO373 BK361 BK362 BK381 HB; have HO368 := n0_; have HO373 := n1_; have HO378 := n2_; have BK361 := n3_; have BK362 := n4_; have BK381 := n5_; have HB := n6_; clear n0_ n1_ n2_ n3_ n4_ n5_ n6_; (try clear hb); (try clear hb2); (try clear hk); (try clear hi); (try clear ho0)
       refine hK.out _ _ ⟨bc_ BK361 0, bc_ BK361 1, bc_ BK361 2, bc_ BK362 0, bc_ BK362 1, bc_ BK362 2⟩ (fun hHeld => ?_)
       clear hK K
       refine norm_ (a' := ?_) ?_ ?_
       rotate_left
       ·show Act.put _ (some 32) _ = _
        exact nm_
       refine pure_ (i := 5) (N := some 27) (v := ?_) (a' := ?_) #[true, true, true, true, true, true, false, false, true, false, false] rfl rfl (any_of HT_.out (by kernel_rfl)) (fun _ _ _ h => h) (Or.inl ⟨by rfl, ?_⟩) ?_ ?_
       rotate_left
       ·intro w'
        go_simp
        with_reducible rfl
       rotate_left
       ·exact nm_
       refine pure_ (i := 6) (N := some 33) (v := ?_) (a' := ?_) #[true, true, true, true, true, true, true, false, true, false, false] rfl rfl (any_of HT_.out (by kernel_rfl)) (fun _ _ _ h => h) (Or.inl ⟨by rfl, ?_⟩) ?_ ?_
       rotate_left
       ·intro w'
        go_simp
        with_reducible rfl
       rotate_left
       ·exact nm_
       refine pure_ (i := 7) (N := some 34) (v := ?_) (a' := ?_) #[true, true, true, true, true, true, true, true, true, false, false] rfl rfl (any_of HT_.out (by kernel_rfl)) (fun _ _ _ h => h) (Or.inl ⟨by rfl, ?_⟩) ?_ ?_
       rotate_left
       ·intro w'
        go_simp
        with_reducible rfl
       rotate_left
       ·exact nm_
       exact norm_ (by simp only [putAll, Act.put, List.setIfInBounds_toArray, List.set_cons_zero, List.set_cons_succ]) (hCont (.slice Ao37 t366.length co37, .slice Ao38 t371.length co38, v377, gb381) _ ⟨hHeld, (km_ HO368 (fun _ hk => ⟨hk.1.2, hk.2⟩)), (km_ HO373 (fun _ hk => ⟨hk.1.2, hk.2⟩)), (km_ HO378 (fun _ hk => ⟨hk.1.2, hk.2⟩)), (bk_ BK361), (bk_ BK362), (bk_ BK381), GW381.out, GE381.out, NB361_381.out, NB381_361.out, NB362_381.out, NB381_362.out, (bl_ HB)⟩)
     ·skip
      refine box_step ?hg (N := 6) ?hd (cs := #[.int .i64 0, .slice none 0 0, .int .i64 0]) (t := 30) ?hr ?_; (case hd => rfl); (case hg => rfl); (case hr => first | (go_simp; done) | (go_simp; rfl))
      intro gb381 hg w35 hbox hb
      have n0_ := am_ (Kd.R_below (kr_ HO368) hb); have n1_ := am_ (blk_below (bk_ BK361) hb); have n2_ := am_ (blk_below (bk_ BK362) hb); have n3_ := am_ (below_step (bl_ HB) hb); have n4_ := am_ (hbox); have n5_ := am_ (gs_ hg HB); have n6_ := am_ (gs_ hg HB); have n7_ := am_ (nl_ hg BK361); have n8_ := am_ (ng_ hg BK361); have n9_ := am_ (nl_ hg BK362); have n10_ := am_ (ng_ hg BK362); clear HO368 BK361 BK362 HB; have HO368 := n0_; have BK361 := n1_; have BK362 := n2_; have HB := n3_; have BK381 := n4_; have GW381 := n5_; have GE381 := n6_; have NB361_381 := n7_; have NB381_361 := n8_; have NB362_381 := n9_; have NB381_362 := n10_; clear n0_ n1_ n2_ n3_ n4_ n5_ n6_ n7_ n8_ n9_ n10_ hb hbox hg
      refine hK.out _ _ ⟨bc_ BK361 0, bc_ BK361 1, bc_ BK361 2, bc_ BK362 0, bc_ BK362 1, bc_ BK362 2⟩ (fun hHeld => ?_)
      clear hK K
      refine norm_ (a' := ?_) ?_ ?_
      rotate_left
      ·show Act.put _ (some 6) _ = _
       exact nm_
      refine one_ (i := 3) (N := some 31) #[true, true, true, true, false, false, false, false, true, false, false] rfl rfl (one_of HT_.out (by kernel_rfl)) (by decide) (fun K hK => ?_)
      refine goes_ Tryd.func13 (by kernel_rfl) rfl #[.agg #[.int .i64 a1_0, .slice A1_1 l1_1.length c1_1, .int .i64 a1_2]] (by rfl) rfl rfl ma_ ?_
      with_reducible refine (laws_toDyadic.calls k a1_0 _ _ l1_1 a1_2 t370 t371 t374 _ ?side1 ?side2 A20.out).mono ?_
      (case side1 => exact cb_ HR1_1 HB)
      (case side2 => exact HC1_1.out)
      rintro e w36 ⟨v372, rfl, ho0, hb⟩
      refine ⟨_, rfl, ?_⟩
      have n0_ := am_ (Kd.R_elder' (kr_ HO368) (Kd.R_base ho0) hb); have n1_ := am_ (Kd.R_lower (Kd.R_new' ho0 (Kd.R_lt (kr_ HO368))) (below_size (bl_ HB))); have n2_ := am_ (blk_below (bk_ BK361) hb); have n3_ := am_ (blk_below (bk_ BK362) hb); have n4_ := am_ (blk_below (bk_ BK381) hb); have n5_ := am_ (below_step (bl_ HB) hb); clear HO368 BK361 BK362 BK381 HB; have HO368 := n0_; have HO373 := n1_; have BK361 := n2_; have BK362 := n3_; have BK381 := n4_; have HB := n5_; clear n0_ n1_ n2_ n3_ n4_ n5_; (try clear hb); (try clear hb2); (try clear hk); (try clear hi); (try clear ho0)
      obtain ⟨Ao37, co37, eo37⟩ := Kd.R_slice HO368.out
      (first | subst eo37 | (injection eo37 with f1_ f2_ f3_; have f4_ := f1_.symm; have f5_ := f3_.symm; clear f1_ f2_ f3_; subst f4_; subst f5_))
      obtain ⟨Ao38, co38, eo38⟩ := Kd.R_slice HO373.out
      (first | subst eo38 | (injection eo38 with f1_ f2_ f3_; have f4_ := f1_.symm; have f5_ := f3_.symm; clear f1_ f2_ f3_; subst f4_; subst f5_))
      refine hK.out _ _ ⟨bc_ BK361 0, bc_ BK361 1, bc_ BK361 2, bc_ BK362 0, bc_ BK362 1, bc_ BK362 2⟩ (fun hHeld => ?_)
      clear hK K
      refine norm_ (a' := ?_) ?_ ?_
      rotate_left
      ·show Act.put _ (some 31) _ = _
       exact nm_
      refine one_ (i := 4) (N := some 32) #[true, true, true, true, true, false, false, false, true, false, false] rfl rfl (one_of HT_.out (by kernel_rfl)) (by decide) (fun K hK => ?_)
      refine goes_ Tryd.func34 (by kernel_rfl) rfl #[.agg #[.int .i64 t365, .slice Ao37 t366.length co37, .int .i64 t369], .agg #[.int .i64 t370, .slice Ao38 t371.length co38, .int .i64 t374]] (by rfl) rfl rfl ma_ ?_
      with_reducible refine (spec_SubtractDyadics.calls k t365 _ _ t366 t369 t370 _ _ t371 t374 t375 t376 t379 t380 _ ?side1 ?side2 ?side3 ?side4 A21.out).mono ?_
      (case side1 => exact cr_ HO368)
      (case side2 => exact (Kd.R_reads' HO368.out).2.1)
      (case side3 => exact cr_ HO373)
      (case side4 => exact (Kd.R_reads' HO373.out).2.1)
      rintro e w39 ⟨v377, rfl, ho0, hb⟩
      refine ⟨_, rfl, ?_⟩
      have n0_ := am_ (Kd.R_elder' (kr_ HO368) (Kd.R_base ho0) hb); have n1_ := am_ (Kd.R_elder' (kr_ HO373) (Kd.R_base ho0) hb); have n2_ := am_ (Kd.R_lower (Kd.R_new' (Kd.R_new' ho0 (Kd.R_lt (kr_ HO368))) (Kd.R_lt (kr_ HO373))) (below_size (bl_ HB))); have n3_ := am_ (blk_below (bk_ BK361) hb); have n4_ := am_ (blk_below (bk_ BK362) hb); have n5_ := am_ (blk_below (bk_ BK381) hb); have n6_ := am_ (below_step (bl_ HB) hb); clear HO368 HO373 BK361 BK362 BK381 HB; have HO368 := n0_; have HO373 := n1_; have HO378 := n2_; have BK361 := n3_; have BK362 := n4_; have BK381 := n5_; have HB := n6_; clear n0_ n1_ n2_ n3_ n4_ n5_ n6_; (try clear hb); (try clear hb2); (try clear hk); (try clear hi); (try clear ho0)
      refine hK.out _ _ ⟨bc_ BK361 0, bc_ BK361 1, bc_ BK361 2, bc_ BK362 0, bc_ BK362 1, bc_ BK362 2⟩ (fun hHeld => ?_)
      clear hK K
      refine norm_ (a' := ?_) ?_ ?_
      rotate_left
      ·show Act.put _ (some 32) _ = _
       exact nm_
      refine pure_ (i := 5) (N := some 27) (v := ?_) (a' := ?_) #[true, true, true, true, true, true, false, false, true, false, false] rfl rfl (any_of HT_.out (by kernel_rfl)) (fun _ _ _ h => h) (Or.inl ⟨by rfl, ?_⟩) ?_ ?_
      rotate_left
      ·intro w'
       go_simp
       with_reducible rfl
      rotate_left
      ·exact nm_
      refine pure_ (i := 6) (N := some 33) (v := ?_) (a' := ?_) #[true, true, true, true, true, true, true, false, true, false, false] rfl rfl (any_of HT_.out (by kernel_rfl)) (fun _ _ _ h => h) (Or.inl ⟨by rfl, ?_⟩) ?_ ?_
      rotate_left
      ·intro w'
       go_simp
       with_reducible rfl
      rotate_left
      ·exact nm_
      refine pure_ (i := 7) (N := some 34) (v := ?_) (a' := ?_) #[true, true, true, true, true, true, true, true, true, false, false] rfl rfl (any_of HT_.out (by kernel_rfl)) (fun _ _ _ h => h) (Or.inl ⟨by rfl, ?_⟩) ?_ ?_
      rotate_left
      ·intro w'
       go_simp
       with_reducible rfl
      rotate_left
      ·exact nm_
      exact norm_ (by simp only [putAll, Act.put, List.setIfInBounds_toArray, List.set_cons_zero, List.set_cons_succ]) (hCont (.slice Ao37 t366.length co37, .slice Ao38 t371.length co38, v377, gb381) _ ⟨hHeld, (km_ HO368 (fun _ hk => ⟨hk.1.2, hk.2⟩)), (km_ HO373 (fun _ hk => ⟨hk.1.2, hk.2⟩)), (km_ HO378 (fun _ hk => ⟨hk.1.2, hk.2⟩)), (bk_ BK361), (bk_ BK362), (bk_ BK381), GW381.out, GE381.out, NB361_381.out, NB381_361.out, NB362_381.out, NB381_362.out, (bl_ HB)⟩)
    ·skip
     refine box_step ?hg (N := 6) ?hd (cs := #[.int .i64 0, .slice none 0 0, .int .i64 0]) (t := 30) ?hr ?_; (case hd => rfl); (case hg => rfl); (case hr => first | (go_simp; done) | (go_simp; rfl))
     intro gb381 hg w34 hbox hb
     have n0_ := am_ (blk_below (bk_ BK361) hb); have n1_ := am_ (blk_below (bk_ BK362) hb); have n2_ := am_ (below_step (bl_ HB) hb); have n3_ := am_ (hbox); have n4_ := am_ (gs_ hg HB); have n5_ := am_ (gs_ hg HB); have n6_ := am_ (nl_ hg BK361); have n7_ := am_ (ng_ hg BK361); have n8_ := am_ (nl_ hg BK362); have n9_ := am_ (ng_ hg BK362); clear BK361 BK362 HB; have BK361 := n0_; have BK362 := n1_; have HB := n2_; have BK381 := n3_; have GW381 := n4_; have GE381 := n5_; have NB361_381 := n6_; have NB381_361 := n7_; have NB362_381 := n8_; have NB381_362 := n9_; clear n0_ n1_ n2_ n3_ n4_ n5_ n6_ n7_ n8_ n9_ hb hbox hg
     refine hK.out _ _ ⟨bc_ BK361 0, bc_ BK361 1, bc_ BK361 2, bc_ BK362 0, bc_ BK362 1, bc_ BK362 2⟩ (fun hHeld => ?_)
     clear hK K
     refine norm_ (a' := ?_) ?_ ?_
     rotate_left
     ·show Act.put _ (some 6) _ = _
      exact nm_
     refine one_ (i := 1) (N := some 29) #[true, true, true, false, false, false, false, false, true, false, false] rfl rfl (one_of HT_.out (by kernel_rfl)) (by decide) (fun K hK => ?_)
     refine goes_ Tryd.func13 (by kernel_rfl) rfl #[.agg #[.int .i64 a0_0, .slice A0_1 l0_1.length c0_1, .int .i64 a0_2]] (by rfl) rfl rfl ma_ ?_
     with_reducible refine (laws_toDyadic.calls k a0_0 _ _ l0_1 a0_2 t365 t366 t369 _ ?side1 ?side2 A19.out).mono ?_
     (case side1 => exact cb_ HR0_1 HB)
     (case side2 => exact HC0_1.out)
     rintro e w35 ⟨v367, rfl, ho0, hb⟩
     refine ⟨_, rfl, ?_⟩
     have n0_ := am_ (Kd.R_lower ho0 (below_size (bl_ HB))); have n1_ := am_ (blk_below (bk_ BK361) hb); have n2_ := am_ (blk_below (bk_ BK362) hb); have n3_ := am_ (blk_below (bk_ BK381) hb); have n4_ := am_ (below_step (bl_ HB) hb); clear BK361 BK362 BK381 HB; have HO368 := n0_; have BK361 := n1_; have BK362 := n2_; have BK381 := n3_; have HB := n4_; clear n0_ n1_ n2_ n3_ n4_; (try clear hb); (try clear hb2); (try clear hk); (try clear hi); (try clear ho0)
     refine hK.out _ _ ⟨bc_ BK361 0, bc_ BK361 1, bc_ BK361 2, bc_ BK362 0, bc_ BK362 1, bc_ BK362 2⟩ (fun hHeld => ?_)
     clear hK K
     refine norm_ (a' := ?_) ?_ ?_
     rotate_left
     ·show Act.put _ (some 29) _ = _
      exact nm_
     refine one_ (i := 3) (N := some 31) #[true, true, true, true, false, false, false, false, true, false, false] rfl rfl (one_of HT_.out (by kernel_rfl)) (by decide) (fun K hK => ?_)
     refine goes_ Tryd.func13 (by kernel_rfl) rfl #[.agg #[.int .i64 a1_0, .slice A1_1 l1_1.length c1_1, .int .i64 a1_2]] (by rfl) rfl rfl ma_ ?_
     with_reducible refine (laws_toDyadic.calls k a1_0 _ _ l1_1 a1_2 t370 t371 t374 _ ?side1 ?side2 A20.out).mono ?_
     (case side1 => exact cb_ HR1_1 HB)
     (case side2 => exact HC1_1.out)
     rintro e w36 ⟨v372, rfl, ho0, hb⟩
     refine ⟨_, rfl, ?_⟩
     have n0_ := am_ (Kd.R_elder' (kr_ HO368) (Kd.R_base ho0) hb); have n1_ := am_ (Kd.R_lower (Kd.R_new' ho0 (Kd.R_lt (kr_ HO368))) (below_size (bl_ HB))); have n2_ := am_ (blk_below (bk_ BK361) hb); have n3_ := am_ (blk_below (bk_ BK362) hb); have n4_ := am_ (blk_below (bk_ BK381) hb); have n5_ := am_ (below_step (bl_ HB) hb); clear HO368 BK361 BK362 BK381 HB; have HO368 := n0_; have HO373 := n1_; have BK361 := n2_; have BK362 := n3_; have BK381 := n4_; have HB := n5_; clear n0_ n1_ n2_ n3_ n4_ n5_; (try clear hb); (try clear hb2); (try clear hk); (try clear hi); (try clear ho0)
     obtain ⟨Ao37, co37, eo37⟩ := Kd.R_slice HO368.out
     (first | subst eo37 | (injection eo37 with f1_ f2_ f3_; have f4_ := f1_.symm; have f5_ := f3_.symm; clear f1_ f2_ f3_; subst f4_; subst f5_))
     obtain ⟨Ao38, co38, eo38⟩ := Kd.R_slice HO373.out
     (first | subst eo38 | (injection eo38 with f1_ f2_ f3_; have f4_ := f1_.symm; have f5_ := f3_.symm; clear f1_ f2_ f3_; subst f4_; subst f5_))
     refine hK.out _ _ ⟨bc_ BK361 0, bc_ BK361 1, bc_ BK361 2, bc_ BK362 0, bc_ BK362 1, bc_ BK362 2⟩ (fun hHeld => ?_)
     clear hK K
     refine norm_ (a' := ?_) ?_ ?_
     rotate_left
     ·show Act.put _ (some 31) _ = _
      exact nm_
     refine one_ (i := 4) (N := some 32) #[true, true, true, true, true, false, false, false, true, false, false] rfl rfl (one_of HT_.out (by kernel_rfl)) (by decide) (fun K hK => ?_)
     refine goes_ Tryd.func34 (by kernel_rfl) rfl #[.agg #[.int .i64 t365, .slice Ao37 t366.length co37, .int .i64 t369], .agg #[.int .i64 t370, .slice Ao38 t371.length co38, .int .i64 t374]] (by rfl) rfl rfl ma_ ?_
     with_reducible refine (spec_SubtractDyadics.calls k t365 _ _ t366 t369 t370 _ _ t371 t374 t375 t376 t379 t380 _ ?side1 ?side2 ?side3 ?side4 A21.out).mono ?_
     (case side1 => exact cr_ HO368)
     (case side2 => exact (Kd.R_reads' HO368.out).2.1)
     (case side3 => exact cr_ HO373)
     (case side4 => exact (Kd.R_reads' HO373.out).2.1)
     rintro e w39 ⟨v377, rfl, ho0, hb⟩
     refine ⟨_, rfl, ?_⟩
     have n0_ := am_ (Kd.R_elder' (kr_ HO368) (Kd.R_base ho0) hb); have n1_ := am_ (Kd.R_elder' (kr_ HO373) (Kd.R_base ho0) hb); have n2_ := am_ (Kd.R_lower (Kd.R_new' (Kd.R_new' ho0 (Kd.R_lt (kr_ HO368))) (Kd.R_lt (kr_ HO373))) (below_size (bl_ HB))); have n3_ := am_ (blk_below (bk_ BK361) hb); have n4_ := am_ (blk_below (bk_ BK362) hb); have n5_ := am_ (blk_below (bk_ BK381) hb); have n6_ := am_ (below_step (bl_ HB) hb); clear HO368 HO373 BK361 BK362 BK381 HB; have HO368 := n0_; have HO373 := n1_; have HO378 := n2_; have BK361 := n3_; have BK362 := n4_; have BK381 := n5_; have HB := n6_; clear n0_ n1_ n2_ n3_ n4_ n5_ n6_; (try clear hb); (try clear hb2); (try clear hk); (try clear hi); (try clear ho0)
     refine hK.out _ _ ⟨bc_ BK361 0, bc_ BK361 1, bc_ BK361 2, bc_ BK362 0, bc_ BK362 1, bc_ BK362 2⟩ (fun hHeld => ?_)
     clear hK K
     refine norm_ (a' := ?_) ?_ ?_
     rotate_left
     ·show Act.put _ (some 32) _ = _
      exact nm_
     refine pure_ (i := 5) (N := some 27) (v := ?_) (a' := ?_) #[true, true, true, true, true, true, false, false, true, false, false] rfl rfl (any_of HT_.out (by kernel_rfl)) (fun _ _ _ h => h) (Or.inl ⟨by rfl, ?_⟩) ?_ ?_
     rotate_left
     ·intro w'
      go_simp
      with_reducible rfl
     rotate_left
     ·exact nm_
     refine pure_ (i := 6) (N := some 33) (v := ?_) (a' := ?_) #[true, true, true, true, true, true, true, false, true, false, false] rfl rfl (any_of HT_.out (by kernel_rfl)) (fun _ _ _ h => h) (Or.inl ⟨by rfl, ?_⟩) ?_ ?_
     rotate_left
     ·intro w'
      go_simp
      with_reducible rfl
     rotate_left
     ·exact nm_
     refine pure_ (i := 7) (N := some 34) (v := ?_) (a' := ?_) #[true, true, true, true, true, true, true, true, true, false, false] rfl rfl (any_of HT_.out (by kernel_rfl)) (fun _ _ _ h => h) (Or.inl ⟨by rfl, ?_⟩) ?_ ?_
     rotate_left
     ·intro w'
      go_simp
      with_reducible rfl
     rotate_left
     ·exact nm_
     exact norm_ (by simp only [putAll, Act.put, List.setIfInBounds_toArray, List.set_cons_zero, List.set_cons_succ]) (hCont (.slice Ao37 t366.length co37, .slice Ao38 t371.length co38, v377, gb381) _ ⟨hHeld, (km_ HO368 (fun _ hk => ⟨hk.1.2, hk.2⟩)), (km_ HO373 (fun _ hk => ⟨hk.1.2, hk.2⟩)), (km_ HO378 (fun _ hk => ⟨hk.1.2, hk.2⟩)), (bk_ BK361), (bk_ BK362), (bk_ BK381), GW381.out, GE381.out, NB361_381.out, NB381_361.out, NB362_381.out, NB381_362.out, (bl_ HB)⟩)
   rintro ⟨v367, v372, v377, gb381⟩ w40 ⟨hS_, h0_, h1_, h2_, h3_, h4_, h5_, h6_, h7_, h8_, h9_, h10_, h11_, h12_⟩
   have n0_ : Aside0 (Kd.R (Kd.int .i64) 2 w40 w.heap.size (fun k_ => some k_ ≠ (v372 : Value).ownBlock ∧ some k_ ≠ (v377 : Value).ownBlock) v367 t366) := ⟨h0_⟩
   have n1_ : Aside0 (Kd.R (Kd.int .i64) 2 w40 w.heap.size (fun k_ => some k_ ≠ (v367 : Value).ownBlock ∧ some k_ ≠ (v377 : Value).ownBlock) v372 t371) := ⟨h1_⟩
   have n2_ : Aside0 (Kd.R (Kd.int .i64) 2 w40 w.heap.size (fun k_ => some k_ ≠ (v367 : Value).ownBlock ∧ some k_ ≠ (v372 : Value).ownBlock) v377 t376) := ⟨h2_⟩
   have n3_ : Aside0 (w40.heap[gb361]? = some (.cells #[.int .i64 a0_0, .slice A0_1 l0_1.length c0_1, .int .i64 a0_2] 26 (0, 0))) := ⟨h3_⟩
   have n4_ : Aside0 (w40.heap[gb362]? = some (.cells #[.int .i64 a1_0, .slice A1_1 l1_1.length c1_1, .int .i64 a1_2] 26 (0, 0))) := ⟨h4_⟩
   have n5_ : Aside0 (w40.heap[gb381]? = some (.cells #[.int .i64 0, .slice none 0 0, .int .i64 0] 30 (0, 0))) := ⟨h5_⟩
   have n6_ : Aside0 (w.heap.size ≤ gb381) := ⟨h6_⟩
   have n7_ : Aside0 (w.heap.size ≤ gb381) := ⟨h7_⟩
   have n8_ : Aside0 (gb361 ≠ gb381) := ⟨h8_⟩
   have n9_ : Aside0 (gb381 ≠ gb361) := ⟨h9_⟩
   have n10_ : Aside0 (gb362 ≠ gb381) := ⟨h10_⟩
   have n11_ : Aside0 (gb381 ≠ gb362) := ⟨h11_⟩
   have n12_ : Aside0 (Below w.heap.size w w40) := ⟨h12_⟩
   clear BK361 BK362 HB h0_ h1_ h2_ h3_ h4_ h5_ h6_ h7_ h8_ h9_ h10_ h11_ h12_; have HO368 := n0_; have HO373 := n1_; have HO378 := n2_; have BK361 := n3_; have BK362 := n4_; have BK381 := n5_; have GW381 := n6_; have GE381 := n7_; have NB361_381 := n8_; have NB381_361 := n9_; have NB362_381 := n10_; have NB381_362 := n11_; have HB := n12_; clear n0_ n1_ n2_ n3_ n4_ n5_ n6_ n7_ n8_ n9_ n10_ n11_ n12_
   have hHeld : w40.cell? ⟨gb361, 0, none⟩ = some (.int .i64 a0_0) ∧ w40.cell? ⟨gb361, 1, none⟩ = some (.slice A0_1 l0_1.length c0_1) ∧ w40.cell? ⟨gb361, 2, none⟩ = some (.int .i64 a0_2) ∧ w40.cell? ⟨gb362, 0, none⟩ = some (.int .i64 a1_0) ∧ w40.cell? ⟨gb362, 1, none⟩ = some (.slice A1_1 l1_1.length c1_1) ∧ w40.cell? ⟨gb362, 2, none⟩ = some (.int .i64 a1_2) := hS_
   obtain ⟨Ao42, co42, eo42⟩ := Kd.R_slice HO378.out
   (first | subst eo42 | (injection eo42 with f1_ f2_ f3_; have f4_ := f1_.symm; have f5_ := f3_.symm; clear f1_ f2_ f3_; subst f4_; subst f5_))
   refine norm_ (a' := ?_) ?_ ?_
   rotate_left
   ·simp only [putAll, Act.put, List.setIfInBounds_toArray, List.set_cons_zero, List.set_cons_succ]
    rfl
   refine one_ (i := 9) (N := none) #[true, true, true, true, true, true, true, true, true, true, false] rfl rfl (one_of HT_.out (by kernel_rfl)) (by decide) (fun K hK => ?_)
   have hs41 : w40.cell? ⟨gb381, 0, none⟩ = some (.int .i64 0) := bc_ BK381 0
   have hfs41 := blk_frozen BK381.out 0; have hns41_0 := NB361_381.out; have hns41_1 := NB362_381.out; have hms41_0 := NB381_361.out; have hms41_1 := NB381_362.out
   have hs43 : w40.cell? ⟨gb381, 1, none⟩ = some (.slice none 0 0) := bc_ BK381 1
   have hfs43 := blk_frozen BK381.out 1; have hns43_0 := NB361_381.out; have hns43_1 := NB362_381.out; have hms43_0 := NB381_361.out; have hms43_1 := NB381_362.out
   have hs44 : w40.cell? ⟨gb381, 2, none⟩ = some (.int .i64 0) := bc_ BK381 2
   have hfs44 := blk_frozen BK381.out 2; have hns44_0 := NB361_381.out; have hns44_1 := NB362_381.out; have hms44_0 := NB381_361.out; have hms44_1 := NB381_362.out
   refine skip_ (w1 := ?_) (by rfl) rfl ?_ ?_
   rotate_left
   ·go_simp
    rfl
   refine hK.out _ _ ⟨((cell_far (p := ⟨gb381, _, none⟩) NB361_381.out _).trans (((cell_far (p := ⟨gb381, _, none⟩) NB361_381.out _).trans (((cell_far (p := ⟨gb381, _, none⟩) NB361_381.out _).trans (hHeld.1)))))), ((cell_far (p := ⟨gb381, _, none⟩) NB361_381.out _).trans (((cell_far (p := ⟨gb381, _, none⟩) NB361_381.out _).trans (((cell_far (p := ⟨gb381, _, none⟩) NB361_381.out _).trans (hHeld.2.1)))))), ((cell_far (p := ⟨gb381, _, none⟩) NB361_381.out _).trans (((cell_far (p := ⟨gb381, _, none⟩) NB361_381.out _).trans (((cell_far (p := ⟨gb381, _, none⟩) NB361_381.out _).trans (hHeld.2.2.1)))))), ((cell_far (p := ⟨gb381, _, none⟩) NB362_381.out _).trans (((cell_far (p := ⟨gb381, _, none⟩) NB362_381.out _).trans (((cell_far (p := ⟨gb381, _, none⟩) NB362_381.out _).trans (hHeld.2.2.2.1)))))), ((cell_far (p := ⟨gb381, _, none⟩) NB362_381.out _).trans (((cell_far (p := ⟨gb381, _, none⟩) NB362_381.out _).trans (((cell_far (p := ⟨gb381, _, none⟩) NB362_381.out _).trans (hHeld.2.2.2.2.1)))))), ((cell_far (p := ⟨gb381, _, none⟩) NB362_381.out _).trans (((cell_far (p := ⟨gb381, _, none⟩) NB362_381.out _).trans (((cell_far (p := ⟨gb381, _, none⟩) NB362_381.out _).trans (hHeld.2.2.2.2.2))))))⟩ (fun hHeld => ?_)
   clear hK K
   refine pure_ (i := 10) (N := some 7) (v := ?_) (a' := ?_) #[true, true, true, true, true, true, true, true, true, true, true] rfl rfl (any_of HT_.out (by kernel_rfl)) (fun _ _ _ h => h) (Or.inl ⟨by rfl, ?_⟩) ?_ ?_
   rotate_left
   ·intro w'
    go_simp
    with_reducible rfl
   rotate_left
   ·exact nm_
   refine done_ (done_of HT_.out (by kernel_rfl)) ?_
   have hnb45 := NB361_381.out; have hnc45 := NB381_361.out
   have hcz46_0 : w40.cell? ⟨gb361, 0, none⟩ = some (.int .i64 a0_0) := bc_ BK361 0
   have hcz46_1 : w40.cell? ⟨gb361, 1, none⟩ = some (.slice A0_1 l0_1.length c0_1) := bc_ BK361 1
   have hcz46_2 : w40.cell? ⟨gb361, 2, none⟩ = some (.int .i64 a0_2) := bc_ BK361 2
   have hfz46_0 := blk_frozen BK361.out 0; have hfz46_1 := blk_frozen BK361.out 1; have hfz46_2 := blk_frozen BK361.out 2
   go_upto_region 12 with (first | ((with_reducible refine gate_callee (f := 13) rfl ?_); refine goesL_ (some 36) rfl rfl Tryd.func13 (by kernel_rfl) rfl #[.agg #[.int .i64 a0_0, .slice A0_1 l0_1.length c0_1, .int .i64 a0_2]] rfl ma_ ?_; (with_reducible refine (laws_toDyadic.calls k a0_0 _ _ l0_1 a0_2 t382 t383 t386 _ ?side1 ?side2 A22.out).mono ?_); (case side1 => exact Kd.C_below HR0_1.out (bl_ HB)); (case side2 => exact HC0_1.out); rintro e w47 ⟨v384, rfl, ho0, hb⟩; refine ⟨_, rfl, ?_⟩; have HO385 := am_ (Kd.R_lower (Kd.R_new' (Kd.R_new' (Kd.R_new' ho0 (Kd.R_lt (rk_ HO368 BK381))) (Kd.R_lt (rk_ HO373 BK381))) (Kd.R_lt (rk_ HO378 BK381))) (below_size (bl_ HB))); replace HO368 := am_ (Kd.R_elder' (rk_ HO368 BK381) (Kd.R_base ho0) hb); replace HO373 := am_ (Kd.R_elder' (rk_ HO373 BK381) (Kd.R_base ho0) hb); replace HO378 := am_ (Kd.R_elder' (rk_ HO378 BK381) (Kd.R_base ho0) hb); replace BK361 := am_ (blk_below (bk_ BK361) hb); replace BK362 := am_ (blk_below (bk_ BK362) hb); replace BK381 := am_ (blk_below (bp3_ BK381) hb); replace HB := am_ (below_step (bl_ HB) hb); (try clear hb); (try clear hb2); (try clear hk); (try clear hi); (try clear ho0)) | ((with_reducible refine gate_dst (N := 8) rfl ?_); refine box_event ?hg (N := 8) ?hd (cs := #[.int .i64 0, .slice none 0 0, .int .i64 0]) (t := 30) ?hr ?_; (case hd => rfl); (case hg => rfl); (case hr => first | (go_simp; done) | (go_simp; rfl)); intro gb387 hg w48 hbox hb; have BK387 := am_ (hbox); have GW387 := am_ (gs_ hg HB); have GE387 := am_ (gs_ hg HB); have NB361_387 := am_ (nl_ hg BK361); have NB387_361 := am_ (ng_ hg BK361); have NB362_387 := am_ (nl_ hg BK362); have NB387_362 := am_ (ng_ hg BK362); have NB381_387 := am_ (nl_ hg BK381); have NB387_381 := am_ (ng_ hg BK381); replace HO368 := am_ (Kd.R_below (kr_ HO368) hb); replace HO373 := am_ (Kd.R_below (kr_ HO373) hb); replace HO378 := am_ (Kd.R_below (kr_ HO378) hb); replace HO385 := am_ (Kd.R_below (kr_ HO385) hb); replace BK361 := am_ (blk_below (bk_ BK361) hb); replace BK362 := am_ (blk_below (bk_ BK362) hb); replace BK381 := am_ (blk_below (bk_ BK381) hb); replace HB := am_ (below_step (bl_ HB) hb); clear hb hbox hg; have hnb49 := NB387_361.out; have hnc49 := NB361_387.out; have hnb50 := NB387_362.out; have hnc50 := NB362_387.out; have hnb51 := NB387_381.out; have hnc51 := NB381_387.out; have hcz52_0 : w48.cell? ⟨gb387, 0, none⟩ = some (.int .i64 0) := bc_ BK387 0; have hcz52_1 : w48.cell? ⟨gb387, 1, none⟩ = some (.slice none 0 0) := bc_ BK387 1; have hcz52_2 : w48.cell? ⟨gb387, 2, none⟩ = some (.int .i64 0) := bc_ BK387 2; have hfz52_0 := blk_frozen BK387.out 0; have hfz52_1 := blk_frozen BK387.out 1; have hfz52_2 := blk_frozen BK387.out 2; obtain ⟨Ao53, co53, eo53⟩ := Kd.R_slice HO385.out; subst eo53; have hnb54 := NB362_381.out; have hnc54 := NB381_362.out; have hcz55_0 : w48.cell? ⟨gb362, 0, none⟩ = some (.int .i64 a1_0) := bc_ BK362 0; have hcz55_1 : w48.cell? ⟨gb362, 1, none⟩ = some (.slice A1_1 l1_1.length c1_1) := bc_ BK362 1; have hcz55_2 : w48.cell? ⟨gb362, 2, none⟩ = some (.int .i64 a1_2) := bc_ BK362 2; have hfz55_0 := blk_frozen BK362.out 0; have hfz55_1 := blk_frozen BK362.out 1; have hfz55_2 := blk_frozen BK362.out 2) | ((with_reducible refine gate_callee (f := 13) rfl ?_); refine goesL_ (some 38) rfl rfl Tryd.func13 (by kernel_rfl) rfl #[.agg #[.int .i64 a1_0, .slice A1_1 l1_1.length c1_1, .int .i64 a1_2]] rfl ma_ ?_; (with_reducible refine (laws_toDyadic.calls k a1_0 _ _ l1_1 a1_2 t388 t389 t392 _ ?side1 ?side2 A23.out).mono ?_); (case side1 => exact Kd.C_below HR1_1.out (bl_ HB)); (case side2 => exact HC1_1.out); rintro e w56 ⟨v390, rfl, ho0, hb⟩; refine ⟨_, rfl, ?_⟩; have HO391 := am_ (Kd.R_lower (Kd.R_new' (Kd.R_new' (Kd.R_new' (Kd.R_new' ho0 (Kd.R_lt (rk_ HO368 BK387))) (Kd.R_lt (rk_ HO373 BK387))) (Kd.R_lt (rk_ HO378 BK387))) (Kd.R_lt (rk_ HO385 BK387))) (below_size (bl_ HB))); replace HO368 := am_ (Kd.R_elder' (rk_ HO368 BK387) (Kd.R_base ho0) hb); replace HO373 := am_ (Kd.R_elder' (rk_ HO373 BK387) (Kd.R_base ho0) hb); replace HO378 := am_ (Kd.R_elder' (rk_ HO378 BK387) (Kd.R_base ho0) hb); replace HO385 := am_ (Kd.R_elder' (rk_ HO385 BK387) (Kd.R_base ho0) hb); replace BK361 := am_ (blk_below (bk_ BK361) hb); replace BK362 := am_ (blk_below (bk_ BK362) hb); replace BK381 := am_ (blk_below (bk_ BK381) hb); replace BK387 := am_ (blk_below (bp3_ BK387) hb); replace HB := am_ (below_step (bl_ HB) hb); (try clear hb); (try clear hb2); (try clear hk); (try clear hi); (try clear ho0)) | ((with_reducible refine gate_dst (N := 9) rfl ?_); refine box_event ?hg (N := 9) ?hd (cs := #[.int .i64 0, .slice none 0 0, .int .i64 0]) (t := 30) ?hr ?_; (case hd => rfl); (case hg => rfl); (case hr => first | (go_simp; done) | (go_simp; rfl)); intro gb393 hg w57 hbox hb; have BK393 := am_ (hbox); have GW393 := am_ (gs_ hg HB); have GE393 := am_ (gs_ hg HB); have NB361_393 := am_ (nl_ hg BK361); have NB393_361 := am_ (ng_ hg BK361); have NB362_393 := am_ (nl_ hg BK362); have NB393_362 := am_ (ng_ hg BK362); have NB381_393 := am_ (nl_ hg BK381); have NB393_381 := am_ (ng_ hg BK381); have NB387_393 := am_ (nl_ hg BK387); have NB393_387 := am_ (ng_ hg BK387); replace HO368 := am_ (Kd.R_below (kr_ HO368) hb); replace HO373 := am_ (Kd.R_below (kr_ HO373) hb); replace HO378 := am_ (Kd.R_below (kr_ HO378) hb); replace HO385 := am_ (Kd.R_below (kr_ HO385) hb); replace HO391 := am_ (Kd.R_below (kr_ HO391) hb); replace BK361 := am_ (blk_below (bk_ BK361) hb); replace BK362 := am_ (blk_below (bk_ BK362) hb); replace BK381 := am_ (blk_below (bk_ BK381) hb); replace BK387 := am_ (blk_below (bk_ BK387) hb); replace HB := am_ (below_step (bl_ HB) hb); clear hb hbox hg; have hnb58 := NB393_361.out; have hnc58 := NB361_393.out; have hnb59 := NB393_362.out; have hnc59 := NB362_393.out; have hnb60 := NB393_381.out; have hnc60 := NB381_393.out; have hnb61 := NB393_387.out; have hnc61 := NB387_393.out; have hcz62_0 : w57.cell? ⟨gb393, 0, none⟩ = some (.int .i64 0) := bc_ BK393 0; have hcz62_1 : w57.cell? ⟨gb393, 1, none⟩ = some (.slice none 0 0) := bc_ BK393 1; have hcz62_2 : w57.cell? ⟨gb393, 2, none⟩ = some (.int .i64 0) := bc_ BK393 2; have hfz62_0 := blk_frozen BK393.out 0; have hfz62_1 := blk_frozen BK393.out 1; have hfz62_2 := blk_frozen BK393.out 2; obtain ⟨Ao63, co63, eo63⟩ := Kd.R_slice HO391.out; subst eo63; have hcz64_0 : w57.cell? ⟨gb387, 0, none⟩ = some (.int .i64 t382) := bc_ BK387 0; have hcz64_1 : w57.cell? ⟨gb387, 1, none⟩ = some (.slice Ao53 t383.length co53) := bc_ BK387 1; have hcz64_2 : w57.cell? ⟨gb387, 2, none⟩ = some (.int .i64 t386) := bc_ BK387 2; have hfz64_0 := blk_frozen BK387.out 0; have hfz64_1 := blk_frozen BK387.out 1; have hfz64_2 := blk_frozen BK387.out 2) | ((with_reducible refine gate_callee (f := 35) rfl ?_); refine goesL_ (some 42) rfl rfl Tryd.func35 (by kernel_rfl) rfl #[.agg #[.int .i64 t382, .slice Ao53 t383.length co53, .int .i64 t386], .agg #[.int .i64 t388, .slice Ao63 t389.length co63, .int .i64 t392]] rfl ma_ ?_; (with_reducible refine (impl_SubtractDyadics.calls t382 _ _ t383 t386 t388 _ _ t389 t392 t394 t395 t398 t399 _ ?side1 ?side2 ?side3 ?side4 ?sideT A24.out).mono ?_); (case sideT => exact Go.Proofs.YthddlechoibdkaaDoor.Big.Tab.below HTab.out (bl_ HB)); (case side1 => refine (Kd.R_reads' (e := 2) (base := w.heap.size) (ok := fun k_ => ((((True ∧ some k_ ≠ (v367 : Value).ownBlock) ∧ some k_ ≠ (v372 : Value).ownBlock) ∧ some k_ ≠ (.slice Ao42 t376.length co42 : Value).ownBlock) ∧ some k_ ≠ (.slice Ao63 t389.length co63 : Value).ownBlock)) (n := t383.length) (c := co53) ?_).2.2; exact (rk_ HO385 BK393)); (case side2 => exact (Kd.R_reads' HO385.out).2.1); (case side3 => refine (Kd.R_reads' (e := 2) (base := w.heap.size) (ok := fun k_ => ((((True ∧ some k_ ≠ (v367 : Value).ownBlock) ∧ some k_ ≠ (v372 : Value).ownBlock) ∧ some k_ ≠ (.slice Ao42 t376.length co42 : Value).ownBlock) ∧ some k_ ≠ (.slice Ao53 t383.length co53 : Value).ownBlock)) (n := t389.length) (c := co63) ?_).2.2; exact (rk_ HO391 BK393)); (case side4 => exact (Kd.R_reads' HO391.out).2.1); rintro e w65 ⟨v396, rfl, ho0, hb⟩; refine ⟨_, rfl, ?_⟩; have HO397 := am_ (Kd.R_lower (Kd.R_new' (Kd.R_new' (Kd.R_new' (Kd.R_new' (Kd.R_new' ho0 (Kd.R_lt (rk_ HO368 BK393))) (Kd.R_lt (rk_ HO373 BK393))) (Kd.R_lt (rk_ HO378 BK393))) (Kd.R_lt (rk_ HO385 BK393))) (Kd.R_lt (rk_ HO391 BK393))) (below_size (bl_ HB))); replace HO368 := am_ (Kd.R_elder' (rk_ HO368 BK393) (Kd.R_base ho0) hb); replace HO373 := am_ (Kd.R_elder' (rk_ HO373 BK393) (Kd.R_base ho0) hb); replace HO378 := am_ (Kd.R_elder' (rk_ HO378 BK393) (Kd.R_base ho0) hb); replace HO385 := am_ (Kd.R_elder' (rk_ HO385 BK393) (Kd.R_base ho0) hb); replace HO391 := am_ (Kd.R_elder' (rk_ HO391 BK393) (Kd.R_base ho0) hb); replace BK361 := am_ (blk_below (bk_ BK361) hb); replace BK362 := am_ (blk_below (bk_ BK362) hb); replace BK381 := am_ (blk_below (bk_ BK381) hb); replace BK387 := am_ (blk_below (bk_ BK387) hb); replace BK393 := am_ (blk_below (bp3_ BK393) hb); replace HB := am_ (below_step (bl_ HB) hb); (try clear hb); (try clear hb2); (try clear hk); (try clear hi); (try clear ho0)) | ((with_reducible refine gate_dst (N := 10) rfl ?_); refine box_event ?hg (N := 10) ?hd (cs := #[.int .i64 0, .slice none 0 0, .int .i64 0]) (t := 30) ?hr ?_; (case hd => rfl); (case hg => rfl); (case hr => first | (go_simp; done) | (go_simp; rfl)); intro gb400 hg w66 hbox hb; have BK400 := am_ (hbox); have GW400 := am_ (gs_ hg HB); have GE400 := am_ (gs_ hg HB); have NB361_400 := am_ (nl_ hg BK361); have NB400_361 := am_ (ng_ hg BK361); have NB362_400 := am_ (nl_ hg BK362); have NB400_362 := am_ (ng_ hg BK362); have NB381_400 := am_ (nl_ hg BK381); have NB400_381 := am_ (ng_ hg BK381); have NB387_400 := am_ (nl_ hg BK387); have NB400_387 := am_ (ng_ hg BK387); have NB393_400 := am_ (nl_ hg BK393); have NB400_393 := am_ (ng_ hg BK393); replace HO368 := am_ (Kd.R_below (kr_ HO368) hb); replace HO373 := am_ (Kd.R_below (kr_ HO373) hb); replace HO378 := am_ (Kd.R_below (kr_ HO378) hb); replace HO385 := am_ (Kd.R_below (kr_ HO385) hb); replace HO391 := am_ (Kd.R_below (kr_ HO391) hb); replace HO397 := am_ (Kd.R_below (kr_ HO397) hb); replace BK361 := am_ (blk_below (bk_ BK361) hb); replace BK362 := am_ (blk_below (bk_ BK362) hb); replace BK381 := am_ (blk_below (bk_ BK381) hb); replace BK387 := am_ (blk_below (bk_ BK387) hb); replace BK393 := am_ (blk_below (bk_ BK393) hb); replace HB := am_ (below_step (bl_ HB) hb); clear hb hbox hg; have hnb67 := NB400_361.out; have hnc67 := NB361_400.out; have hnb68 := NB400_362.out; have hnc68 := NB362_400.out; have hnb69 := NB400_381.out; have hnc69 := NB381_400.out; have hnb70 := NB400_387.out; have hnc70 := NB387_400.out; have hnb71 := NB400_393.out; have hnc71 := NB393_400.out; have hcz72_0 : w66.cell? ⟨gb400, 0, none⟩ = some (.int .i64 0) := bc_ BK400 0; have hcz72_1 : w66.cell? ⟨gb400, 1, none⟩ = some (.slice none 0 0) := bc_ BK400 1; have hcz72_2 : w66.cell? ⟨gb400, 2, none⟩ = some (.int .i64 0) := bc_ BK400 2; have hfz72_0 := blk_frozen BK400.out 0; have hfz72_1 := blk_frozen BK400.out 1; have hfz72_2 := blk_frozen BK400.out 2; obtain ⟨Ao73, co73, eo73⟩ := Kd.R_slice HO397.out; subst eo73))
   (try simp only [Act.put, List.setIfInBounds_toArray, List.set_cons_zero, List.set_cons_succ])
   go_cut [53] (fun v53 wc => ∃ (kq : Nat) (x53_24 : Bool), v53 = .bool x53_24 ∧ Aside0 (laws_FnExactSubtractDyadics.j0 kq t380 t399 x53_24 a0_0 l0_1 a0_2 a1_0 l1_1 a1_2 t375 t376 t379 t382 t383 t386 t388 t389 t392 t394 t395 t398 = some r) ∧ Aside0 (kq ≤ k) ∧ Aside0 (Kd.R (Kd.int .i64) 2 wc w.heap.size (fun k_ => some k_ ≠ ((.slice Ao53 t383.length co53) : Value).ownBlock ∧ some k_ ≠ ((.slice Ao63 t389.length co63) : Value).ownBlock ∧ some k_ ≠ ((.slice Ao73 t395.length co73) : Value).ownBlock) (.slice Ao42 t376.length co42) t376) ∧ Aside0 (Kd.R (Kd.int .i64) 2 wc w.heap.size (fun k_ => some k_ ≠ ((.slice Ao42 t376.length co42) : Value).ownBlock ∧ some k_ ≠ ((.slice Ao63 t389.length co63) : Value).ownBlock ∧ some k_ ≠ ((.slice Ao73 t395.length co73) : Value).ownBlock) (.slice Ao53 t383.length co53) t383) ∧ Aside0 (Kd.R (Kd.int .i64) 2 wc w.heap.size (fun k_ => some k_ ≠ ((.slice Ao42 t376.length co42) : Value).ownBlock ∧ some k_ ≠ ((.slice Ao53 t383.length co53) : Value).ownBlock ∧ some k_ ≠ ((.slice Ao73 t395.length co73) : Value).ownBlock) (.slice Ao63 t389.length co63) t389) ∧ Aside0 (Kd.R (Kd.int .i64) 2 wc w.heap.size (fun k_ => some k_ ≠ ((.slice Ao42 t376.length co42) : Value).ownBlock ∧ some k_ ≠ ((.slice Ao53 t383.length co53) : Value).ownBlock ∧ some k_ ≠ ((.slice Ao63 t389.length co63) : Value).ownBlock) (.slice Ao73 t395.length co73) t395) ∧ Aside0 (wc.heap[gb361]? = some (.cells #[.int .i64 a0_0, (.slice A0_1 l0_1.length c0_1), .int .i64 a0_2] 26 (0, 0))) ∧ Aside0 (wc.heap[gb362]? = some (.cells #[.int .i64 a1_0, (.slice A1_1 l1_1.length c1_1), .int .i64 a1_2] 26 (0, 0))) ∧ Aside0 (wc.heap[gb381]? = some (.cells #[.int .i64 t375, (.slice Ao42 t376.length co42), .int .i64 t379] 30 (0, 0))) ∧ Aside0 (wc.heap[gb387]? = some (.cells #[.int .i64 t382, (.slice Ao53 t383.length co53), .int .i64 t386] 30 (0, 0))) ∧ Aside0 (wc.heap[gb393]? = some (.cells #[.int .i64 t388, (.slice Ao63 t389.length co63), .int .i64 t392] 30 (0, 0))) ∧ Aside0 (wc.heap[gb400]? = some (.cells #[.int .i64 t394, (.slice Ao73 t395.length co73), .int .i64 t398] 30 (0, 0))) ∧ Aside0 (Below w.heap.size w wc))
   case first =>
    have H := HC25.out; clear HC25
    replace H := Option.bind_eq_some_iff.mp H
    obtain ⟨t401, A740, H⟩ := H
    replace H : (if t401 = true then (laws_FnExactSubtractDyadics.j0 k t380 t399 (t399 != t380) a0_0 l0_1 a0_2 a1_0 l1_1 a1_2 t375 t376 t379 t382 t383 t386 t388 t389 t392 t394 t395 t398) else (laws_FnExactSubtractDyadics.j0 k t380 t399 true a0_0 l0_1 a0_2 a1_0 l1_1 a1_2 t375 t376 t379 t382 t383 t386 t388 t389 t392 t394 t395 t398)) = some r := H
    have A74 := Aside0.mk A740; clear A740
    by_cases c75 : t401 = true
    ·subst c75
     have H1 : (laws_FnExactSubtractDyadics.j0 k t380 t399 (t399 != t380) a0_0 l0_1 a0_2 a1_0 l1_1 a1_2 t375 t376 t379 t382 t383 t386 t388 t389 t392 t394 t395 t398) = some r := by rw [if_pos rfl] at H; exact H
     clear H; have H := H1; clear H1
     have H' := Aside0.mk H
     clear H; have hnb76 := NB400_361.out; have hnc76 := NB361_400.out; have hnb77 := NB400_362.out; have hnc77 := NB362_400.out; have hnb78 := NB400_381.out; have hnc78 := NB381_400.out; have hnb79 := NB400_387.out; have hnc79 := NB387_400.out; have hnb80 := NB400_393.out; have hnc80 := NB393_400.out
     have hcz81_0 : w66.cell? ⟨gb400, 0, none⟩ = some (.int .i64 0) := bc_ BK400 0
     have hcz81_1 : w66.cell? ⟨gb400, 1, none⟩ = some (.slice none 0 0) := bc_ BK400 1
     have hcz81_2 : w66.cell? ⟨gb400, 2, none⟩ = some (.int .i64 0) := bc_ BK400 2
     have hfz81_0 := blk_frozen BK400.out 0; have hfz81_1 := blk_frozen BK400.out 1; have hfz81_2 := blk_frozen BK400.out 2; have hnb82 := NB381_361.out; have hnc82 := NB361_381.out; have hnb83 := NB381_362.out; have hnc83 := NB362_381.out; have hnb84 := NB381_387.out; have hnc84 := NB387_381.out; have hnb85 := NB381_393.out; have hnc85 := NB393_381.out
     have hcz86_0 : w66.cell? ⟨gb381, 0, none⟩ = some (.int .i64 t375) := bc_ BK381 0
     have hcz86_1 : w66.cell? ⟨gb381, 1, none⟩ = some (.slice Ao42 t376.length co42) := bc_ BK381 1
     have hcz86_2 : w66.cell? ⟨gb381, 2, none⟩ = some (.int .i64 t379) := bc_ BK381 2
     have hfz86_0 := blk_frozen BK381.out 0; have hfz86_1 := blk_frozen BK381.out 1; have hfz86_2 := blk_frozen BK381.out 2
     go_wp2_with (first | ((with_reducible refine gate_callee (f := 15) rfl ?_); refine goesL_ (some 47) rfl rfl Tryd.func15 (by kernel_rfl) rfl #[.agg #[.int .i64 t394, .slice Ao73 t395.length co73, .int .i64 t398], .agg #[.int .i64 t375, .slice Ao42 t376.length co42, .int .i64 t379]] rfl ma_ ?_; (with_reducible refine (laws_eqDyadic.calls k t394 _ _ t395 t398 t375 _ _ t376 t379 true _ ?side1 ?side2 ?side3 ?side4 A74.out).mono ?_); (case side1 => refine (Kd.R_reads' (e := 2) (base := w.heap.size) (ok := fun k_ => (((((True ∧ some k_ ≠ (v367 : Value).ownBlock) ∧ some k_ ≠ (v372 : Value).ownBlock) ∧ some k_ ≠ (.slice Ao42 t376.length co42 : Value).ownBlock) ∧ some k_ ≠ (.slice Ao53 t383.length co53 : Value).ownBlock) ∧ some k_ ≠ (.slice Ao63 t389.length co63 : Value).ownBlock)) (n := t395.length) (c := co73) ?_).2.2; exact (rk_ HO397 BK400)); (case side2 => exact (Kd.R_reads' HO397.out).2.1); (case side3 => refine (Kd.R_reads' (e := 2) (base := w.heap.size) (ok := fun k_ => ((((some k_ ≠ (v367 : Value).ownBlock ∧ some k_ ≠ (v372 : Value).ownBlock) ∧ some k_ ≠ (.slice Ao53 t383.length co53 : Value).ownBlock) ∧ some k_ ≠ (.slice Ao63 t389.length co63 : Value).ownBlock) ∧ some k_ ≠ (.slice Ao73 t395.length co73 : Value).ownBlock)) (n := t376.length) (c := co42) ?_).2.2; exact (rk_ HO378 BK400)); (case side4 => exact (Kd.R_reads' HO378.out).2.1); rintro e w87 ⟨rfl, hb⟩; refine ⟨_, rfl, ?_⟩; replace HO368 := am_ (Kd.R_below (rk_ HO368 BK400) hb); replace HO373 := am_ (Kd.R_below (rk_ HO373 BK400) hb); replace HO378 := am_ (Kd.R_below (rk_ HO378 BK400) hb); replace HO385 := am_ (Kd.R_below (rk_ HO385 BK400) hb); replace HO391 := am_ (Kd.R_below (rk_ HO391 BK400) hb); replace HO397 := am_ (Kd.R_below (rk_ HO397 BK400) hb); replace BK361 := am_ (blk_below (bk_ BK361) hb); replace BK362 := am_ (blk_below (bk_ BK362) hb); replace BK381 := am_ (blk_below (bk_ BK381) hb); replace BK387 := am_ (blk_below (bk_ BK387) hb); replace BK393 := am_ (blk_below (bk_ BK393) hb); replace BK400 := am_ (blk_below (bp3_ BK400) hb); replace HB := am_ (below_step (bl_ HB) hb); (try clear hb); (try clear hb2); (try clear hk); (try clear hi)))
     go_meet
     case rel => exact ⟨_, ((t399 != t380)), (by first | rfl | (simp; done) | (simp [*]; done)), H', ⟨by first | omega | exact Nat.le_refl _⟩, ⟨km_ HO378 (fun _ hk => ⟨hk.1.1.2, ⟨hk.1.2, hk.2⟩⟩)⟩, ⟨km_ HO385 (fun _ hk => ⟨hk.1.1.2, ⟨hk.1.2, hk.2⟩⟩)⟩, ⟨km_ HO391 (fun _ hk => ⟨hk.1.1.2, ⟨hk.1.2, hk.2⟩⟩)⟩, ⟨km_ HO397 (fun _ hk => ⟨hk.1.1.2, ⟨hk.1.2, hk.2⟩⟩)⟩, ⟨bk_ BK361⟩, ⟨bk_ BK362⟩, ⟨bk_ BK381⟩, ⟨bk_ BK387⟩, ⟨bk_ BK393⟩, ⟨bk_ BK400⟩, ⟨bl_ HB⟩⟩
    ·replace c75 := Bool.eq_false_iff.mpr c75
     subst c75
     have H1 : (laws_FnExactSubtractDyadics.j0 k t380 t399 true a0_0 l0_1 a0_2 a1_0 l1_1 a1_2 t375 t376 t379 t382 t383 t386 t388 t389 t392 t394 t395 t398) = some r := by rw [if_neg (show ¬ (false = true) by decide)] at H; exact H
     clear H; have H := H1; clear H1
     have H' := Aside0.mk H
     clear H; have hnb88 := NB400_361.out; have hnc88 := NB361_400.out; have hnb89 := NB400_362.out; have hnc89 := NB362_400.out; have hnb90 := NB400_381.out; have hnc90 := NB381_400.out; have hnb91 := NB400_387.out; have hnc91 := NB387_400.out; have hnb92 := NB400_393.out; have hnc92 := NB393_400.out
     have hcz93_0 : w66.cell? ⟨gb400, 0, none⟩ = some (.int .i64 0) := bc_ BK400 0
     have hcz93_1 : w66.cell? ⟨gb400, 1, none⟩ = some (.slice none 0 0) := bc_ BK400 1
     have hcz93_2 : w66.cell? ⟨gb400, 2, none⟩ = some (.int .i64 0) := bc_ BK400 2
     have hfz93_0 := blk_frozen BK400.out 0; have hfz93_1 := blk_frozen BK400.out 1; have hfz93_2 := blk_frozen BK400.out 2; have hnb94 := NB381_361.out; have hnc94 := NB361_381.out; have hnb95 := NB381_362.out; have hnc95 := NB362_381.out; have hnb96 := NB381_387.out; have hnc96 := NB387_381.out; have hnb97 := NB381_393.out; have hnc97 := NB393_381.out
     have hcz98_0 : w66.cell? ⟨gb381, 0, none⟩ = some (.int .i64 t375) := bc_ BK381 0
     have hcz98_1 : w66.cell? ⟨gb381, 1, none⟩ = some (.slice Ao42 t376.length co42) := bc_ BK381 1
     have hcz98_2 : w66.cell? ⟨gb381, 2, none⟩ = some (.int .i64 t379) := bc_ BK381 2
     have hfz98_0 := blk_frozen BK381.out 0; have hfz98_1 := blk_frozen BK381.out 1; have hfz98_2 := blk_frozen BK381.out 2
     go_wp2_with (first | ((with_reducible refine gate_callee (f := 15) rfl ?_); refine goesL_ (some 47) rfl rfl Tryd.func15 (by kernel_rfl) rfl #[.agg #[.int .i64 t394, .slice Ao73 t395.length co73, .int .i64 t398], .agg #[.int .i64 t375, .slice Ao42 t376.length co42, .int .i64 t379]] rfl ma_ ?_; (with_reducible refine (laws_eqDyadic.calls k t394 _ _ t395 t398 t375 _ _ t376 t379 false _ ?side1 ?side2 ?side3 ?side4 A74.out).mono ?_); (case side1 => refine (Kd.R_reads' (e := 2) (base := w.heap.size) (ok := fun k_ => (((((True ∧ some k_ ≠ (v367 : Value).ownBlock) ∧ some k_ ≠ (v372 : Value).ownBlock) ∧ some k_ ≠ (.slice Ao42 t376.length co42 : Value).ownBlock) ∧ some k_ ≠ (.slice Ao53 t383.length co53 : Value).ownBlock) ∧ some k_ ≠ (.slice Ao63 t389.length co63 : Value).ownBlock)) (n := t395.length) (c := co73) ?_).2.2; exact (rk_ HO397 BK400)); (case side2 => exact (Kd.R_reads' HO397.out).2.1); (case side3 => refine (Kd.R_reads' (e := 2) (base := w.heap.size) (ok := fun k_ => ((((some k_ ≠ (v367 : Value).ownBlock ∧ some k_ ≠ (v372 : Value).ownBlock) ∧ some k_ ≠ (.slice Ao53 t383.length co53 : Value).ownBlock) ∧ some k_ ≠ (.slice Ao63 t389.length co63 : Value).ownBlock) ∧ some k_ ≠ (.slice Ao73 t395.length co73 : Value).ownBlock)) (n := t376.length) (c := co42) ?_).2.2; exact (rk_ HO378 BK400)); (case side4 => exact (Kd.R_reads' HO378.out).2.1); rintro e w99 ⟨rfl, hb⟩; refine ⟨_, rfl, ?_⟩; replace HO368 := am_ (Kd.R_below (rk_ HO368 BK400) hb); replace HO373 := am_ (Kd.R_below (rk_ HO373 BK400) hb); replace HO378 := am_ (Kd.R_below (rk_ HO378 BK400) hb); replace HO385 := am_ (Kd.R_below (rk_ HO385 BK400) hb); replace HO391 := am_ (Kd.R_below (rk_ HO391 BK400) hb); replace HO397 := am_ (Kd.R_below (rk_ HO397 BK400) hb); replace BK361 := am_ (blk_below (bk_ BK361) hb); replace BK362 := am_ (blk_below (bk_ BK362) hb); replace BK381 := am_ (blk_below (bk_ BK381) hb); replace BK387 := am_ (blk_below (bk_ BK387) hb); replace BK393 := am_ (blk_below (bk_ BK393) hb); replace BK400 := am_ (blk_below (bp3_ BK400) hb); replace HB := am_ (below_step (bl_ HB) hb); (try clear hb); (try clear hb2); (try clear hk); (try clear hi)))
     go_meet
     case rel => exact ⟨_, (true), (by first | rfl | (simp; done) | (simp [*]; done)), H', ⟨by first | omega | exact Nat.le_refl _⟩, ⟨km_ HO378 (fun _ hk => ⟨hk.1.1.2, ⟨hk.1.2, hk.2⟩⟩)⟩, ⟨km_ HO385 (fun _ hk => ⟨hk.1.1.2, ⟨hk.1.2, hk.2⟩⟩)⟩, ⟨km_ HO391 (fun _ hk => ⟨hk.1.1.2, ⟨hk.1.2, hk.2⟩⟩)⟩, ⟨km_ HO397 (fun _ hk => ⟨hk.1.1.2, ⟨hk.1.2, hk.2⟩⟩)⟩, ⟨bk_ BK361⟩, ⟨bk_ BK362⟩, ⟨bk_ BK381⟩, ⟨bk_ BK387⟩, ⟨bk_ BK393⟩, ⟨bk_ BK400⟩, ⟨bl_ HB⟩⟩
   case rest =>
    clear HC25; try clear c1; try clear p2; try clear c3; try clear c4; try clear c5; try clear c6; try clear c7; try clear c8; try clear c9; try clear c13; try clear c15; try clear c34; try clear c35; try clear c45; try clear c49; try clear c50; try clear c51; try clear c54; try clear c58; try clear c59; try clear c60; try clear c61; try clear c67; try clear c68; try clear c69; try clear c70; try clear c71; try clear c75; try clear c76; try clear c77; try clear c78; try clear c79; try clear c80; try clear c82; try clear c83; try clear c84; try clear c85; try clear c88; try clear c89; try clear c90; try clear c91; try clear c92; try clear c94; try clear c95; try clear c96; try clear c97; try clear hcz46_0; try clear hcz46_1; try clear hcz46_2; try clear hcz52_0; try clear hcz52_1; try clear hcz52_2; try clear hcz55_0; try clear hcz55_1; try clear hcz55_2; try clear hcz62_0; try clear hcz62_1; try clear hcz62_2; try clear hcz64_0; try clear hcz64_1; try clear hcz64_2; try clear hcz72_0; try clear hcz72_1; try clear hcz72_2; try clear hcz81_0; try clear hcz81_1; try clear hcz81_2; try clear hcz86_0; try clear hcz86_1; try clear hcz86_2; try clear hcz93_0; try clear hcz93_1; try clear hcz93_2; try clear hcz98_0; try clear hcz98_1; try clear hcz98_2; try clear hfz46_0; try clear hfz46_1; try clear hfz46_2; try clear hfz52_0; try clear hfz52_1; try clear hfz52_2; try clear hfz55_0; try clear hfz55_1; try clear hfz55_2; try clear hfz62_0; try clear hfz62_1; try clear hfz62_2; try clear hfz64_0; try clear hfz64_1; try clear hfz64_2; try clear hfz72_0; try clear hfz72_1; try clear hfz72_2; try clear hfz81_0; try clear hfz81_1; try clear hfz81_2; try clear hfz86_0; try clear hfz86_1; try clear hfz86_2; try clear hfz93_0; try clear hfz93_1; try clear hfz93_2; try clear hfz98_0; try clear hfz98_1; try clear hfz98_2
    obtain ⟨kq, x53_24, rfl, HA, HJ24, HO_382001, HO_388001, HO_394001, HO_401001, BK361, BK362, BK381, BK387, BK393, BK400, HB⟩ := hcut
    cases kq with
    | zero => exact absurd HA.out (by simp [laws_FnExactSubtractDyadics.j0])
    | succ kj24 =>
     have H := HA.out; clear HA
     simp only [laws_FnExactSubtractDyadics.j0] at H
     by_cases c100 : x53_24 = true
     ·subst c100
      have H1 : (some false) = some r := by rw [if_pos rfl] at H; exact H
      clear H; have H := H1; clear H1; obtain rfl := Option.some.inj H
      go_wp2
      go_ret
      exact ⟨by first | rfl | (simp [errW_none, errW_some] <;> rfl) | (simp [*, errW_none, errW_some] <;> rfl), bl_ HB⟩
     ·replace c100 := Bool.eq_false_iff.mpr c100
      subst c100
      have H1 : ((laws_toDyadic.f kj24 a0_0 l0_1 a0_2).bind fun bt402 => ((laws_eqDyadic.f kj24 t382 t383 t386 bt402.1 bt402.2.1 bt402.2.2).bind fun t407 => (if t407 = true then ((laws_toDyadic.f kj24 a1_0 l1_1 a1_2).bind fun bt408 => ((laws_eqDyadic.f kj24 t388 t389 t392 bt408.1 bt408.2.1 bt408.2.2).bind fun t413 => (if t413 = true then ((laws_markDyadic.f kj24 t382 t383 t386 1).bind fun bt414 => ((laws_markDyadic.f kj24 t388 t389 t392 bt414.1).bind fun bt416 => (if bt416.1 < 0 then (laws_FnExactSubtractDyadics.j1 kj24 t380 true a0_0 l0_1 a0_2 a1_0 l1_1 a1_2 t375 t376 t379 t394 t395 t398) else ((laws_eqDyadic.f kj24 t394 t395 t398 t375 t376 t379).bind fun t418 => (if t418 = true then (laws_FnExactSubtractDyadics.j1 kj24 t380 (t399 != t380) a0_0 l0_1 a0_2 a1_0 l1_1 a1_2 t375 t376 t379 t394 t395 t398) else (laws_FnExactSubtractDyadics.j1 kj24 t380 true a0_0 l0_1 a0_2 a1_0 l1_1 a1_2 t375 t376 t379 t394 t395 t398)))))) else (some false)))) else (some false)))) = some r := by rw [if_neg (show ¬ (false = true) by decide)] at H; exact H
      clear H; have H := H1; clear H1
      replace H := Option.bind_eq_some_iff.mp H
      obtain ⟨⟨t402, t403, t406⟩, A1010, H⟩ := H
      replace H : ((laws_eqDyadic.f kj24 t382 t383 t386 t402 t403 t406).bind fun t407 => (if t407 = true then ((laws_toDyadic.f kj24 a1_0 l1_1 a1_2).bind fun bt408 => ((laws_eqDyadic.f kj24 t388 t389 t392 bt408.1 bt408.2.1 bt408.2.2).bind fun t413 => (if t413 = true then ((laws_markDyadic.f kj24 t382 t383 t386 1).bind fun bt414 => ((laws_markDyadic.f kj24 t388 t389 t392 bt414.1).bind fun bt416 => (if bt416.1 < 0 then (laws_FnExactSubtractDyadics.j1 kj24 t380 true a0_0 l0_1 a0_2 a1_0 l1_1 a1_2 t375 t376 t379 t394 t395 t398) else ((laws_eqDyadic.f kj24 t394 t395 t398 t375 t376 t379).bind fun t418 => (if t418 = true then (laws_FnExactSubtractDyadics.j1 kj24 t380 (t399 != t380) a0_0 l0_1 a0_2 a1_0 l1_1 a1_2 t375 t376 t379 t394 t395 t398) else (laws_FnExactSubtractDyadics.j1 kj24 t380 true a0_0 l0_1 a0_2 a1_0 l1_1 a1_2 t375 t376 t379 t394 t395 t398)))))) else (some false)))) else (some false))) = some r := H
      have A101 := Aside0.mk A1010; clear A1010
      replace H := Option.bind_eq_some_iff.mp H
      obtain ⟨t407, A1020, H⟩ := H
      replace H : (if t407 = true then ((laws_toDyadic.f kj24 a1_0 l1_1 a1_2).bind fun bt408 => ((laws_eqDyadic.f kj24 t388 t389 t392 bt408.1 bt408.2.1 bt408.2.2).bind fun t413 => (if t413 = true then ((laws_markDyadic.f kj24 t382 t383 t386 1).bind fun bt414 => ((laws_markDyadic.f kj24 t388 t389 t392 bt414.1).bind fun bt416 => (if bt416.1 < 0 then (laws_FnExactSubtractDyadics.j1 kj24 t380 true a0_0 l0_1 a0_2 a1_0 l1_1 a1_2 t375 t376 t379 t394 t395 t398) else ((laws_eqDyadic.f kj24 t394 t395 t398 t375 t376 t379).bind fun t418 => (if t418 = true then (laws_FnExactSubtractDyadics.j1 kj24 t380 (t399 != t380) a0_0 l0_1 a0_2 a1_0 l1_1 a1_2 t375 t376 t379 t394 t395 t398) else (laws_FnExactSubtractDyadics.j1 kj24 t380 true a0_0 l0_1 a0_2 a1_0 l1_1 a1_2 t375 t376 t379 t394 t395 t398)))))) else (some false)))) else (some false)) = some r := H
      have A102 := Aside0.mk A1020; clear A1020
      by_cases c103 : t407 = true
      ·subst c103
       have H1 : ((laws_toDyadic.f kj24 a1_0 l1_1 a1_2).bind fun bt408 => ((laws_eqDyadic.f kj24 t388 t389 t392 bt408.1 bt408.2.1 bt408.2.2).bind fun t413 => (if t413 = true then ((laws_markDyadic.f kj24 t382 t383 t386 1).bind fun bt414 => ((laws_markDyadic.f kj24 t388 t389 t392 bt414.1).bind fun bt416 => (if bt416.1 < 0 then (laws_FnExactSubtractDyadics.j1 kj24 t380 true a0_0 l0_1 a0_2 a1_0 l1_1 a1_2 t375 t376 t379 t394 t395 t398) else ((laws_eqDyadic.f kj24 t394 t395 t398 t375 t376 t379).bind fun t418 => (if t418 = true then (laws_FnExactSubtractDyadics.j1 kj24 t380 (t399 != t380) a0_0 l0_1 a0_2 a1_0 l1_1 a1_2 t375 t376 t379 t394 t395 t398) else (laws_FnExactSubtractDyadics.j1 kj24 t380 true a0_0 l0_1 a0_2 a1_0 l1_1 a1_2 t375 t376 t379 t394 t395 t398)))))) else (some false)))) = some r := by rw [if_pos rfl] at H; exact H
       clear H; have H := H1; clear H1
       replace H := Option.bind_eq_some_iff.mp H
       obtain ⟨⟨t408, t409, t412⟩, A1040, H⟩ := H
       replace H : ((laws_eqDyadic.f kj24 t388 t389 t392 t408 t409 t412).bind fun t413 => (if t413 = true then ((laws_markDyadic.f kj24 t382 t383 t386 1).bind fun bt414 => ((laws_markDyadic.f kj24 t388 t389 t392 bt414.1).bind fun bt416 => (if bt416.1 < 0 then (laws_FnExactSubtractDyadics.j1 kj24 t380 true a0_0 l0_1 a0_2 a1_0 l1_1 a1_2 t375 t376 t379 t394 t395 t398) else ((laws_eqDyadic.f kj24 t394 t395 t398 t375 t376 t379).bind fun t418 => (if t418 = true then (laws_FnExactSubtractDyadics.j1 kj24 t380 (t399 != t380) a0_0 l0_1 a0_2 a1_0 l1_1 a1_2 t375 t376 t379 t394 t395 t398) else (laws_FnExactSubtractDyadics.j1 kj24 t380 true a0_0 l0_1 a0_2 a1_0 l1_1 a1_2 t375 t376 t379 t394 t395 t398)))))) else (some false))) = some r := H
       have A104 := Aside0.mk A1040; clear A1040
       replace H := Option.bind_eq_some_iff.mp H
       obtain ⟨t413, A1050, H⟩ := H
       replace H : (if t413 = true then ((laws_markDyadic.f kj24 t382 t383 t386 1).bind fun bt414 => ((laws_markDyadic.f kj24 t388 t389 t392 bt414.1).bind fun bt416 => (if bt416.1 < 0 then (laws_FnExactSubtractDyadics.j1 kj24 t380 true a0_0 l0_1 a0_2 a1_0 l1_1 a1_2 t375 t376 t379 t394 t395 t398) else ((laws_eqDyadic.f kj24 t394 t395 t398 t375 t376 t379).bind fun t418 => (if t418 = true then (laws_FnExactSubtractDyadics.j1 kj24 t380 (t399 != t380) a0_0 l0_1 a0_2 a1_0 l1_1 a1_2 t375 t376 t379 t394 t395 t398) else (laws_FnExactSubtractDyadics.j1 kj24 t380 true a0_0 l0_1 a0_2 a1_0 l1_1 a1_2 t375 t376 t379 t394 t395 t398)))))) else (some false)) = some r := H
       have A105 := Aside0.mk A1050; clear A1050
       by_cases c106 : t413 = true
       ·subst c106
        have H1 : ((laws_markDyadic.f kj24 t382 t383 t386 1).bind fun bt414 => ((laws_markDyadic.f kj24 t388 t389 t392 bt414.1).bind fun bt416 => (if bt416.1 < 0 then (laws_FnExactSubtractDyadics.j1 kj24 t380 true a0_0 l0_1 a0_2 a1_0 l1_1 a1_2 t375 t376 t379 t394 t395 t398) else ((laws_eqDyadic.f kj24 t394 t395 t398 t375 t376 t379).bind fun t418 => (if t418 = true then (laws_FnExactSubtractDyadics.j1 kj24 t380 (t399 != t380) a0_0 l0_1 a0_2 a1_0 l1_1 a1_2 t375 t376 t379 t394 t395 t398) else (laws_FnExactSubtractDyadics.j1 kj24 t380 true a0_0 l0_1 a0_2 a1_0 l1_1 a1_2 t375 t376 t379 t394 t395 t398)))))) = some r := by rw [if_pos rfl] at H; exact H
        clear H; have H := H1; clear H1
        replace H := Option.bind_eq_some_iff.mp H
        obtain ⟨⟨t414, t415⟩, A1070, H⟩ := H
        replace H : ((laws_markDyadic.f kj24 t388 t389 t392 t414).bind fun bt416 => (if bt416.1 < 0 then (laws_FnExactSubtractDyadics.j1 kj24 t380 true a0_0 l0_1 a0_2 a1_0 l1_1 a1_2 t375 t376 t379 t394 t395 t398) else ((laws_eqDyadic.f kj24 t394 t395 t398 t375 t376 t379).bind fun t418 => (if t418 = true then (laws_FnExactSubtractDyadics.j1 kj24 t380 (t399 != t380) a0_0 l0_1 a0_2 a1_0 l1_1 a1_2 t375 t376 t379 t394 t395 t398) else (laws_FnExactSubtractDyadics.j1 kj24 t380 true a0_0 l0_1 a0_2 a1_0 l1_1 a1_2 t375 t376 t379 t394 t395 t398))))) = some r := H
        have A107 := Aside0.mk A1070; clear A1070
        replace H := Option.bind_eq_some_iff.mp H
        obtain ⟨⟨t416, t417⟩, A1080, H⟩ := H
        replace H : (if t416 < 0 then (laws_FnExactSubtractDyadics.j1 kj24 t380 true a0_0 l0_1 a0_2 a1_0 l1_1 a1_2 t375 t376 t379 t394 t395 t398) else ((laws_eqDyadic.f kj24 t394 t395 t398 t375 t376 t379).bind fun t418 => (if t418 = true then (laws_FnExactSubtractDyadics.j1 kj24 t380 (t399 != t380) a0_0 l0_1 a0_2 a1_0 l1_1 a1_2 t375 t376 t379 t394 t395 t398) else (laws_FnExactSubtractDyadics.j1 kj24 t380 true a0_0 l0_1 a0_2 a1_0 l1_1 a1_2 t375 t376 t379 t394 t395 t398)))) = some r := H
        have A108 := Aside0.mk A1080; clear A1080; have HC109 := Aside0.mk H; clear H
        try go_wp2
        have n0_ := am_ (Kd.R_drew HO_382001.out); have n1_ := am_ (Kd.R_drew HO_388001.out); have n2_ := am_ (Kd.R_drew HO_394001.out); have n3_ := am_ (Kd.R_drew HO_401001.out); have n4_ := am_ (blk_drew BK361.out); have n5_ := am_ (blk_drew BK362.out); have n6_ := am_ (blk_drew BK381.out); have n7_ := am_ (blk_drew BK387.out); have n8_ := am_ (blk_drew BK393.out); have n9_ := am_ (blk_drew BK400.out); have n10_ := am_ (below_drew1 HB.out); clear HO_382001 HO_388001 HO_394001 HO_401001 BK361 BK362 BK381 BK387 BK393 BK400 HB; have HO_382001 := n0_; have HO_388001 := n1_; have HO_394001 := n2_; have HO_401001 := n3_; have BK361 := n4_; have BK362 := n5_; have BK381 := n6_; have BK387 := n7_; have BK393 := n8_; have BK400 := n9_; have HB := n10_; clear n0_ n1_ n2_ n3_ n4_ n5_ n6_ n7_ n8_ n9_ n10_
        refine start_ (n := 5) (S := fun w' => w'.cell? ⟨gb387, 0, none⟩ = some (.int .i64 t382) ∧ w'.cell? ⟨gb387, 1, none⟩ = some (.slice Ao53 t383.length co53) ∧ w'.cell? ⟨gb387, 2, none⟩ = some (.int .i64 t386) ∧ w'.cell? ⟨gb361, 0, none⟩ = some (.int .i64 a0_0) ∧ w'.cell? ⟨gb361, 1, none⟩ = some (.slice A0_1 l0_1.length c0_1) ∧ w'.cell? ⟨gb361, 2, none⟩ = some (.int .i64 a0_2)) (ds := []) #[false, false, false, false, false] (by kernel_rfl) rfl rfl ⟨bc_ BK387 0, bc_ BK387 1, bc_ BK387 2, bc_ BK361 0, bc_ BK361 1, bc_ BK361 2⟩ (fun hHeld => ?_)
        generalize wc.drew = w110 at HO_382001 HO_388001 HO_394001 HO_401001 BK361 BK362 BK381 BK387 BK393 BK400 HB hHeld ⊢
        refine take_ (i := 0) (N := some 54) (v := ?_) (a' := ?_) #[true, false, false, false, false] rfl rfl (by kernel_rfl) (fun _ _ _ h => h) (Or.inl ⟨by rfl, ?_⟩) hHeld ?_ ?_
        rotate_left
        ·rintro w' ⟨s0, s1, s2, s3, s4, s5⟩
         go_simp
         with_reducible rfl
        rotate_left
        ·exact nm_
        refine take_ (i := 1) (N := some 55) (v := ?_) (a' := ?_) #[true, true, false, false, false] rfl rfl (by kernel_rfl) (fun _ _ _ h => h) (Or.inl ⟨by rfl, ?_⟩) hHeld ?_ ?_
        rotate_left
        ·rintro w' ⟨s0, s1, s2, s3, s4, s5⟩
         go_simp
         with_reducible rfl
        rotate_left
        ·exact nm_
        refine one_ (i := 2) (N := some 56) #[true, true, true, false, false] rfl rfl (by kernel_rfl) (by decide) (fun K hK => ?_)
        refine goes_ Tryd.func13 (by kernel_rfl) rfl #[.agg #[.int .i64 a0_0, .slice A0_1 l0_1.length c0_1, .int .i64 a0_2]] (by rfl) rfl rfl ma_ ?_
        with_reducible refine (laws_toDyadic.calls kj24 a0_0 _ _ l0_1 a0_2 t402 t403 t406 _ ?side1 ?side2 A101.out).mono ?_
        (case side1 => exact cb_ HR0_1 HB)
        (case side2 => exact HC0_1.out)
        rintro e w111 ⟨v404, rfl, ho0, hb⟩
        refine ⟨_, rfl, ?_⟩
        have n0_ := am_ (Kd.R_elder' (kr_ HO_382001) (Kd.R_base ho0) hb); have n1_ := am_ (Kd.R_elder' (kr_ HO_388001) (Kd.R_base ho0) hb); have n2_ := am_ (Kd.R_elder' (kr_ HO_394001) (Kd.R_base ho0) hb); have n3_ := am_ (Kd.R_elder' (kr_ HO_401001) (Kd.R_base ho0) hb); have n4_ := am_ (Kd.R_lower (Kd.R_new' (Kd.R_new' (Kd.R_new' (Kd.R_new' ho0 (Kd.R_lt (kr_ HO_382001))) (Kd.R_lt (kr_ HO_388001))) (Kd.R_lt (kr_ HO_394001))) (Kd.R_lt (kr_ HO_401001))) (below_size (bl_ HB))); have n5_ := am_ (blk_below (bk_ BK361) hb); have n6_ := am_ (blk_below (bk_ BK362) hb); have n7_ := am_ (blk_below (bk_ BK381) hb); have n8_ := am_ (blk_below (bk_ BK387) hb); have n9_ := am_ (blk_below (bk_ BK393) hb); have n10_ := am_ (blk_below (bk_ BK400) hb); have n11_ := am_ (below_step (bl_ HB) hb); clear HO_382001 HO_388001 HO_394001 HO_401001 BK361 BK362 BK381 BK387 BK393 BK400 HB; have HO_382001 := n0_; have HO_388001 := n1_; have HO_394001 := n2_; have HO_401001 := n3_; have HO405 := n4_; have BK361 := n5_; have BK362 := n6_; have BK381 := n7_; have BK387 := n8_; have BK393 := n9_; have BK400 := n10_; have HB := n11_; clear n0_ n1_ n2_ n3_ n4_ n5_ n6_ n7_ n8_ n9_ n10_ n11_; (try clear hb); (try clear hb2); (try clear hk); (try clear hi); (try clear ho0)
        obtain ⟨Ao112, co112, eo112⟩ := Kd.R_slice HO405.out
        (first | subst eo112 | (injection eo112 with f1_ f2_ f3_; have f4_ := f1_.symm; have f5_ := f3_.symm; clear f1_ f2_ f3_; subst f4_; subst f5_))
        refine hK.out _ _ ⟨bc_ BK387 0, bc_ BK387 1, bc_ BK387 2, bc_ BK361 0, bc_ BK361 1, bc_ BK361 2⟩ (fun hHeld => ?_)
        clear hK K
        refine norm_ (a' := ?_) ?_ ?_
        rotate_left
        ·show Act.put _ (some 56) _ = _
         exact nm_
        refine one_ (i := 3) (N := some 57) #[true, true, true, true, false] rfl rfl (by kernel_rfl) (by decide) (fun K hK => ?_)
        refine goes_ Tryd.func15 (by kernel_rfl) rfl #[.agg #[.int .i64 t382, .slice Ao53 t383.length co53, .int .i64 t386], .agg #[.int .i64 t402, .slice Ao112 t403.length co112, .int .i64 t406]] (by rfl) rfl rfl ma_ ?_
        with_reducible refine (laws_eqDyadic.calls kj24 t382 _ _ t383 t386 t402 _ _ t403 t406 true _ ?side1 ?side2 ?side3 ?side4 A102.out).mono ?_
        (case side1 => exact cr_ HO_388001)
        (case side2 => exact (Kd.R_reads' HO_388001.out).2.1)
        (case side3 => exact cr_ HO405)
        (case side4 => exact (Kd.R_reads' HO405.out).2.1)
        rintro e w113 ⟨rfl, hb⟩
        refine ⟨_, rfl, ?_⟩
        have n0_ := am_ (Kd.R_below (kr_ HO_382001) hb); have n1_ := am_ (Kd.R_below (kr_ HO_388001) hb); have n2_ := am_ (Kd.R_below (kr_ HO_394001) hb); have n3_ := am_ (Kd.R_below (kr_ HO_401001) hb); have n4_ := am_ (Kd.R_below (kr_ HO405) hb); have n5_ := am_ (blk_below (bk_ BK361) hb); have n6_ := am_ (blk_below (bk_ BK362) hb); have n7_ := am_ (blk_below (bk_ BK381) hb); have n8_ := am_ (blk_below (bk_ BK387) hb); have n9_ := am_ (blk_below (bk_ BK393) hb); have n10_ := am_ (blk_below (bk_ BK400) hb); have n11_ := am_ (below_step (bl_ HB) hb); clear HO_382001 HO_388001 HO_394001 HO_401001 HO405 BK361 BK362 BK381 BK387 BK393 BK400 HB; have HO_382001 := n0_; have HO_388001 := n1_; have HO_394001 := n2_; have HO_401001 := n3_; have HO405 := n4_; have BK361 := n5_; have BK362 := n6_; have BK381 := n7_; have BK387 := n8_; have BK393 := n9_; have BK400 := n10_; have HB := n11_; clear n0_ n1_ n2_ n3_ n4_ n5_ n6_ n7_ n8_ n9_ n10_ n11_; (try clear hb); (try clear hb2); (try clear hk); (try clear hi)
        refine hK.out _ _ ⟨bc_ BK387 0, bc_ BK387 1, bc_ BK387 2, bc_ BK361 0, bc_ BK361 1, bc_ BK361 2⟩ (fun hHeld => ?_)
        clear hK K
        refine norm_ (a' := ?_) ?_ ?_
        rotate_left
        ·show Act.put _ (some 57) _ = _
         exact nm_
        refine pure_ (i := 4) (N := some 58) (v := ?_) (a' := ?_) #[true, true, true, true, true] rfl rfl (by kernel_rfl) (fun _ _ _ h => h) (Or.inl ⟨by rfl, ?_⟩) ?_ ?_
        rotate_left
        ·intro w'
         go_simp
         with_reducible rfl
        rotate_left
        ·exact nm_
        refine done_ (by kernel_rfl) ?_
        try go_wp2
        have n0_ := am_ (Kd.R_drew HO_382001.out); have n1_ := am_ (Kd.R_drew HO_388001.out); have n2_ := am_ (Kd.R_drew HO_394001.out); have n3_ := am_ (Kd.R_drew HO_401001.out); have n4_ := am_ (Kd.R_drew HO405.out); have n5_ := am_ (blk_drew BK361.out); have n6_ := am_ (blk_drew BK362.out); have n7_ := am_ (blk_drew BK381.out); have n8_ := am_ (blk_drew BK387.out); have n9_ := am_ (blk_drew BK393.out); have n10_ := am_ (blk_drew BK400.out); have n11_ := am_ (below_drew1 HB.out); clear HO_382001 HO_388001 HO_394001 HO_401001 HO405 BK361 BK362 BK381 BK387 BK393 BK400 HB; have HO_382001 := n0_; have HO_388001 := n1_; have HO_394001 := n2_; have HO_401001 := n3_; have HO405 := n4_; have BK361 := n5_; have BK362 := n6_; have BK381 := n7_; have BK387 := n8_; have BK393 := n9_; have BK400 := n10_; have HB := n11_; clear n0_ n1_ n2_ n3_ n4_ n5_ n6_ n7_ n8_ n9_ n10_ n11_
        refine start_ (n := 5) (S := fun w' => w'.cell? ⟨gb393, 0, none⟩ = some (.int .i64 t388) ∧ w'.cell? ⟨gb393, 1, none⟩ = some (.slice Ao63 t389.length co63) ∧ w'.cell? ⟨gb393, 2, none⟩ = some (.int .i64 t392) ∧ w'.cell? ⟨gb362, 0, none⟩ = some (.int .i64 a1_0) ∧ w'.cell? ⟨gb362, 1, none⟩ = some (.slice A1_1 l1_1.length c1_1) ∧ w'.cell? ⟨gb362, 2, none⟩ = some (.int .i64 a1_2)) (ds := []) #[false, false, false, false, false] (by kernel_rfl) rfl rfl ⟨bc_ BK393 0, bc_ BK393 1, bc_ BK393 2, bc_ BK362 0, bc_ BK362 1, bc_ BK362 2⟩ (fun hHeld => ?_)
        generalize w113.drew = w114 at HO_382001 HO_388001 HO_394001 HO_401001 HO405 BK361 BK362 BK381 BK387 BK393 BK400 HB hHeld ⊢
        refine take_ (i := 0) (N := some 59) (v := ?_) (a' := ?_) #[true, false, false, false, false] rfl rfl (by kernel_rfl) (fun _ _ _ h => h) (Or.inl ⟨by rfl, ?_⟩) hHeld ?_ ?_
        rotate_left
        ·rintro w' ⟨s0, s1, s2, s3, s4, s5⟩
         go_simp
         with_reducible rfl
        rotate_left
        ·exact nm_
        refine take_ (i := 1) (N := some 60) (v := ?_) (a' := ?_) #[true, true, false, false, false] rfl rfl (by kernel_rfl) (fun _ _ _ h => h) (Or.inl ⟨by rfl, ?_⟩) hHeld ?_ ?_
        rotate_left
        ·rintro w' ⟨s0, s1, s2, s3, s4, s5⟩
         go_simp
         with_reducible rfl
        rotate_left
        ·exact nm_
        refine one_ (i := 2) (N := some 61) #[true, true, true, false, false] rfl rfl (by kernel_rfl) (by decide) (fun K hK => ?_)
        refine goes_ Tryd.func13 (by kernel_rfl) rfl #[.agg #[.int .i64 a1_0, .slice A1_1 l1_1.length c1_1, .int .i64 a1_2]] (by rfl) rfl rfl ma_ ?_
        with_reducible refine (laws_toDyadic.calls kj24 a1_0 _ _ l1_1 a1_2 t408 t409 t412 _ ?side1 ?side2 A104.out).mono ?_
        (case side1 => exact cb_ HR1_1 HB)
        (case side2 => exact HC1_1.out)
        rintro e w115 ⟨v410, rfl, ho0, hb⟩
        refine ⟨_, rfl, ?_⟩
        have n0_ := am_ (Kd.R_elder' (kr_ HO_382001) (Kd.R_base ho0) hb); have n1_ := am_ (Kd.R_elder' (kr_ HO_388001) (Kd.R_base ho0) hb); have n2_ := am_ (Kd.R_elder' (kr_ HO_394001) (Kd.R_base ho0) hb); have n3_ := am_ (Kd.R_elder' (kr_ HO_401001) (Kd.R_base ho0) hb); have n4_ := am_ (Kd.R_elder' (kr_ HO405) (Kd.R_base ho0) hb); have n5_ := am_ (Kd.R_lower (Kd.R_new' (Kd.R_new' (Kd.R_new' (Kd.R_new' (Kd.R_new' ho0 (Kd.R_lt (kr_ HO_382001))) (Kd.R_lt (kr_ HO_388001))) (Kd.R_lt (kr_ HO_394001))) (Kd.R_lt (kr_ HO_401001))) (Kd.R_lt (kr_ HO405))) (below_size (bl_ HB))); have n6_ := am_ (blk_below (bk_ BK361) hb); have n7_ := am_ (blk_below (bk_ BK362) hb); have n8_ := am_ (blk_below (bk_ BK381) hb); have n9_ := am_ (blk_below (bk_ BK387) hb); have n10_ := am_ (blk_below (bk_ BK393) hb); have n11_ := am_ (blk_below (bk_ BK400) hb); have n12_ := am_ (below_step (bl_ HB) hb); clear HO_382001 HO_388001 HO_394001 HO_401001 HO405 BK361 BK362 BK381 BK387 BK393 BK400 HB; have HO_382001 := n0_; have HO_388001 := n1_; have HO_394001 := n2_; have HO_401001 := n3_; have HO405 := n4_; have HO411 := n5_; have BK361 := n6_; have BK362 := n7_; have BK381 := n8_; have BK387 := n9_; have BK393 := n10_; have BK400 := n11_; have HB := n12_; clear n0_ n1_ n2_ n3_ n4_ n5_ n6_ n7_ n8_ n9_ n10_ n11_ n12_; (try clear hb); (try clear hb2); (try clear hk); (try clear hi); (try clear ho0)
        obtain ⟨Ao116, co116, eo116⟩ := Kd.R_slice HO411.out
        (first | subst eo116 | (injection eo116 with f1_ f2_ f3_; have f4_ := f1_.symm; have f5_ := f3_.symm; clear f1_ f2_ f3_; subst f4_; subst f5_))
        refine hK.out _ _ ⟨bc_ BK393 0, bc_ BK393 1, bc_ BK393 2, bc_ BK362 0, bc_ BK362 1, bc_ BK362 2⟩ (fun hHeld => ?_)
        clear hK K
        refine norm_ (a' := ?_) ?_ ?_
        rotate_left
        ·show Act.put _ (some 61) _ = _
         exact nm_
        refine one_ (i := 3) (N := some 62) #[true, true, true, true, false] rfl rfl (by kernel_rfl) (by decide) (fun K hK => ?_)
        refine goes_ Tryd.func15 (by kernel_rfl) rfl #[.agg #[.int .i64 t388, .slice Ao63 t389.length co63, .int .i64 t392], .agg #[.int .i64 t408, .slice Ao116 t409.length co116, .int .i64 t412]] (by rfl) rfl rfl ma_ ?_
        with_reducible refine (laws_eqDyadic.calls kj24 t388 _ _ t389 t392 t408 _ _ t409 t412 true _ ?side1 ?side2 ?side3 ?side4 A105.out).mono ?_
        (case side1 => exact cr_ HO_394001)
        (case side2 => exact (Kd.R_reads' HO_394001.out).2.1)
        (case side3 => exact cr_ HO411)
        (case side4 => exact (Kd.R_reads' HO411.out).2.1)
        rintro e w117 ⟨rfl, hb⟩
        refine ⟨_, rfl, ?_⟩
        have n0_ := am_ (Kd.R_below (kr_ HO_382001) hb); have n1_ := am_ (Kd.R_below (kr_ HO_388001) hb); have n2_ := am_ (Kd.R_below (kr_ HO_394001) hb); have n3_ := am_ (Kd.R_below (kr_ HO_401001) hb); have n4_ := am_ (Kd.R_below (kr_ HO405) hb); have n5_ := am_ (Kd.R_below (kr_ HO411) hb); have n6_ := am_ (blk_below (bk_ BK361) hb); have n7_ := am_ (blk_below (bk_ BK362) hb); have n8_ := am_ (blk_below (bk_ BK381) hb); have n9_ := am_ (blk_below (bk_ BK387) hb); have n10_ := am_ (blk_below (bk_ BK393) hb); have n11_ := am_ (blk_below (bk_ BK400) hb); have n12_ := am_ (below_step (bl_ HB) hb); clear HO_382001 HO_388001 HO_394001 HO_401001 HO405 HO411 BK361 BK362 BK381 BK387 BK393 BK400 HB; have HO_382001 := n0_; have HO_388001 := n1_; have HO_394001 := n2_; have HO_401001 := n3_; have HO405 := n4_; have HO411 := n5_; have BK361 := n6_; have BK362 := n7_; have BK381 := n8_; have BK387 := n9_; have BK393 := n10_; have BK400 := n11_; have HB := n12_; clear n0_ n1_ n2_ n3_ n4_ n5_ n6_ n7_ n8_ n9_ n10_ n11_ n12_; (try clear hb); (try clear hb2); (try clear hk); (try clear hi)
        refine hK.out _ _ ⟨bc_ BK393 0, bc_ BK393 1, bc_ BK393 2, bc_ BK362 0, bc_ BK362 1, bc_ BK362 2⟩ (fun hHeld => ?_)
        clear hK K
        refine norm_ (a' := ?_) ?_ ?_
        rotate_left
        ·show Act.put _ (some 62) _ = _
         exact nm_
        refine pure_ (i := 4) (N := some 63) (v := ?_) (a' := ?_) #[true, true, true, true, true] rfl rfl (by kernel_rfl) (fun _ _ _ h => h) (Or.inl ⟨by rfl, ?_⟩) ?_ ?_
        rotate_left
        ·intro w'
         go_simp
         with_reducible rfl
        rotate_left
        ·exact nm_
        refine done_ (by kernel_rfl) ?_
        have hnb118 := NB387_361.out; have hnc118 := NB361_387.out; have hnb119 := NB387_362.out; have hnc119 := NB362_387.out; have hnb120 := NB387_381.out; have hnc120 := NB381_387.out; have hnb121 := NB387_393.out; have hnc121 := NB393_387.out; have hnb122 := NB387_400.out; have hnc122 := NB400_387.out
        have hcz123_0 : w117.cell? ⟨gb387, 0, none⟩ = some (.int .i64 t382) := bc_ BK387 0
        have hcz123_1 : w117.cell? ⟨gb387, 1, none⟩ = some (.slice Ao53 t383.length co53) := bc_ BK387 1
        have hcz123_2 : w117.cell? ⟨gb387, 2, none⟩ = some (.int .i64 t386) := bc_ BK387 2
        have hfz123_0 := blk_frozen BK387.out 0; have hfz123_1 := blk_frozen BK387.out 1; have hfz123_2 := blk_frozen BK387.out 2
        go_upto_region 21 with (first | ((with_reducible refine gate_callee (f := 16) rfl ?_); refine goesL_ (some 66) rfl rfl Tryd.func16 (by kernel_rfl) rfl #[.agg #[.int .i64 t382, .slice Ao53 t383.length co53, .int .i64 t386], .int .i64 1] rfl ma_ ?_; (with_reducible refine (laws_markDyadic.calls kj24 t382 (fun k_ => some k_ = (.slice Ao53 t383.length co53 : Value).ownBlock) (.slice Ao53 t383.length co53) t383 t386 1 t414 t415 w _ ?side1 ?side2 A107.out).mono ?_); (case side1 => exact bl_ HB); (case side2 => exact Kd.R_tight rfl HO_388001.out); rintro e w124 ⟨rfl, hy0, hb, hkp⟩; refine ⟨_, rfl, ?_⟩; have n0_ := am_ (Kd.R_mono (ok' := fun k_ => some k_ ≠ (.slice Ao53 t383.length co53 : Value).ownBlock ∧ some k_ ≠ (.slice Ao63 t389.length co63 : Value).ownBlock ∧ some k_ ≠ (.slice Ao73 t395.length co73 : Value).ownBlock ∧ some k_ ≠ (.slice Ao112 t403.length co112 : Value).ownBlock ∧ some k_ ≠ (.slice Ao116 t409.length co116 : Value).ownBlock) (Kd.R_keptB (HO_382001.out) hkp (fun k_ hk_ hs_ => (hk_.1.1.1) hs_)) (fun k_ hk_ => ⟨hk_.1.1.1.1, hk_.1.1.1.2.1, hk_.1.1.1.2.2, hk_.1.1.2, hk_.1.2⟩)); have n1_ := am_ (Kd.R_reok rfl hy0 (fun k_ e_ => HO_388001.out.1 k_ e_)); have n2_ := am_ (Kd.R_mono (ok' := fun k_ => some k_ ≠ (.slice Ao42 t376.length co42 : Value).ownBlock ∧ some k_ ≠ (.slice Ao53 t383.length co53 : Value).ownBlock ∧ some k_ ≠ (.slice Ao73 t395.length co73 : Value).ownBlock ∧ some k_ ≠ (.slice Ao112 t403.length co112 : Value).ownBlock ∧ some k_ ≠ (.slice Ao116 t409.length co116 : Value).ownBlock) (Kd.R_keptB (HO_394001.out) hkp (fun k_ hk_ hs_ => (hk_.1.1.2.1) hs_)) (fun k_ hk_ => ⟨hk_.1.1.1.1, hk_.1.1.1.2.1, hk_.1.1.1.2.2, hk_.1.1.2, hk_.1.2⟩)); have n3_ := am_ (Kd.R_mono (ok' := fun k_ => some k_ ≠ (.slice Ao42 t376.length co42 : Value).ownBlock ∧ some k_ ≠ (.slice Ao53 t383.length co53 : Value).ownBlock ∧ some k_ ≠ (.slice Ao63 t389.length co63 : Value).ownBlock ∧ some k_ ≠ (.slice Ao112 t403.length co112 : Value).ownBlock ∧ some k_ ≠ (.slice Ao116 t409.length co116 : Value).ownBlock) (Kd.R_keptB (HO_401001.out) hkp (fun k_ hk_ hs_ => (hk_.1.1.2.1) hs_)) (fun k_ hk_ => ⟨hk_.1.1.1.1, hk_.1.1.1.2.1, hk_.1.1.1.2.2, hk_.1.1.2, hk_.1.2⟩)); have n4_ := am_ (blk_kept (bk_ BK361) hkp (fun hs_ => (fun e_ => (Kd.R_ne HO_388001.out BK361.out (by decide)) e_) hs_)); have n5_ := am_ (blk_kept (bk_ BK362) hkp (fun hs_ => (fun e_ => (Kd.R_ne HO_388001.out BK362.out (by decide)) e_) hs_)); have n6_ := am_ (blk_kept (bk_ BK381) hkp (fun hs_ => (fun e_ => (Kd.R_ne HO_388001.out BK381.out (by decide)) e_) hs_)); have n7_ := am_ (blk_kept (bk_ BK387) hkp (fun hs_ => (fun e_ => (Kd.R_ne HO_388001.out BK387.out (by decide)) e_) hs_)); have n8_ := am_ (blk_kept (bk_ BK393) hkp (fun hs_ => (fun e_ => (Kd.R_ne HO_388001.out BK393.out (by decide)) e_) hs_)); have n9_ := am_ (blk_kept (bk_ BK400) hkp (fun hs_ => (fun e_ => (Kd.R_ne HO_388001.out BK400.out (by decide)) e_) hs_)); have n10_ := am_ (Kd.R_mono (ok' := fun k_ => some k_ ≠ (.slice Ao42 t376.length co42 : Value).ownBlock ∧ some k_ ≠ (.slice Ao53 t383.length co53 : Value).ownBlock ∧ some k_ ≠ (.slice Ao63 t389.length co63 : Value).ownBlock ∧ some k_ ≠ (.slice Ao73 t395.length co73 : Value).ownBlock ∧ some k_ ≠ (.slice Ao116 t409.length co116 : Value).ownBlock) (Kd.R_keptB (HO405.out) hkp (fun k_ hk_ hs_ => (hk_.1.1.1.2) hs_)) (fun k_ hk_ => ⟨hk_.1.1.1.1.1.2, hk_.1.1.1.1.2, hk_.1.1.1.2, hk_.1.1.2, hk_.1.2⟩)); have n11_ := am_ (Kd.R_mono (ok' := fun k_ => some k_ ≠ (.slice Ao42 t376.length co42 : Value).ownBlock ∧ some k_ ≠ (.slice Ao53 t383.length co53 : Value).ownBlock ∧ some k_ ≠ (.slice Ao63 t389.length co63 : Value).ownBlock ∧ some k_ ≠ (.slice Ao73 t395.length co73 : Value).ownBlock ∧ some k_ ≠ (.slice Ao112 t403.length co112 : Value).ownBlock) (Kd.R_keptB (HO411.out) hkp (fun k_ hk_ hs_ => (hk_.1.1.1.2) hs_)) (fun k_ hk_ => ⟨hk_.1.1.1.1.1.2, hk_.1.1.1.1.2, hk_.1.1.1.2, hk_.1.1.2, hk_.1.2⟩)); have n12_ := am_ (hb); clear HO_382001; clear HO_388001; clear HO_394001; clear HO_401001; clear BK361; clear BK362; clear BK381; clear BK387; clear BK393; clear BK400; clear HO405; clear HO411; clear HB; have HO_382001 := n0_; have HO_388001 := n1_; have HO_394001 := n2_; have HO_401001 := n3_; have BK361 := n4_; have BK362 := n5_; have BK381 := n6_; have BK387 := n7_; have BK393 := n8_; have BK400 := n9_; have HO405 := n10_; have HO411 := n11_; have HB := n12_; clear n0_ n1_ n2_ n3_ n4_ n5_ n6_ n7_ n8_ n9_ n10_ n11_ n12_; (try clear hb); (try clear hkp); (try clear hy0); have hnb125 := NB393_361.out; have hnc125 := NB361_393.out; have hnb126 := NB393_362.out; have hnc126 := NB362_393.out; have hnb127 := NB393_381.out; have hnc127 := NB381_393.out; have hnb128 := NB393_400.out; have hnc128 := NB400_393.out; have hcz129_0 : w124.cell? ⟨gb393, 0, none⟩ = some (.int .i64 t388) := bc_ BK393 0; have hcz129_1 : w124.cell? ⟨gb393, 1, none⟩ = some (.slice Ao63 t389.length co63) := bc_ BK393 1; have hcz129_2 : w124.cell? ⟨gb393, 2, none⟩ = some (.int .i64 t392) := bc_ BK393 2; have hfz129_0 := blk_frozen BK393.out 0; have hfz129_1 := blk_frozen BK393.out 1; have hfz129_2 := blk_frozen BK393.out 2) | ((with_reducible refine gate_callee (f := 16) rfl ?_); refine goesL_ (some 69) rfl rfl Tryd.func16 (by kernel_rfl) rfl #[.agg #[.int .i64 t388, .slice Ao63 t389.length co63, .int .i64 t392], .int .i64 t414] rfl ma_ ?_; (with_reducible refine (laws_markDyadic.calls kj24 t388 (fun k_ => some k_ = (.slice Ao63 t389.length co63 : Value).ownBlock) (.slice Ao63 t389.length co63) t389 t392 t414 t416 t417 w _ ?side1 ?side2 A108.out).mono ?_); (case side1 => exact bl_ HB); (case side2 => exact Kd.R_tight rfl HO_394001.out); rintro e w130 ⟨rfl, hy0, hb, hkp⟩; refine ⟨_, rfl, ?_⟩; have n0_ := am_ (Kd.R_mono (ok' := fun k_ => some k_ ≠ (.slice Ao53 t383.length co53 : Value).ownBlock ∧ some k_ ≠ (.slice Ao63 t389.length co63 : Value).ownBlock ∧ some k_ ≠ (.slice Ao73 t395.length co73 : Value).ownBlock ∧ some k_ ≠ (.slice Ao112 t403.length co112 : Value).ownBlock ∧ some k_ ≠ (.slice Ao116 t409.length co116 : Value).ownBlock) (Kd.R_keptB (HO_382001.out) hkp (fun k_ hk_ hs_ => (hk_.2.1) hs_)) (fun k_ hk_ => ⟨hk_.1.1, hk_.1.2.1, hk_.1.2.2.1, hk_.1.2.2.2.1, hk_.1.2.2.2.2⟩)); have n1_ := am_ (Kd.R_mono (ok' := fun k_ => some k_ ≠ (.slice Ao42 t376.length co42 : Value).ownBlock ∧ some k_ ≠ (.slice Ao63 t389.length co63 : Value).ownBlock ∧ some k_ ≠ (.slice Ao73 t395.length co73 : Value).ownBlock ∧ some k_ ≠ (.slice Ao112 t403.length co112 : Value).ownBlock ∧ some k_ ≠ (.slice Ao116 t409.length co116 : Value).ownBlock) (Kd.R_keptB (HO_388001.out) hkp (fun k_ hk_ hs_ => (hk_.1.1.2.1) hs_)) (fun k_ hk_ => ⟨hk_.1.1.1.1, hk_.1.1.1.2.1, hk_.1.1.1.2.2, hk_.1.1.2, hk_.1.2⟩)); have n2_ := am_ (Kd.R_reok rfl hy0 (fun k_ e_ => HO_394001.out.1 k_ e_)); have n3_ := am_ (Kd.R_mono (ok' := fun k_ => some k_ ≠ (.slice Ao42 t376.length co42 : Value).ownBlock ∧ some k_ ≠ (.slice Ao53 t383.length co53 : Value).ownBlock ∧ some k_ ≠ (.slice Ao63 t389.length co63 : Value).ownBlock ∧ some k_ ≠ (.slice Ao112 t403.length co112 : Value).ownBlock ∧ some k_ ≠ (.slice Ao116 t409.length co116 : Value).ownBlock) (Kd.R_keptB (HO_401001.out) hkp (fun k_ hk_ hs_ => (hk_.2.2.1) hs_)) (fun k_ hk_ => ⟨hk_.1.1, hk_.1.2.1, hk_.1.2.2.1, hk_.1.2.2.2.1, hk_.1.2.2.2.2⟩)); have n4_ := am_ (blk_kept (bk_ BK361) hkp (fun hs_ => (fun e_ => (Kd.R_ne HO_394001.out BK361.out (by decide)) e_) hs_)); have n5_ := am_ (blk_kept (bk_ BK362) hkp (fun hs_ => (fun e_ => (Kd.R_ne HO_394001.out BK362.out (by decide)) e_) hs_)); have n6_ := am_ (blk_kept (bk_ BK381) hkp (fun hs_ => (fun e_ => (Kd.R_ne HO_394001.out BK381.out (by decide)) e_) hs_)); have n7_ := am_ (blk_kept (bk_ BK387) hkp (fun hs_ => (fun e_ => (Kd.R_ne HO_394001.out BK387.out (by decide)) e_) hs_)); have n8_ := am_ (blk_kept (bk_ BK393) hkp (fun hs_ => (fun e_ => (Kd.R_ne HO_394001.out BK393.out (by decide)) e_) hs_)); have n9_ := am_ (blk_kept (bk_ BK400) hkp (fun hs_ => (fun e_ => (Kd.R_ne HO_394001.out BK400.out (by decide)) e_) hs_)); have n10_ := am_ (Kd.R_mono (ok' := fun k_ => some k_ ≠ (.slice Ao42 t376.length co42 : Value).ownBlock ∧ some k_ ≠ (.slice Ao53 t383.length co53 : Value).ownBlock ∧ some k_ ≠ (.slice Ao63 t389.length co63 : Value).ownBlock ∧ some k_ ≠ (.slice Ao73 t395.length co73 : Value).ownBlock ∧ some k_ ≠ (.slice Ao116 t409.length co116 : Value).ownBlock) (Kd.R_keptB (HO405.out) hkp (fun k_ hk_ hs_ => (hk_.2.2.1) hs_)) (fun k_ hk_ => ⟨hk_.1.1, hk_.1.2.1, hk_.1.2.2.1, hk_.1.2.2.2.1, hk_.1.2.2.2.2⟩)); have n11_ := am_ (Kd.R_mono (ok' := fun k_ => some k_ ≠ (.slice Ao42 t376.length co42 : Value).ownBlock ∧ some k_ ≠ (.slice Ao53 t383.length co53 : Value).ownBlock ∧ some k_ ≠ (.slice Ao63 t389.length co63 : Value).ownBlock ∧ some k_ ≠ (.slice Ao73 t395.length co73 : Value).ownBlock ∧ some k_ ≠ (.slice Ao112 t403.length co112 : Value).ownBlock) (Kd.R_keptB (HO411.out) hkp (fun k_ hk_ hs_ => (hk_.2.2.1) hs_)) (fun k_ hk_ => ⟨hk_.1.1, hk_.1.2.1, hk_.1.2.2.1, hk_.1.2.2.2.1, hk_.1.2.2.2.2⟩)); have n12_ := am_ (hb); clear HO_382001; clear HO_388001; clear HO_394001; clear HO_401001; clear BK361; clear BK362; clear BK381; clear BK387; clear BK393; clear BK400; clear HO405; clear HO411; clear HB; have HO_382001 := n0_; have HO_388001 := n1_; have HO_394001 := n2_; have HO_401001 := n3_; have BK361 := n4_; have BK362 := n5_; have BK381 := n6_; have BK387 := n7_; have BK393 := n8_; have BK400 := n9_; have HO405 := n10_; have HO411 := n11_; have HB := n12_; clear n0_ n1_ n2_ n3_ n4_ n5_ n6_ n7_ n8_ n9_ n10_ n11_ n12_; (try clear hb); (try clear hkp); (try clear hy0)))
        (try simp only [Act.put, List.setIfInBounds_toArray, List.set_cons_zero, List.set_cons_succ])
        go_cut [82] (fun v82 wc => ∃ (kq : Nat) (x82_108 : Bool), v82 = .bool x82_108 ∧ Aside0 (laws_FnExactSubtractDyadics.j1 kq t380 x82_108 a0_0 l0_1 a0_2 a1_0 l1_1 a1_2 t375 t376 t379 t394 t395 t398 = some r) ∧ Aside0 (kq ≤ kj24) ∧ Aside0 (Kd.R (Kd.int .i64) 2 wc w.heap.size (fun k_ => some k_ ≠ ((.slice Ao53 t383.length co53) : Value).ownBlock ∧ some k_ ≠ ((.slice Ao63 t389.length co63) : Value).ownBlock ∧ some k_ ≠ ((.slice Ao73 t395.length co73) : Value).ownBlock) (.slice Ao42 t376.length co42) t376) ∧ Aside0 (Kd.R (Kd.int .i64) 2 wc w.heap.size (fun k_ => some k_ ≠ ((.slice Ao42 t376.length co42) : Value).ownBlock ∧ some k_ ≠ ((.slice Ao63 t389.length co63) : Value).ownBlock ∧ some k_ ≠ ((.slice Ao73 t395.length co73) : Value).ownBlock) (.slice Ao53 t383.length co53) t415) ∧ Aside0 (Kd.R (Kd.int .i64) 2 wc w.heap.size (fun k_ => some k_ ≠ ((.slice Ao42 t376.length co42) : Value).ownBlock ∧ some k_ ≠ ((.slice Ao53 t383.length co53) : Value).ownBlock ∧ some k_ ≠ ((.slice Ao73 t395.length co73) : Value).ownBlock) (.slice Ao63 t389.length co63) t417) ∧ Aside0 (Kd.R (Kd.int .i64) 2 wc w.heap.size (fun k_ => some k_ ≠ ((.slice Ao42 t376.length co42) : Value).ownBlock ∧ some k_ ≠ ((.slice Ao53 t383.length co53) : Value).ownBlock ∧ some k_ ≠ ((.slice Ao63 t389.length co63) : Value).ownBlock) (.slice Ao73 t395.length co73) t395) ∧ Aside0 (wc.heap[gb361]? = some (.cells #[.int .i64 a0_0, (.slice A0_1 l0_1.length c0_1), .int .i64 a0_2] 26 (0, 0))) ∧ Aside0 (wc.heap[gb362]? = some (.cells #[.int .i64 a1_0, (.slice A1_1 l1_1.length c1_1), .int .i64 a1_2] 26 (0, 0))) ∧ Aside0 (wc.heap[gb381]? = some (.cells #[.int .i64 t375, (.slice Ao42 t376.length co42), .int .i64 t379] 30 (0, 0))) ∧ Aside0 (wc.heap[gb387]? = some (.cells #[.int .i64 t382, (.slice Ao53 t383.length co53), .int .i64 t386] 30 (0, 0))) ∧ Aside0 (wc.heap[gb393]? = some (.cells #[.int .i64 t388, (.slice Ao63 t389.length co63), .int .i64 t392] 30 (0, 0))) ∧ Aside0 (wc.heap[gb400]? = some (.cells #[.int .i64 t394, (.slice Ao73 t395.length co73), .int .i64 t398] 30 (0, 0))) ∧ Aside0 (Below w.heap.size w wc))
        case first =>
         have H := HC109.out; clear HC109
         by_cases c131 : t416 < 0
         ·rw [if_pos c131] at H
          have c131b0 : decide (t416 < 0) = true := decide_eq_true c131
          clear c131
          (first | rw [c131b0] | (simp only [i64_w, i32_w]; rw [c131b0]) | skip)
          have H' := Aside0.mk H
          clear H
          go_wp2
          go_meet
          case rel => exact ⟨_, (true), (by first | rfl | (simp; done) | (simp [*]; done)), H', ⟨by have := HJ24.out; first | omega | exact Nat.le_refl _⟩, ⟨km_ HO_382001 (fun _ hk => ⟨hk.1, ⟨hk.2.1, hk.2.2.1⟩⟩)⟩, ⟨km_ HO_388001 (fun _ hk => ⟨hk.1, ⟨hk.2.1, hk.2.2.1⟩⟩)⟩, ⟨km_ HO_394001 (fun _ hk => ⟨hk.1, ⟨hk.2.1, hk.2.2.1⟩⟩)⟩, ⟨km_ HO_401001 (fun _ hk => ⟨hk.1, ⟨hk.2.1, hk.2.2.1⟩⟩)⟩, ⟨bk_ BK361⟩, ⟨bk_ BK362⟩, ⟨bk_ BK381⟩, ⟨bk_ BK387⟩, ⟨bk_ BK393⟩, ⟨bk_ BK400⟩, ⟨bl_ HB⟩⟩
         ·rw [if_neg c131] at H
          have c131b0 : decide (t416 < 0) = false := decide_eq_false c131
          clear c131
          (first | rw [c131b0] | (simp only [i64_w, i32_w]; rw [c131b0]) | skip)
          replace H := Option.bind_eq_some_iff.mp H
          obtain ⟨t418, A1320, H⟩ := H
          replace H : (if t418 = true then (laws_FnExactSubtractDyadics.j1 kj24 t380 (t399 != t380) a0_0 l0_1 a0_2 a1_0 l1_1 a1_2 t375 t376 t379 t394 t395 t398) else (laws_FnExactSubtractDyadics.j1 kj24 t380 true a0_0 l0_1 a0_2 a1_0 l1_1 a1_2 t375 t376 t379 t394 t395 t398)) = some r := H
          have A132 := Aside0.mk A1320; clear A1320
          by_cases c133 : t418 = true
          ·subst c133
           have H1 : (laws_FnExactSubtractDyadics.j1 kj24 t380 (t399 != t380) a0_0 l0_1 a0_2 a1_0 l1_1 a1_2 t375 t376 t379 t394 t395 t398) = some r := by rw [if_pos rfl] at H; exact H
           clear H; have H := H1; clear H1
           have H' := Aside0.mk H
           clear H; have hnb134 := NB400_361.out; have hnc134 := NB361_400.out; have hnb135 := NB400_362.out; have hnc135 := NB362_400.out; have hnb136 := NB400_381.out; have hnc136 := NB381_400.out; have hnb137 := NB400_387.out; have hnc137 := NB387_400.out; have hnb138 := NB400_393.out; have hnc138 := NB393_400.out
           have hcz139_0 : w130.cell? ⟨gb400, 0, none⟩ = some (.int .i64 t394) := bc_ BK400 0
           have hcz139_1 : w130.cell? ⟨gb400, 1, none⟩ = some (.slice Ao73 t395.length co73) := bc_ BK400 1
           have hcz139_2 : w130.cell? ⟨gb400, 2, none⟩ = some (.int .i64 t398) := bc_ BK400 2
           have hfz139_0 := blk_frozen BK400.out 0; have hfz139_1 := blk_frozen BK400.out 1; have hfz139_2 := blk_frozen BK400.out 2; have hnb140 := NB381_361.out; have hnc140 := NB361_381.out; have hnb141 := NB381_362.out; have hnc141 := NB362_381.out; have hnb142 := NB381_387.out; have hnc142 := NB387_381.out; have hnb143 := NB381_393.out; have hnc143 := NB393_381.out
           have hcz144_0 : w130.cell? ⟨gb381, 0, none⟩ = some (.int .i64 t375) := bc_ BK381 0
           have hcz144_1 : w130.cell? ⟨gb381, 1, none⟩ = some (.slice Ao42 t376.length co42) := bc_ BK381 1
           have hcz144_2 : w130.cell? ⟨gb381, 2, none⟩ = some (.int .i64 t379) := bc_ BK381 2
           have hfz144_0 := blk_frozen BK381.out 0; have hfz144_1 := blk_frozen BK381.out 1; have hfz144_2 := blk_frozen BK381.out 2
           go_wp2_with (first | (go_at_call 15; (with_reducible refine (laws_eqDyadic.calls kj24 t394 _ _ t395 t398 t375 _ _ t376 t379 true _ ?side1 ?side2 ?side3 ?side4 A132.out).mono ?_); (case side1 => exact cr_ HO_401001); (case side2 => exact (Kd.R_reads' HO_401001.out).2.1); (case side3 => exact cr_ HO_382001); (case side4 => exact (Kd.R_reads' HO_382001.out).2.1); rintro e w145 ⟨rfl, hb⟩; replace HO_382001 := am_ (Kd.R_below (kr_ HO_382001) hb); replace HO_388001 := am_ (Kd.R_below (kr_ HO_388001) hb); replace HO_394001 := am_ (Kd.R_below (kr_ HO_394001) hb); replace HO_401001 := am_ (Kd.R_below (kr_ HO_401001) hb); replace HO405 := am_ (Kd.R_below (kr_ HO405) hb); replace HO411 := am_ (Kd.R_below (kr_ HO411) hb); replace BK361 := am_ (blk_below (bk_ BK361) hb); replace BK362 := am_ (blk_below (bk_ BK362) hb); replace BK381 := am_ (blk_below (bk_ BK381) hb); replace BK387 := am_ (blk_below (bk_ BK387) hb); replace BK393 := am_ (blk_below (bk_ BK393) hb); replace BK400 := am_ (blk_below (bk_ BK400) hb); replace HB := am_ (below_step (bl_ HB) hb); (try clear hb); (try clear hb2); (try clear hk); (try clear hi)))
           go_meet
           case rel => exact ⟨_, ((t399 != t380)), (by first | rfl | (simp; done) | (simp [*]; done)), H', ⟨by have := HJ24.out; first | omega | exact Nat.le_refl _⟩, ⟨km_ HO_382001 (fun _ hk => ⟨hk.1, ⟨hk.2.1, hk.2.2.1⟩⟩)⟩, ⟨km_ HO_388001 (fun _ hk => ⟨hk.1, ⟨hk.2.1, hk.2.2.1⟩⟩)⟩, ⟨km_ HO_394001 (fun _ hk => ⟨hk.1, ⟨hk.2.1, hk.2.2.1⟩⟩)⟩, ⟨km_ HO_401001 (fun _ hk => ⟨hk.1, ⟨hk.2.1, hk.2.2.1⟩⟩)⟩, ⟨bk_ BK361⟩, ⟨bk_ BK362⟩, ⟨bk_ BK381⟩, ⟨bk_ BK387⟩, ⟨bk_ BK393⟩, ⟨bk_ BK400⟩, ⟨bl_ HB⟩⟩
          ·replace c133 := Bool.eq_false_iff.mpr c133
           subst c133
           have H1 : (laws_FnExactSubtractDyadics.j1 kj24 t380 true a0_0 l0_1 a0_2 a1_0 l1_1 a1_2 t375 t376 t379 t394 t395 t398) = some r := by rw [if_neg (show ¬ (false = true) by decide)] at H; exact H
           clear H; have H := H1; clear H1
           have H' := Aside0.mk H
           clear H; have hnb146 := NB400_361.out; have hnc146 := NB361_400.out; have hnb147 := NB400_362.out; have hnc147 := NB362_400.out; have hnb148 := NB400_381.out; have hnc148 := NB381_400.out; have hnb149 := NB400_387.out; have hnc149 := NB387_400.out; have hnb150 := NB400_393.out; have hnc150 := NB393_400.out
           have hcz151_0 : w130.cell? ⟨gb400, 0, none⟩ = some (.int .i64 t394) := bc_ BK400 0
           have hcz151_1 : w130.cell? ⟨gb400, 1, none⟩ = some (.slice Ao73 t395.length co73) := bc_ BK400 1
           have hcz151_2 : w130.cell? ⟨gb400, 2, none⟩ = some (.int .i64 t398) := bc_ BK400 2
           have hfz151_0 := blk_frozen BK400.out 0; have hfz151_1 := blk_frozen BK400.out 1; have hfz151_2 := blk_frozen BK400.out 2; have hnb152 := NB381_361.out; have hnc152 := NB361_381.out; have hnb153 := NB381_362.out; have hnc153 := NB362_381.out; have hnb154 := NB381_387.out; have hnc154 := NB387_381.out; have hnb155 := NB381_393.out; have hnc155 := NB393_381.out
           have hcz156_0 : w130.cell? ⟨gb381, 0, none⟩ = some (.int .i64 t375) := bc_ BK381 0
           have hcz156_1 : w130.cell? ⟨gb381, 1, none⟩ = some (.slice Ao42 t376.length co42) := bc_ BK381 1
           have hcz156_2 : w130.cell? ⟨gb381, 2, none⟩ = some (.int .i64 t379) := bc_ BK381 2
           have hfz156_0 := blk_frozen BK381.out 0; have hfz156_1 := blk_frozen BK381.out 1; have hfz156_2 := blk_frozen BK381.out 2
           go_wp2_with (first | (go_at_call 15; (with_reducible refine (laws_eqDyadic.calls kj24 t394 _ _ t395 t398 t375 _ _ t376 t379 false _ ?side1 ?side2 ?side3 ?side4 A132.out).mono ?_); (case side1 => exact cr_ HO_401001); (case side2 => exact (Kd.R_reads' HO_401001.out).2.1); (case side3 => exact cr_ HO_382001); (case side4 => exact (Kd.R_reads' HO_382001.out).2.1); rintro e w157 ⟨rfl, hb⟩; replace HO_382001 := am_ (Kd.R_below (kr_ HO_382001) hb); replace HO_388001 := am_ (Kd.R_below (kr_ HO_388001) hb); replace HO_394001 := am_ (Kd.R_below (kr_ HO_394001) hb); replace HO_401001 := am_ (Kd.R_below (kr_ HO_401001) hb); replace HO405 := am_ (Kd.R_below (kr_ HO405) hb); replace HO411 := am_ (Kd.R_below (kr_ HO411) hb); replace BK361 := am_ (blk_below (bk_ BK361) hb); replace BK362 := am_ (blk_below (bk_ BK362) hb); replace BK381 := am_ (blk_below (bk_ BK381) hb); replace BK387 := am_ (blk_below (bk_ BK387) hb); replace BK393 := am_ (blk_below (bk_ BK393) hb); replace BK400 := am_ (blk_below (bk_ BK400) hb); replace HB := am_ (below_step (bl_ HB) hb); (try clear hb); (try clear hb2); (try clear hk); (try clear hi)))
           go_meet
           case rel => exact ⟨_, (true), (by first | rfl | (simp; done) | (simp [*]; done)), H', ⟨by have := HJ24.out; first | omega | exact Nat.le_refl _⟩, ⟨km_ HO_382001 (fun _ hk => ⟨hk.1, ⟨hk.2.1, hk.2.2.1⟩⟩)⟩, ⟨km_ HO_388001 (fun _ hk => ⟨hk.1, ⟨hk.2.1, hk.2.2.1⟩⟩)⟩, ⟨km_ HO_394001 (fun _ hk => ⟨hk.1, ⟨hk.2.1, hk.2.2.1⟩⟩)⟩, ⟨km_ HO_401001 (fun _ hk => ⟨hk.1, ⟨hk.2.1, hk.2.2.1⟩⟩)⟩, ⟨bk_ BK361⟩, ⟨bk_ BK362⟩, ⟨bk_ BK381⟩, ⟨bk_ BK387⟩, ⟨bk_ BK393⟩, ⟨bk_ BK400⟩, ⟨bl_ HB⟩⟩
        case rest =>
         clear HC109; try clear c1; try clear p2; try clear c10; try clear c11; try clear c12; try clear c13; try clear c14; try clear c15; try clear c16; try clear c100; try clear c103; try clear c106; try clear c118; try clear c119; try clear c120; try clear c121; try clear c122; try clear c125; try clear c126; try clear c127; try clear c128; try clear c131; try clear c131b0; try clear c133; try clear c134; try clear c135; try clear c136; try clear c137; try clear c138; try clear c140; try clear c141; try clear c142; try clear c143; try clear c146; try clear c147; try clear c148; try clear c149; try clear c150; try clear c152; try clear c153; try clear c154; try clear c155; try clear hcz123_0; try clear hcz123_1; try clear hcz123_2; try clear hcz129_0; try clear hcz129_1; try clear hcz129_2; try clear hcz139_0; try clear hcz139_1; try clear hcz139_2; try clear hcz144_0; try clear hcz144_1; try clear hcz144_2; try clear hcz151_0; try clear hcz151_1; try clear hcz151_2; try clear hcz156_0; try clear hcz156_1; try clear hcz156_2; try clear hcz64_1; try clear hcz64_2; try clear hcz72_0; try clear hcz72_1; try clear hcz72_2; try clear hcz81_0; try clear hcz81_1; try clear hcz81_2; try clear hcz86_0; try clear hcz86_1; try clear hcz86_2; try clear hcz93_0; try clear hcz93_1; try clear hcz93_2; try clear hcz98_0; try clear hcz98_1; try clear hcz98_2; try clear hfz123_0; try clear hfz123_1; try clear hfz123_2; try clear hfz129_0; try clear hfz129_1; try clear hfz129_2; try clear hfz139_0; try clear hfz139_1; try clear hfz139_2; try clear hfz144_0; try clear hfz144_1; try clear hfz144_2; try clear hfz151_0; try clear hfz151_1; try clear hfz151_2; try clear hfz156_0; try clear hfz156_1; try clear hfz156_2; try clear hfz46_0; try clear hfz46_1; try clear hfz46_2; try clear hfz52_0; try clear hfz52_1; try clear hfz52_2; try clear hfz55_0; try clear hfz55_1; try clear hfz55_2; try clear hfz62_0; try clear hfz62_1; try clear hfz62_2; try clear hfz64_0; try clear hfz64_1; try clear hfz64_2
         try clear hfz72_0; try clear hfz72_1; try clear hfz72_2; try clear hfz81_0; try clear hfz81_1; try clear hfz81_2; try clear hfz86_0; try clear hfz86_1; try clear hfz86_2; try clear hfz93_0; try clear hfz93_1; try clear hfz93_2; try clear hfz98_0; try clear hfz98_1; try clear hfz98_2
         obtain ⟨kq, x82_108, rfl, HA, HJ108, HO_382001, HO_388001, HO_394001, HO_401001, BK361, BK362, BK381, BK387, BK393, BK400, HB⟩ := hcut
         have hl388001_108 := (Kd.R_reads' HO_388001.out).1
         rw [hl388001_108] at HO_388001
         (try simp only [hl388001_108])
         (try simp only [hl388001_108] at BK361)
         (try simp only [hl388001_108] at BK362)
         (try simp only [hl388001_108] at BK381)
         (try simp only [hl388001_108] at BK387)
         (try simp only [hl388001_108] at BK393)
         (try simp only [hl388001_108] at BK400)
         (try simp only [hl388001_108] at HO_382001)
         (try simp only [hl388001_108] at HO_394001)
         (try simp only [hl388001_108] at HO_401001)
         have hl394001_108 := (Kd.R_reads' HO_394001.out).1
         rw [hl394001_108] at HO_394001
         (try simp only [hl394001_108])
         (try simp only [hl394001_108] at BK361)
         (try simp only [hl394001_108] at BK362)
         (try simp only [hl394001_108] at BK381)
         (try simp only [hl394001_108] at BK387)
         (try simp only [hl394001_108] at BK393)
         (try simp only [hl394001_108] at BK400)
         (try simp only [hl394001_108] at HO_382001)
         (try simp only [hl394001_108] at HO_388001)
         (try simp only [hl394001_108] at HO_401001)
         cases kq with
         | zero => exact absurd HA.out (by simp [laws_FnExactSubtractDyadics.j1])
         | succ kj108 =>
          have H := HA.out; clear HA
          simp only [laws_FnExactSubtractDyadics.j1] at H
          by_cases c158 : x82_108 = true
          ·subst c158
           have H1 : (some false) = some r := by rw [if_pos rfl] at H; exact H
           clear H; have H := H1; clear H1; obtain rfl := Option.some.inj H
           go_wp2
           go_ret
           exact ⟨by first | rfl | (simp [errW_none, errW_some] <;> rfl) | (simp [*, errW_none, errW_some] <;> rfl), bl_ HB⟩
          ·replace c158 := Bool.eq_false_iff.mpr c158
           subst c158
           have H1 : ((laws_markDyadic.f kj108 t394 t395 t398 1).bind fun bt419 => ((laws_heldDyadic.f kj108 t394 bt419.2 t398 1).bind fun t421 => (if t421 < 0 then (some false) else (if t421 = bt419.1 then ((laws_toDyadic.f kj108 a0_0 l0_1 a0_2).bind fun bt422 => ((laws_toDyadic.f kj108 a1_0 l1_1 a1_2).bind fun bt427 => ((impl_SubtractDyadics.f bt422.1 bt422.2.1 bt422.2.2 bt427.1 bt427.2.1 bt427.2.2).bind fun bt432 => ((laws_eqDyadic.f kj108 bt432.1 bt432.2.1 bt432.2.2.1 t375 t376 t379).bind fun t439 => (if t439 = true then (laws_FnExactSubtractDyadics.j2 kj108 bt419.1 (bt432.2.2.2 != t380) t394 bt419.2 t398) else (laws_FnExactSubtractDyadics.j2 kj108 bt419.1 true t394 bt419.2 t398)))))) else (some false))))) = some r := by rw [if_neg (show ¬ (false = true) by decide)] at H; exact H
           clear H; have H := H1; clear H1
           replace H := Option.bind_eq_some_iff.mp H
           obtain ⟨⟨t419, t420⟩, A1590, H⟩ := H
           replace H : ((laws_heldDyadic.f kj108 t394 t420 t398 1).bind fun t421 => (if t421 < 0 then (some false) else (if t421 = t419 then ((laws_toDyadic.f kj108 a0_0 l0_1 a0_2).bind fun bt422 => ((laws_toDyadic.f kj108 a1_0 l1_1 a1_2).bind fun bt427 => ((impl_SubtractDyadics.f bt422.1 bt422.2.1 bt422.2.2 bt427.1 bt427.2.1 bt427.2.2).bind fun bt432 => ((laws_eqDyadic.f kj108 bt432.1 bt432.2.1 bt432.2.2.1 t375 t376 t379).bind fun t439 => (if t439 = true then (laws_FnExactSubtractDyadics.j2 kj108 t419 (bt432.2.2.2 != t380) t394 t420 t398) else (laws_FnExactSubtractDyadics.j2 kj108 t419 true t394 t420 t398)))))) else (some false)))) = some r := H
           have A159 := Aside0.mk A1590; clear A1590
           replace H := Option.bind_eq_some_iff.mp H
           obtain ⟨t421, A1600, H⟩ := H
           replace H : (if t421 < 0 then (some false) else (if t421 = t419 then ((laws_toDyadic.f kj108 a0_0 l0_1 a0_2).bind fun bt422 => ((laws_toDyadic.f kj108 a1_0 l1_1 a1_2).bind fun bt427 => ((impl_SubtractDyadics.f bt422.1 bt422.2.1 bt422.2.2 bt427.1 bt427.2.1 bt427.2.2).bind fun bt432 => ((laws_eqDyadic.f kj108 bt432.1 bt432.2.1 bt432.2.2.1 t375 t376 t379).bind fun t439 => (if t439 = true then (laws_FnExactSubtractDyadics.j2 kj108 t419 (bt432.2.2.2 != t380) t394 t420 t398) else (laws_FnExactSubtractDyadics.j2 kj108 t419 true t394 t420 t398)))))) else (some false))) = some r := H
           have A160 := Aside0.mk A1600; clear A1600
           by_cases c161 : t421 < 0
           ·rw [if_pos c161] at H
            have c161b0 : decide (t421 < 0) = true := decide_eq_true c161
            clear c161; obtain rfl := Option.some.inj H; have hnb162 := NB400_361.out; have hnc162 := NB361_400.out; have hnb163 := NB400_362.out; have hnc163 := NB362_400.out; have hnb164 := NB400_381.out; have hnc164 := NB381_400.out; have hnb165 := NB400_387.out; have hnc165 := NB387_400.out; have hnb166 := NB400_393.out; have hnc166 := NB393_400.out
            have hcz167_0 : wc.cell? ⟨gb400, 0, none⟩ = some (.int .i64 t394) := bc_ BK400 0
            have hcz167_1 : wc.cell? ⟨gb400, 1, none⟩ = some (.slice Ao73 t395.length co73) := bc_ BK400 1
            have hcz167_2 : wc.cell? ⟨gb400, 2, none⟩ = some (.int .i64 t398) := bc_ BK400 2
            have hfz167_0 := blk_frozen BK400.out 0; have hfz167_1 := blk_frozen BK400.out 1; have hfz167_2 := blk_frozen BK400.out 2
            go_wp2_with (first | ((with_reducible refine gate_callee (f := 16) rfl ?_); refine goesL_ (some 85) rfl rfl Tryd.func16 (by kernel_rfl) rfl #[.agg #[.int .i64 t394, .slice Ao73 t395.length co73, .int .i64 t398], .int .i64 1] rfl ma_ ?_; (with_reducible refine (laws_markDyadic.calls kj108 t394 (fun k_ => some k_ = (.slice Ao73 t395.length co73 : Value).ownBlock) (.slice Ao73 t395.length co73) t395 t398 1 t419 t420 w _ ?side1 ?side2 A159.out).mono ?_); (case side1 => exact bl_ HB); (case side2 => exact Kd.R_tight rfl HO_401001.out); rintro e w168 ⟨rfl, hy0, hb, hkp⟩; refine ⟨_, rfl, ?_⟩; have n0_ := am_ (Kd.R_mono (ok' := fun k_ => some k_ ≠ (.slice Ao53 t415.length co53 : Value).ownBlock ∧ some k_ ≠ (.slice Ao63 t417.length co63 : Value).ownBlock ∧ some k_ ≠ (.slice Ao73 t395.length co73 : Value).ownBlock) (Kd.R_keptB (HO_382001.out) hkp (fun k_ hk_ hs_ => (hk_.2.2) hs_)) (fun k_ hk_ => ⟨hk_.1.1, hk_.1.2.1, hk_.1.2.2⟩)); have n1_ := am_ (Kd.R_mono (ok' := fun k_ => some k_ ≠ (.slice Ao42 t376.length co42 : Value).ownBlock ∧ some k_ ≠ (.slice Ao63 t417.length co63 : Value).ownBlock ∧ some k_ ≠ (.slice Ao73 t395.length co73 : Value).ownBlock) (Kd.R_keptB (HO_388001.out) hkp (fun k_ hk_ hs_ => (hk_.2.2) hs_)) (fun k_ hk_ => ⟨hk_.1.1, hk_.1.2.1, hk_.1.2.2⟩)); have n2_ := am_ (Kd.R_mono (ok' := fun k_ => some k_ ≠ (.slice Ao42 t376.length co42 : Value).ownBlock ∧ some k_ ≠ (.slice Ao53 t415.length co53 : Value).ownBlock ∧ some k_ ≠ (.slice Ao73 t395.length co73 : Value).ownBlock) (Kd.R_keptB (HO_394001.out) hkp (fun k_ hk_ hs_ => (hk_.2.2) hs_)) (fun k_ hk_ => ⟨hk_.1.1, hk_.1.2.1, hk_.1.2.2⟩)); have n3_ := am_ (Kd.R_reok rfl hy0 (fun k_ e_ => HO_401001.out.1 k_ e_)); have n4_ := am_ (blk_kept (bk_ BK361) hkp (fun hs_ => (fun e_ => (Kd.R_ne HO_401001.out BK361.out (by decide)) e_) hs_)); have n5_ := am_ (blk_kept (bk_ BK362) hkp (fun hs_ => (fun e_ => (Kd.R_ne HO_401001.out BK362.out (by decide)) e_) hs_)); have n6_ := am_ (blk_kept (bk_ BK381) hkp (fun hs_ => (fun e_ => (Kd.R_ne HO_401001.out BK381.out (by decide)) e_) hs_)); have n7_ := am_ (blk_kept (bk_ BK387) hkp (fun hs_ => (fun e_ => (Kd.R_ne HO_401001.out BK387.out (by decide)) e_) hs_)); have n8_ := am_ (blk_kept (bk_ BK393) hkp (fun hs_ => (fun e_ => (Kd.R_ne HO_401001.out BK393.out (by decide)) e_) hs_)); have n9_ := am_ (blk_kept (bk_ BK400) hkp (fun hs_ => (fun e_ => (Kd.R_ne HO_401001.out BK400.out (by decide)) e_) hs_)); have n10_ := am_ (hb); clear HO_382001; clear HO_388001; clear HO_394001; clear HO_401001; clear BK361; clear BK362; clear BK381; clear BK387; clear BK393; clear BK400; clear HB; have HO_382001 := n0_; have HO_388001 := n1_; have HO_394001 := n2_; have HO_401001 := n3_; have BK361 := n4_; have BK362 := n5_; have BK381 := n6_; have BK387 := n7_; have BK393 := n8_; have BK400 := n9_; have HB := n10_; clear n0_ n1_ n2_ n3_ n4_ n5_ n6_ n7_ n8_ n9_ n10_; (try clear hb); (try clear hkp); (try clear hy0); have hcz169_0 : w168.cell? ⟨gb400, 0, none⟩ = some (.int .i64 t394) := bc_ BK400 0; have hcz169_1 : w168.cell? ⟨gb400, 1, none⟩ = some (.slice Ao73 t395.length co73) := bc_ BK400 1; have hcz169_2 : w168.cell? ⟨gb400, 2, none⟩ = some (.int .i64 t398) := bc_ BK400 2; have hfz169_0 := blk_frozen BK400.out 0; have hfz169_1 := blk_frozen BK400.out 1; have hfz169_2 := blk_frozen BK400.out 2) | ((with_reducible refine gate_callee (f := 17) rfl ?_); refine goesL_ (some 88) rfl rfl Tryd.func17 (by kernel_rfl) rfl #[.agg #[.int .i64 t394, .slice Ao73 t420.length co73, .int .i64 t398], .int .i64 1] rfl (by (try simp only [List.map_toArray, List.map_cons, List.map_nil]); first | done | (rw [show t420.length = t395.length from (Kd.R_reads' HO_401001.out).1.symm] <;> rfl) | rfl | (simp only [List.length_drop, List.length_take]; rfl)) ?_; (with_reducible refine (laws_heldDyadic.calls kj108 t394 _ _ t420 t398 1 t421 _ ?side1 ?side2 A160.out).mono ?_); (case side1 => exact cr_ HO_401001); (case side2 => rw [show t420.length = t395.length from (Kd.R_reads' HO_401001.out).1.symm]; exact (Kd.R_reads' HO_401001.out).2.1); rintro e w170 ⟨rfl, hb⟩; refine ⟨_, rfl, ?_⟩; replace HO_382001 := am_ (Kd.R_below (kr_ HO_382001) hb); replace HO_388001 := am_ (Kd.R_below (kr_ HO_388001) hb); replace HO_394001 := am_ (Kd.R_below (kr_ HO_394001) hb); replace HO_401001 := am_ (Kd.R_below (kr_ HO_401001) hb); replace BK361 := am_ (blk_below (bk_ BK361) hb); replace BK362 := am_ (blk_below (bk_ BK362) hb); replace BK381 := am_ (blk_below (bk_ BK381) hb); replace BK387 := am_ (blk_below (bk_ BK387) hb); replace BK393 := am_ (blk_below (bk_ BK393) hb); replace BK400 := am_ (blk_below (bk_ BK400) hb); replace HB := am_ (below_step (bl_ HB) hb); (try clear hb); (try clear hb2); (try clear hk); (try clear hi)))
            go_ret
            exact ⟨by first | rfl | (simp [errW_none, errW_some] <;> rfl) | (simp [*, errW_none, errW_some] <;> rfl), bl_ HB⟩
           ·rw [if_neg c161] at H
            have c161b0 : decide (t421 < 0) = false := decide_eq_false c161
            clear c161
            by_cases c171 : t421 = t419
            ·rw [if_pos c171] at H
             have c171b0 : (t421 == t419) = true := beq_iff_eq.mpr c171
             have c171b1 : (t421 != t419) = false := bne_eq_false_iff_eq.mpr c171
             clear c171
             replace H := Option.bind_eq_some_iff.mp H
             obtain ⟨⟨t422, t423, t426⟩, A1720, H⟩ := H
             replace H : ((laws_toDyadic.f kj108 a1_0 l1_1 a1_2).bind fun bt427 => ((impl_SubtractDyadics.f t422 t423 t426 bt427.1 bt427.2.1 bt427.2.2).bind fun bt432 => ((laws_eqDyadic.f kj108 bt432.1 bt432.2.1 bt432.2.2.1 t375 t376 t379).bind fun t439 => (if t439 = true then (laws_FnExactSubtractDyadics.j2 kj108 t419 (bt432.2.2.2 != t380) t394 t420 t398) else (laws_FnExactSubtractDyadics.j2 kj108 t419 true t394 t420 t398))))) = some r := H
             have A172 := Aside0.mk A1720; clear A1720
             replace H := Option.bind_eq_some_iff.mp H
             obtain ⟨⟨t427, t428, t431⟩, A1730, H⟩ := H
             replace H : ((impl_SubtractDyadics.f t422 t423 t426 t427 t428 t431).bind fun bt432 => ((laws_eqDyadic.f kj108 bt432.1 bt432.2.1 bt432.2.2.1 t375 t376 t379).bind fun t439 => (if t439 = true then (laws_FnExactSubtractDyadics.j2 kj108 t419 (bt432.2.2.2 != t380) t394 t420 t398) else (laws_FnExactSubtractDyadics.j2 kj108 t419 true t394 t420 t398)))) = some r := H
             have A173 := Aside0.mk A1730; clear A1730
             replace H := Option.bind_eq_some_iff.mp H
             obtain ⟨⟨t432, t433, t436, t437⟩, A1740, H⟩ := H
             replace H : ((laws_eqDyadic.f kj108 t432 t433 t436 t375 t376 t379).bind fun t439 => (if t439 = true then (laws_FnExactSubtractDyadics.j2 kj108 t419 (t437 != t380) t394 t420 t398) else (laws_FnExactSubtractDyadics.j2 kj108 t419 true t394 t420 t398))) = some r := H
             have A174 := Aside0.mk A1740; clear A1740; have HC175 := Aside0.mk H; clear H; have hnb176 := NB400_361.out; have hnc176 := NB361_400.out; have hnb177 := NB400_362.out; have hnc177 := NB362_400.out; have hnb178 := NB400_381.out; have hnc178 := NB381_400.out; have hnb179 := NB400_387.out; have hnc179 := NB387_400.out; have hnb180 := NB400_393.out; have hnc180 := NB393_400.out
             have hcz181_0 : wc.cell? ⟨gb400, 0, none⟩ = some (.int .i64 t394) := bc_ BK400 0
             have hcz181_1 : wc.cell? ⟨gb400, 1, none⟩ = some (.slice Ao73 t395.length co73) := bc_ BK400 1
             have hcz181_2 : wc.cell? ⟨gb400, 2, none⟩ = some (.int .i64 t398) := bc_ BK400 2
             have hfz181_0 := blk_frozen BK400.out 0; have hfz181_1 := blk_frozen BK400.out 1; have hfz181_2 := blk_frozen BK400.out 2
             try go_wp2_with (first | ((with_reducible refine gate_callee (f := 16) rfl ?_); refine goesL_ (some 85) rfl rfl Tryd.func16 (by kernel_rfl) rfl #[.agg #[.int .i64 t394, .slice Ao73 t395.length co73, .int .i64 t398], .int .i64 1] rfl ma_ ?_; (with_reducible refine (laws_markDyadic.calls kj108 t394 (fun k_ => some k_ = (.slice Ao73 t395.length co73 : Value).ownBlock) (.slice Ao73 t395.length co73) t395 t398 1 t419 t420 w _ ?side1 ?side2 A159.out).mono ?_); (case side1 => exact bl_ HB); (case side2 => exact Kd.R_tight rfl HO_401001.out); rintro e w182 ⟨rfl, hy0, hb, hkp⟩; refine ⟨_, rfl, ?_⟩; have n0_ := am_ (Kd.R_mono (ok' := fun k_ => some k_ ≠ (.slice Ao53 t415.length co53 : Value).ownBlock ∧ some k_ ≠ (.slice Ao63 t417.length co63 : Value).ownBlock ∧ some k_ ≠ (.slice Ao73 t395.length co73 : Value).ownBlock) (Kd.R_keptB (HO_382001.out) hkp (fun k_ hk_ hs_ => (hk_.2.2) hs_)) (fun k_ hk_ => ⟨hk_.1.1, hk_.1.2.1, hk_.1.2.2⟩)); have n1_ := am_ (Kd.R_mono (ok' := fun k_ => some k_ ≠ (.slice Ao42 t376.length co42 : Value).ownBlock ∧ some k_ ≠ (.slice Ao63 t417.length co63 : Value).ownBlock ∧ some k_ ≠ (.slice Ao73 t395.length co73 : Value).ownBlock) (Kd.R_keptB (HO_388001.out) hkp (fun k_ hk_ hs_ => (hk_.2.2) hs_)) (fun k_ hk_ => ⟨hk_.1.1, hk_.1.2.1, hk_.1.2.2⟩)); have n2_ := am_ (Kd.R_mono (ok' := fun k_ => some k_ ≠ (.slice Ao42 t376.length co42 : Value).ownBlock ∧ some k_ ≠ (.slice Ao53 t415.length co53 : Value).ownBlock ∧ some k_ ≠ (.slice Ao73 t395.length co73 : Value).ownBlock) (Kd.R_keptB (HO_394001.out) hkp (fun k_ hk_ hs_ => (hk_.2.2) hs_)) (fun k_ hk_ => ⟨hk_.1.1, hk_.1.2.1, hk_.1.2.2⟩)); have n3_ := am_ (Kd.R_reok rfl hy0 (fun k_ e_ => HO_401001.out.1 k_ e_)); have n4_ := am_ (blk_kept (bk_ BK361) hkp (fun hs_ => (fun e_ => (Kd.R_ne HO_401001.out BK361.out (by decide)) e_) hs_)); have n5_ := am_ (blk_kept (bk_ BK362) hkp (fun hs_ => (fun e_ => (Kd.R_ne HO_401001.out BK362.out (by decide)) e_) hs_)); have n6_ := am_ (blk_kept (bk_ BK381) hkp (fun hs_ => (fun e_ => (Kd.R_ne HO_401001.out BK381.out (by decide)) e_) hs_)); have n7_ := am_ (blk_kept (bk_ BK387) hkp (fun hs_ => (fun e_ => (Kd.R_ne HO_401001.out BK387.out (by decide)) e_) hs_)); have n8_ := am_ (blk_kept (bk_ BK393) hkp (fun hs_ => (fun e_ => (Kd.R_ne HO_401001.out BK393.out (by decide)) e_) hs_)); have n9_ := am_ (blk_kept (bk_ BK400) hkp (fun hs_ => (fun e_ => (Kd.R_ne HO_401001.out BK400.out (by decide)) e_) hs_)); have n10_ := am_ (hb); clear HO_382001; clear HO_388001; clear HO_394001; clear HO_401001; clear BK361; clear BK362; clear BK381; clear BK387; clear BK393; clear BK400; clear HB; have HO_382001 := n0_; have HO_388001 := n1_; have HO_394001 := n2_; have HO_401001 := n3_; have BK361 := n4_; have BK362 := n5_; have BK381 := n6_; have BK387 := n7_; have BK393 := n8_; have BK400 := n9_; have HB := n10_; clear n0_ n1_ n2_ n3_ n4_ n5_ n6_ n7_ n8_ n9_ n10_; (try clear hb); (try clear hkp); (try clear hy0); have hcz183_0 : w182.cell? ⟨gb400, 0, none⟩ = some (.int .i64 t394) := bc_ BK400 0; have hcz183_1 : w182.cell? ⟨gb400, 1, none⟩ = some (.slice Ao73 t395.length co73) := bc_ BK400 1; have hcz183_2 : w182.cell? ⟨gb400, 2, none⟩ = some (.int .i64 t398) := bc_ BK400 2; have hfz183_0 := blk_frozen BK400.out 0; have hfz183_1 := blk_frozen BK400.out 1; have hfz183_2 := blk_frozen BK400.out 2) | ((with_reducible refine gate_callee (f := 17) rfl ?_); refine goesL_ (some 88) rfl rfl Tryd.func17 (by kernel_rfl) rfl #[.agg #[.int .i64 t394, .slice Ao73 t420.length co73, .int .i64 t398], .int .i64 1] rfl (by (try simp only [List.map_toArray, List.map_cons, List.map_nil]); first | done | (rw [show t420.length = t395.length from (Kd.R_reads' HO_401001.out).1.symm] <;> rfl) | rfl | (simp only [List.length_drop, List.length_take]; rfl)) ?_; (with_reducible refine (laws_heldDyadic.calls kj108 t394 _ _ t420 t398 1 t421 _ ?side1 ?side2 A160.out).mono ?_); (case side1 => exact cr_ HO_401001); (case side2 => rw [show t420.length = t395.length from (Kd.R_reads' HO_401001.out).1.symm]; exact (Kd.R_reads' HO_401001.out).2.1); rintro e w184 ⟨rfl, hb⟩; refine ⟨_, rfl, ?_⟩; replace HO_382001 := am_ (Kd.R_below (kr_ HO_382001) hb); replace HO_388001 := am_ (Kd.R_below (kr_ HO_388001) hb); replace HO_394001 := am_ (Kd.R_below (kr_ HO_394001) hb); replace HO_401001 := am_ (Kd.R_below (kr_ HO_401001) hb); replace BK361 := am_ (blk_below (bk_ BK361) hb); replace BK362 := am_ (blk_below (bk_ BK362) hb); replace BK381 := am_ (blk_below (bk_ BK381) hb); replace BK387 := am_ (blk_below (bk_ BK387) hb); replace BK393 := am_ (blk_below (bk_ BK393) hb); replace BK400 := am_ (blk_below (bk_ BK400) hb); replace HB := am_ (below_step (bl_ HB) hb); (try clear hb); (try clear hb2); (try clear hk); (try clear hi)))
             have n0_ := am_ (Kd.R_drew HO_382001.out); have n1_ := am_ (Kd.R_drew HO_388001.out); have n2_ := am_ (Kd.R_drew HO_394001.out); have n3_ := am_ (Kd.R_drew HO_401001.out); have n4_ := am_ (blk_drew BK361.out); have n5_ := am_ (blk_drew BK362.out); have n6_ := am_ (blk_drew BK381.out); have n7_ := am_ (blk_drew BK387.out); have n8_ := am_ (blk_drew BK393.out); have n9_ := am_ (blk_drew BK400.out); have n10_ := am_ (below_drew1 HB.out); clear HO_382001 HO_388001 HO_394001 HO_401001 BK361 BK362 BK381 BK387 BK393 BK400 HB; have HO_382001 := n0_; have HO_388001 := n1_; have HO_394001 := n2_; have HO_401001 := n3_; have BK361 := n4_; have BK362 := n5_; have BK381 := n6_; have BK387 := n7_; have BK393 := n8_; have BK400 := n9_; have HB := n10_; clear n0_ n1_ n2_ n3_ n4_ n5_ n6_ n7_ n8_ n9_ n10_
             refine start_ (n := 11) (S := fun w' => w'.cell? ⟨gb361, 0, none⟩ = some (.int .i64 a0_0) ∧ w'.cell? ⟨gb361, 1, none⟩ = some (.slice A0_1 l0_1.length c0_1) ∧ w'.cell? ⟨gb361, 2, none⟩ = some (.int .i64 a0_2) ∧ w'.cell? ⟨gb362, 0, none⟩ = some (.int .i64 a1_0) ∧ w'.cell? ⟨gb362, 1, none⟩ = some (.slice A1_1 l1_1.length c1_1) ∧ w'.cell? ⟨gb362, 2, none⟩ = some (.int .i64 a1_2)) (ds := []) #[false, false, false, false, false, false, false, false, false, false, false] (by kernel_rfl) rfl rfl ⟨bc_ BK361 0, bc_ BK361 1, bc_ BK361 2, bc_ BK362 0, bc_ BK362 1, bc_ BK362 2⟩ (fun hHeld => ?_); refine with_tabW laws_FnExactSubtractDyadics.tab31 laws_FnExactSubtractDyadics.bits31 (fun HT_ HW_ => ?_)
             generalize w184.drew = w185 at HO_382001 HO_388001 HO_394001 HO_401001 BK361 BK362 BK381 BK387 BK393 BK400 HB hHeld ⊢
             refine take_ (i := 0) (N := some 95) (v := ?_) (a' := ?_) #[true, false, false, false, false, false, false, false, false, false, false] rfl rfl (take_ofW HT_.out HW_.out (by kernel_rfl)) (fun _ _ _ h => h) (Or.inl ⟨by rfl, ?_⟩) hHeld ?_ ?_
             rotate_left
             ·rintro w' ⟨s0, s1, s2, s3, s4, s5⟩
              go_simp
              with_reducible rfl
             rotate_left
             ·exact nm_
             refine take_ (i := 2) (N := some 97) (v := ?_) (a' := ?_) #[true, false, true, false, false, false, false, false, false, false, false] rfl rfl (take_ofW HT_.out HW_.out (by kernel_rfl)) (fun _ _ _ h => h) (Or.inl ⟨by rfl, ?_⟩) hHeld ?_ ?_
             rotate_left
             ·rintro w' ⟨s0, s1, s2, s3, s4, s5⟩
              go_simp
              with_reducible rfl
             rotate_left
             ·exact nm_
             refine join_ (σ := Value × Value × Value × Nat) 2 #[true, true, true, true, true, true, true, true, true, false, false] (fun s_ => [(96, .agg #[.int .i64 t422, s_.1, .int .i64 t426]), (98, .agg #[.int .i64 t427, s_.2.1, .int .i64 t431]), (99, .tuple #[.agg #[.int .i64 t432, s_.2.2.1, .int .i64 t436], .int .i64 t437]), (15, .pointer (some ⟨s_.2.2.2, 0, none⟩)), (94, .tuple #[.agg #[.int .i64 t432, s_.2.2.1, .int .i64 t436], .int .i64 t437]), (100, .agg #[.int .i64 t432, s_.2.2.1, .int .i64 t436]), (101, .int .i64 t437)]) (fun s_ w' => (w'.cell? ⟨gb361, 0, none⟩ = some (.int .i64 a0_0) ∧ w'.cell? ⟨gb361, 1, none⟩ = some (.slice A0_1 l0_1.length c0_1) ∧ w'.cell? ⟨gb361, 2, none⟩ = some (.int .i64 a0_2) ∧ w'.cell? ⟨gb362, 0, none⟩ = some (.int .i64 a1_0) ∧ w'.cell? ⟨gb362, 1, none⟩ = some (.slice A1_1 l1_1.length c1_1) ∧ w'.cell? ⟨gb362, 2, none⟩ = some (.int .i64 a1_2)) ∧ (Kd.R (Kd.int .i64) 2 w' w.heap.size (fun k_ => some k_ ≠ (s_.2.1 : Value).ownBlock ∧ some k_ ≠ (s_.2.2.1 : Value).ownBlock ∧ some k_ ≠ (.slice Ao42 t376.length co42 : Value).ownBlock ∧ some k_ ≠ (.slice Ao53 t415.length co53 : Value).ownBlock ∧ some k_ ≠ (.slice Ao63 t417.length co63 : Value).ownBlock ∧ some k_ ≠ (.slice Ao73 t395.length co73 : Value).ownBlock) s_.1 t423) ∧ (Kd.R (Kd.int .i64) 2 w' w.heap.size (fun k_ => some k_ ≠ (s_.1 : Value).ownBlock ∧ some k_ ≠ (s_.2.2.1 : Value).ownBlock ∧ some k_ ≠ (.slice Ao42 t376.length co42 : Value).ownBlock ∧ some k_ ≠ (.slice Ao53 t415.length co53 : Value).ownBlock ∧ some k_ ≠ (.slice Ao63 t417.length co63 : Value).ownBlock ∧ some k_ ≠ (.slice Ao73 t395.length co73 : Value).ownBlock) s_.2.1 t428) ∧ (Kd.R (Kd.int .i64) 2 w' w.heap.size (fun k_ => some k_ ≠ (s_.1 : Value).ownBlock ∧ some k_ ≠ (s_.2.1 : Value).ownBlock ∧ some k_ ≠ (.slice Ao42 t376.length co42 : Value).ownBlock ∧ some k_ ≠ (.slice Ao53 t415.length co53 : Value).ownBlock ∧ some k_ ≠ (.slice Ao63 t417.length co63 : Value).ownBlock ∧ some k_ ≠ (.slice Ao73 t395.length co73 : Value).ownBlock) s_.2.2.1 t433) ∧ (Kd.R (Kd.int .i64) 2 w' w.heap.size (fun k_ => some k_ ≠ (s_.1 : Value).ownBlock ∧ some k_ ≠ (s_.2.1 : Value).ownBlock ∧ some k_ ≠ (s_.2.2.1 : Value).ownBlock ∧ some k_ ≠ (.slice Ao53 t415.length co53 : Value).ownBlock ∧ some k_ ≠ (.slice Ao63 t417.length co63 : Value).ownBlock ∧ some k_ ≠ (.slice Ao73 t395.length co73 : Value).ownBlock) (.slice Ao42 t376.length co42) t376) ∧ (Kd.R (Kd.int .i64) 2 w' w.heap.size (fun k_ => some k_ ≠ (s_.1 : Value).ownBlock ∧ some k_ ≠ (s_.2.1 : Value).ownBlock ∧ some k_ ≠ (s_.2.2.1 : Value).ownBlock ∧ some k_ ≠ (.slice Ao42 t376.length co42 : Value).ownBlock ∧ some k_ ≠ (.slice Ao63 t417.length co63 : Value).ownBlock ∧ some k_ ≠ (.slice Ao73 t395.length co73 : Value).ownBlock) (.slice Ao53 t415.length co53) t415) ∧ (Kd.R (Kd.int .i64) 2 w' w.heap.size (fun k_ => some k_ ≠ (s_.1 : Value).ownBlock ∧ some k_ ≠ (s_.2.1 : Value).ownBlock ∧ some k_ ≠ (s_.2.2.1 : Value).ownBlock ∧ some k_ ≠ (.slice Ao42 t376.length co42 : Value).ownBlock ∧ some k_ ≠ (.slice Ao53 t415.length co53 : Value).ownBlock ∧ some k_ ≠ (.slice Ao73 t395.length co73 : Value).ownBlock) (.slice Ao63 t417.length co63) t417) ∧ (Kd.R (Kd.int .i64) 2 w' w.heap.size (fun k_ => some k_ ≠ (s_.1 : Value).ownBlock ∧ some k_ ≠ (s_.2.1 : Value).ownBlock ∧ some k_ ≠ (s_.2.2.1 : Value).ownBlock ∧ some k_ ≠ (.slice Ao42 t376.length co42 : Value).ownBlock ∧ some k_ ≠ (.slice Ao53 t415.length co53 : Value).ownBlock ∧ some k_ ≠ (.slice Ao63 t417.length co63 : Value).ownBlock) (.slice Ao73 t395.length co73) t420) ∧ (w'.heap[gb361]? = some (.cells #[.int .i64 a0_0, .slice A0_1 l0_1.length c0_1, .int .i64 a0_2] 26 (0, 0))) ∧ (w'.heap[gb362]? = some (.cells #[.int .i64 a1_0, .slice A1_1 l1_1.length c1_1, .int .i64 a1_2] 26 (0, 0))) ∧ (w'.heap[gb381]? = some (.cells #[.int .i64 t375, .slice Ao42 t376.length co42, .int .i64 t379] 30 (0, 0))) ∧ (w'.heap[gb387]? = some (.cells #[.int .i64 t382, .slice Ao53 t415.length co53, .int .i64 t386] 30 (0, 0))) ∧ (w'.heap[gb393]? = some (.cells #[.int .i64 t388, .slice Ao63 t417.length co63, .int .i64 t392] 30 (0, 0))) ∧ (w'.heap[gb400]? = some (.cells #[.int .i64 t394, .slice Ao73 t395.length co73, .int .i64 t398] 30 (0, 0))) ∧ (w'.heap[s_.2.2.2]? = some (.cells #[.int .i64 0, .slice none 0 0, .int .i64 0] 30 (0, 0))) ∧ (w.heap.size ≤ s_.2.2.2) ∧ (w.heap.size ≤ s_.2.2.2) ∧ (gb361 ≠ s_.2.2.2) ∧ (s_.2.2.2 ≠ gb361) ∧ (gb362 ≠ s_.2.2.2) ∧ (s_.2.2.2 ≠ gb362) ∧ (gb381 ≠ s_.2.2.2) ∧ (s_.2.2.2 ≠ gb381) ∧ (gb387 ≠ s_.2.2.2) ∧ (s_.2.2.2 ≠ gb387) ∧ (gb393 ≠ s_.2.2.2) ∧ (s_.2.2.2 ≠ gb393) ∧ (gb400 ≠ s_.2.2.2) ∧ (s_.2.2.2 ≠ gb400) ∧ (Below w.heap.size w w')) ?_ ?_
             rotate_left
             ·intro hCont
              refine two_ (i := 1) (j := 8) (Ni := some 96) (Nj := some 15) #[true, true, true, false, false, false, false, false, false, false, false] #[true, false, true, false, false, false, false, false, true, false, false] rfl rfl rfl rfl (two_of HT_.out (by kernel_rfl)) (by decide) (by decide) (fun K hK => ?_) (fun K hK => ?_)
              ·skip
               refine goes_ Tryd.func13 (by kernel_rfl) rfl #[.agg #[.int .i64 a0_0, .slice A0_1 l0_1.length c0_1, .int .i64 a0_2]] (by rfl) rfl rfl ma_ ?_
               with_reducible refine (laws_toDyadic.calls kj108 a0_0 _ _ l0_1 a0_2 t422 t423 t426 _ ?side1 ?side2 A172.out).mono ?_
               (case side1 => exact cb_ HR0_1 HB)
               (case side2 => exact HC0_1.out)
               rintro e w186 ⟨v424, rfl, ho0, hb⟩
               refine ⟨_, rfl, ?_⟩
               have n0_ := am_ (Kd.R_elder' (kr_ HO_382001) (Kd.R_base ho0) hb); have n1_ := am_ (Kd.R_elder' (kr_ HO_388001) (Kd.R_base ho0) hb); have n2_ := am_ (Kd.R_elder' (kr_ HO_394001) (Kd.R_base ho0) hb); have n3_ := am_ (Kd.R_elder' (kr_ HO_401001) (Kd.R_base ho0) hb); have n4_ := am_ (Kd.R_lower (Kd.R_new' (Kd.R_new' (Kd.R_new' (Kd.R_new' ho0 (Kd.R_lt (kr_ HO_382001))) (Kd.R_lt (kr_ HO_388001))) (Kd.R_lt (kr_ HO_394001))) (Kd.R_lt (kr_ HO_401001))) (below_size (bl_ HB))); have n5_ := am_ (blk_below (bk_ BK361) hb); have n6_ := am_ (blk_below (bk_ BK362) hb); have n7_ := am_ (blk_below (bk_ BK381) hb); have n8_ := am_ (blk_below (bk_ BK387) hb); have n9_ := am_ (blk_below (bk_ BK393) hb); have n10_ := am_ (blk_below (bk_ BK400) hb); have n11_ := am_ (below_step (bl_ HB) hb); clear HO_382001 HO_388001 HO_394001 HO_401001 BK361 BK362 BK381 BK387 BK393 BK400 HB; have HO_382001 := n0_; have HO_388001 := n1_; have HO_394001 := n2_; have HO_401001 := n3_; have HO425 := n4_; have BK361 := n5_; have BK362 := n6_; have BK381 := n7_; have BK387 := n8_; have BK393 := n9_; have BK400 := n10_; have HB := n11_; clear n0_ n1_ n2_ n3_ n4_ n5_ n6_ n7_ n8_ n9_ n10_ n11_; (try clear hb); (try clear hb2); (try clear hk); (try clear hi); (try clear ho0)
               refine hK.out _ _ ⟨bc_ BK361 0, bc_ BK361 1, bc_ BK361 2, bc_ BK362 0, bc_ BK362 1, bc_ BK362 2⟩ (fun hHeld => ?_)
               clear hK K
               refine norm_ (a' := ?_) ?_ ?_
               rotate_left
               ·show Act.put _ (some 96) _ = _
                exact nm_
               refine two_ (i := 3) (j := 8) (Ni := some 98) (Nj := some 15) #[true, true, true, true, false, false, false, false, false, false, false] #[true, true, true, false, false, false, false, false, true, false, false] rfl rfl rfl rfl (two_of HT_.out (by kernel_rfl)) (by decide) (by decide) (fun K hK => ?_) (fun K hK => ?_)
               ·skip
                refine goes_ Tryd.func13 (by kernel_rfl) rfl #[.agg #[.int .i64 a1_0, .slice A1_1 l1_1.length c1_1, .int .i64 a1_2]] (by rfl) rfl rfl ma_ ?_
                with_reducible refine (laws_toDyadic.calls kj108 a1_0 _ _ l1_1 a1_2 t427 t428 t431 _ ?side1 ?side2 A173.out).mono ?_
                (case side1 => exact cb_ HR1_1 HB)
                (case side2 => exact HC1_1.out)
                rintro e w187 ⟨v429, rfl, ho0, hb⟩
                refine ⟨_, rfl, ?_⟩
                have n0_ := am_ (Kd.R_elder' (kr_ HO_382001) (Kd.R_base ho0) hb); have n1_ := am_ (Kd.R_elder' (kr_ HO_388001) (Kd.R_base ho0) hb); have n2_ := am_ (Kd.R_elder' (kr_ HO_394001) (Kd.R_base ho0) hb); have n3_ := am_ (Kd.R_elder' (kr_ HO_401001) (Kd.R_base ho0) hb); have n4_ := am_ (Kd.R_elder' (kr_ HO425) (Kd.R_base ho0) hb); have n5_ := am_ (Kd.R_lower (Kd.R_new' (Kd.R_new' (Kd.R_new' (Kd.R_new' (Kd.R_new' ho0 (Kd.R_lt (kr_ HO_382001))) (Kd.R_lt (kr_ HO_388001))) (Kd.R_lt (kr_ HO_394001))) (Kd.R_lt (kr_ HO_401001))) (Kd.R_lt (kr_ HO425))) (below_size (bl_ HB))); have n6_ := am_ (blk_below (bk_ BK361) hb); have n7_ := am_ (blk_below (bk_ BK362) hb); have n8_ := am_ (blk_below (bk_ BK381) hb); have n9_ := am_ (blk_below (bk_ BK387) hb); have n10_ := am_ (blk_below (bk_ BK393) hb); have n11_ := am_ (blk_below (bk_ BK400) hb); have n12_ := am_ (below_step (bl_ HB) hb); clear HO_382001 HO_388001 HO_394001 HO_401001 HO425 BK361 BK362 BK381 BK387 BK393 BK400 HB; have HO_382001 := n0_; have HO_388001 := n1_; have HO_394001 := n2_; have HO_401001 := n3_; have HO425 := n4_; have HO430 := n5_; have BK361 := n6_; have BK362 := n7_; have BK381 := n8_; have BK387 := n9_; have BK393 := n10_; have BK400 := n11_; have HB := n12_; clear n0_ n1_ n2_ n3_ n4_ n5_ n6_ n7_ n8_ n9_ n10_ n11_ n12_; (try clear hb); (try clear hb2); (try clear hk); (try clear hi); (try clear ho0)
                obtain ⟨Ao188, co188, eo188⟩ := Kd.R_slice HO425.out
                (first | subst eo188 | (injection eo188 with f1_ f2_ f3_; have f4_ := f1_.symm; have f5_ := f3_.symm; clear f1_ f2_ f3_; subst f4_; subst f5_))
                obtain ⟨Ao189, co189, eo189⟩ := Kd.R_slice HO430.out
                (first | subst eo189 | (injection eo189 with f1_ f2_ f3_; have f4_ := f1_.symm; have f5_ := f3_.symm; clear f1_ f2_ f3_; subst f4_; subst f5_))
                refine hK.out _ _ ⟨bc_ BK361 0, bc_ BK361 1, bc_ BK361 2, bc_ BK362 0, bc_ BK362 1, bc_ BK362 2⟩ (fun hHeld => ?_)
                clear hK K
                refine norm_ (a' := ?_) ?_ ?_
                rotate_left
                ·show Act.put _ (some 98) _ = _
                 exact nm_
                refine two_ (i := 4) (j := 8) (Ni := some 99) (Nj := some 15) #[true, true, true, true, true, false, false, false, false, false, false] #[true, true, true, true, false, false, false, false, true, false, false] rfl rfl rfl rfl (two_of HT_.out (by kernel_rfl)) (by decide) (by decide) (fun K hK => ?_) (fun K hK => ?_)
                ·skip
                 refine goes_ Tryd.func35 (by kernel_rfl) rfl #[.agg #[.int .i64 t422, .slice Ao188 t423.length co188, .int .i64 t426], .agg #[.int .i64 t427, .slice Ao189 t428.length co189, .int .i64 t431]] (by rfl) rfl rfl ma_ ?_
                 with_reducible refine (impl_SubtractDyadics.calls t422 _ _ t423 t426 t427 _ _ t428 t431 t432 t433 t436 t437 _ ?side1 ?side2 ?side3 ?side4 ?sideT A174.out).mono ?_
                 (case sideT => exact Go.Proofs.YthddlechoibdkaaDoor.Big.Tab.below HTab.out (bl_ HB))
                 (case side1 => exact cr_ HO425)
                 (case side2 => exact (Kd.R_reads' HO425.out).2.1)
                 (case side3 => exact cr_ HO430)
                 (case side4 => exact (Kd.R_reads' HO430.out).2.1)
                 rintro e w190 ⟨v434, rfl, ho0, hb⟩
                 refine ⟨_, rfl, ?_⟩
                 have n0_ := am_ (Kd.R_elder' (kr_ HO_382001) (Kd.R_base ho0) hb); have n1_ := am_ (Kd.R_elder' (kr_ HO_388001) (Kd.R_base ho0) hb); have n2_ := am_ (Kd.R_elder' (kr_ HO_394001) (Kd.R_base ho0) hb); have n3_ := am_ (Kd.R_elder' (kr_ HO_401001) (Kd.R_base ho0) hb); have n4_ := am_ (Kd.R_elder' (kr_ HO425) (Kd.R_base ho0) hb); have n5_ := am_ (Kd.R_elder' (kr_ HO430) (Kd.R_base ho0) hb); have n6_ := am_ (Kd.R_lower (Kd.R_new' (Kd.R_new' (Kd.R_new' (Kd.R_new' (Kd.R_new' (Kd.R_new' ho0 (Kd.R_lt (kr_ HO_382001))) (Kd.R_lt (kr_ HO_388001))) (Kd.R_lt (kr_ HO_394001))) (Kd.R_lt (kr_ HO_401001))) (Kd.R_lt (kr_ HO425))) (Kd.R_lt (kr_ HO430))) (below_size (bl_ HB))); have n7_ := am_ (blk_below (bk_ BK361) hb); have n8_ := am_ (blk_below (bk_ BK362) hb); have n9_ := am_ (blk_below (bk_ BK381) hb); have n10_ := am_ (blk_below (bk_ BK387) hb); have n11_ := am_ (blk_below (bk_ BK393) hb); have n12_ := am_ (blk_below (bk_ BK400) hb); have n13_ := am_ (below_step (bl_ HB) hb); clear HO_382001 HO_388001 HO_394001 HO_401001 HO425 HO430 BK361 BK362 BK381 BK387 BK393 BK400 HB; have HO_382001 := n0_; have HO_388001 := n1_; have HO_394001 := n2_; have HO_401001 := n3_; have HO425 := n4_; have HO430 := n5_; have HO435 := n6_; have BK361 := n7_; have BK362 := n8_; have BK381 := n9_; have BK387 := n10_; have BK393 := n11_; have BK400 := n12_; have HB := n13_; clear n0_ n1_ n2_ n3_ n4_ n5_ n6_ n7_ n8_ n9_ n10_ n11_ n12_ n13_; (try clear hb); (try clear hb2); (try clear hk); (try clear hi); (try clear ho0)
                 refine hK.out _ _ ⟨bc_ BK361 0, bc_ BK361 1, bc_ BK361 2, bc_ BK362 0, bc_ BK362 1, bc_ BK362 2⟩ (fun hHeld => ?_)
                 clear hK K
                 refine norm_ (a' := ?_) ?_ ?_
                 rotate_left
                 ·show Act.put _ (some 99) _ = _
                  exact nm_
                 refine pure_ (i := 5) (N := some 94) (v := ?_) (a' := ?_) #[true, true, true, true, true, true, false, false, false, false, false] rfl rfl (any_of HT_.out (by kernel_rfl)) (fun _ _ _ h => h) (Or.inl ⟨by rfl, ?_⟩) ?_ ?_
                 rotate_left
                 ·intro w'
                  go_simp
                  with_reducible rfl
                 rotate_left
                 ·exact nm_
                 refine pure_ (i := 6) (N := some 100) (v := ?_) (a' := ?_) #[true, true, true, true, true, true, true, false, false, false, false] rfl rfl (any_of HT_.out (by kernel_rfl)) (fun _ _ _ h => h) (Or.inl ⟨by rfl, ?_⟩) ?_ ?_
                 rotate_left
                 ·intro w'
                  go_simp
                  with_reducible rfl
                 rotate_left
                 ·exact nm_
                 refine pure_ (i := 7) (N := some 101) (v := ?_) (a' := ?_) #[true, true, true, true, true, true, true, true, false, false, false] rfl rfl (any_of HT_.out (by kernel_rfl)) (fun _ _ _ h => h) (Or.inl ⟨by rfl, ?_⟩) ?_ ?_
                 rotate_left
                 ·intro w'
                  go_simp
                  with_reducible rfl
                 rotate_left
                 ·exact nm_
                 refine one_ (i := 8) (N := some 15) #[true, true, true, true, true, true, true, true, true, false, false] rfl rfl (one_of HT_.out (by kernel_rfl)) (by decide) (fun K hK => ?_)
                 refine box_step ?hg (N := 15) ?hd (cs := #[.int .i64 0, .slice none 0 0, .int .i64 0]) (t := 30) ?hr ?_; (case hd => rfl); (case hg => rfl); (case hr => first | (go_simp; done) | (go_simp; rfl))
                 intro gb438 hg w191 hbox hb
                 have n0_ := am_ (Kd.R_below (kr_ HO_382001) hb); have n1_ := am_ (Kd.R_below (kr_ HO_388001) hb); have n2_ := am_ (Kd.R_below (kr_ HO_394001) hb); have n3_ := am_ (Kd.R_below (kr_ HO_401001) hb); have n4_ := am_ (Kd.R_below (kr_ HO425) hb); have n5_ := am_ (Kd.R_below (kr_ HO430) hb); have n6_ := am_ (Kd.R_below (kr_ HO435) hb); have n7_ := am_ (blk_below (bk_ BK361) hb); have n8_ := am_ (blk_below (bk_ BK362) hb); have n9_ := am_ (blk_below (bk_ BK381) hb); have n10_ := am_ (blk_below (bk_ BK387) hb); have n11_ := am_ (blk_below (bk_ BK393) hb); have n12_ := am_ (blk_below (bk_ BK400) hb); have n13_ := am_ (below_step (bl_ HB) hb); have n14_ := am_ (hbox); have n15_ := am_ (gs_ hg HB); have n16_ := am_ (gs_ hg HB); have n17_ := am_ (nl_ hg BK361); have n18_ := am_ (ng_ hg BK361); have n19_ := am_ (nl_ hg BK362); have n20_ := am_ (ng_ hg BK362); have n21_ := am_ (nl_ hg BK381); have n22_ := am_ (ng_ hg BK381); have n23_ := am_ (nl_ hg BK387); have n24_ := am_ (ng_ hg BK387); have n25_ := am_ (nl_ hg BK393); have n26_ := am_ (ng_ hg BK393); have n27_ := am_ (nl_ hg BK400); have n28_ := am_ (ng_ hg BK400); clear HO_382001 HO_388001 HO_394001 HO_401001 HO425 HO430 HO435 BK361 BK362 BK381 BK387 BK393 BK400 HB; have HO_382001 := n0_; have HO_388001 := n1_; have HO_394001 := n2_; have HO_401001 := n3_; have HO425 := n4_; have HO430 := n5_; have HO435 := n6_; have BK361 := n7_; have BK362 := n8_; have BK381 := n9_; have BK387 := n10_; have BK393 := n11_; have BK400 := n12_; have HB := n13_; have BK438 := n14_; have GW438 := n15_; have GE438 := n16_; have NB361_438 := n17_; have NB438_361 := n18_; have NB362_438 := n19_; have NB438_362 := n20_; have NB381_438 := n21_; have NB438_381 := n22_; have NB387_438 := n23_; have NB438_387 := n24_; have NB393_438 := n25_; have NB438_393 := n26_; have NB400_438 := n27_; have NB438_400 := n28_; clear n0_ n1_ n2_ n3_ n4_ n5_ n6_ n7_ n8_ n9_ n10_ n11_ n12_ n13_ n14_ n15_ n16_ n17_ n18_ n19_ n20_ n21_ n22_ n23_ n24_ n25_ n26_ n27_ n28_ hb hbox hg
                 refine hK.out _ _ ⟨bc_ BK361 0, bc_ BK361 1, bc_ BK361 2, bc_ BK362 0, bc_ BK362 1, bc_ BK362 2⟩ (fun hHeld => ?_)
                 clear hK K
                 refine norm_ (a' := ?_) ?_ ?_
                 rotate_left
                 ·show Act.put _ (some 15) _ = _
                  exact nm_
                 exact norm_ (by simp only [putAll, Act.put, List.setIfInBounds_toArray, List.set_cons_zero, List.set_cons_succ]) (hCont (.slice Ao188 t423.length co188, .slice Ao189 t428.length co189, v434, gb438) _ ⟨hHeld, (km_ HO425 (fun _ hk => ⟨hk.1.2, ⟨hk.2, ⟨hk.1.1.1.1.1.2, ⟨hk.1.1.1.1.2, ⟨hk.1.1.1.2, hk.1.1.2⟩⟩⟩⟩⟩)), (km_ HO430 (fun _ hk => ⟨hk.1.2, ⟨hk.2, ⟨hk.1.1.1.1.1.2, ⟨hk.1.1.1.1.2, ⟨hk.1.1.1.2, hk.1.1.2⟩⟩⟩⟩⟩)), (km_ HO435 (fun _ hk => ⟨hk.1.2, ⟨hk.2, ⟨hk.1.1.1.1.1.2, ⟨hk.1.1.1.1.2, ⟨hk.1.1.1.2, hk.1.1.2⟩⟩⟩⟩⟩)), (km_ HO_382001 (fun _ hk => ⟨hk.1.1.2, ⟨hk.1.2, ⟨hk.2, ⟨hk.1.1.1.1, ⟨hk.1.1.1.2.1, hk.1.1.1.2.2⟩⟩⟩⟩⟩)), (km_ HO_388001 (fun _ hk => ⟨hk.1.1.2, ⟨hk.1.2, ⟨hk.2, ⟨hk.1.1.1.1, ⟨hk.1.1.1.2.1, hk.1.1.1.2.2⟩⟩⟩⟩⟩)), (km_ HO_394001 (fun _ hk => ⟨hk.1.1.2, ⟨hk.1.2, ⟨hk.2, ⟨hk.1.1.1.1, ⟨hk.1.1.1.2.1, hk.1.1.1.2.2⟩⟩⟩⟩⟩)), (km_ HO_401001 (fun _ hk => ⟨hk.1.1.2, ⟨hk.1.2, ⟨hk.2, ⟨hk.1.1.1.1, ⟨hk.1.1.1.2.1, hk.1.1.1.2.2⟩⟩⟩⟩⟩)), (bk_ BK361), (bk_ BK362), (bk_ BK381), (bk_ BK387), (bk_ BK393), (bk_ BK400), (bk_ BK438), GW438.out, GE438.out, NB361_438.out, NB438_361.out, NB362_438.out, NB438_362.out, NB381_438.out, NB438_381.out, NB387_438.out, NB438_387.out, NB393_438.out, NB438_393.out, NB400_438.out, NB438_400.out, (bl_ HB)⟩)
                ·skip
                 refine box_step ?hg (N := 15) ?hd (cs := #[.int .i64 0, .slice none 0 0, .int .i64 0]) (t := 30) ?hr ?_; (case hd => rfl); (case hg => rfl); (case hr => first | (go_simp; done) | (go_simp; rfl))
                 intro gb438 hg w188 hbox hb
                 have n0_ := am_ (Kd.R_below (kr_ HO_382001) hb); have n1_ := am_ (Kd.R_below (kr_ HO_388001) hb); have n2_ := am_ (Kd.R_below (kr_ HO_394001) hb); have n3_ := am_ (Kd.R_below (kr_ HO_401001) hb); have n4_ := am_ (Kd.R_below (kr_ HO425) hb); have n5_ := am_ (Kd.R_below (kr_ HO430) hb); have n6_ := am_ (blk_below (bk_ BK361) hb); have n7_ := am_ (blk_below (bk_ BK362) hb); have n8_ := am_ (blk_below (bk_ BK381) hb); have n9_ := am_ (blk_below (bk_ BK387) hb); have n10_ := am_ (blk_below (bk_ BK393) hb); have n11_ := am_ (blk_below (bk_ BK400) hb); have n12_ := am_ (below_step (bl_ HB) hb); have n13_ := am_ (hbox); have n14_ := am_ (gs_ hg HB); have n15_ := am_ (gs_ hg HB); have n16_ := am_ (nl_ hg BK361); have n17_ := am_ (ng_ hg BK361); have n18_ := am_ (nl_ hg BK362); have n19_ := am_ (ng_ hg BK362); have n20_ := am_ (nl_ hg BK381); have n21_ := am_ (ng_ hg BK381); have n22_ := am_ (nl_ hg BK387); have n23_ := am_ (ng_ hg BK387); have n24_ := am_ (nl_ hg BK393); have n25_ := am_ (ng_ hg BK393); have n26_ := am_ (nl_ hg BK400); have n27_ := am_ (ng_ hg BK400); clear HO_382001 HO_388001 HO_394001 HO_401001 HO425 HO430 BK361 BK362 BK381 BK387 BK393 BK400 HB; have HO_382001 := n0_; have HO_388001 := n1_; have HO_394001 := n2_; have HO_401001 := n3_; have HO425 := n4_; have HO430 := n5_; have BK361 := n6_; have BK362 := n7_; have BK381 := n8_; have BK387 := n9_; have BK393 := n10_; have BK400 := n11_; have HB := n12_; have BK438 := n13_; have GW438 := n14_; have GE438 := n15_; have NB361_438 := n16_; have NB438_361 := n17_; have NB362_438 := n18_; have NB438_362 := n19_; have NB381_438 := n20_; have NB438_381 := n21_; have NB387_438 := n22_; have NB438_387 := n23_; have NB393_438 := n24_; have NB438_393 := n25_; have NB400_438 := n26_; have NB438_400 := n27_; clear n0_ n1_ n2_ n3_ n4_ n5_ n6_ n7_ n8_ n9_ n10_ n11_ n12_ n13_ n14_ n15_ n16_ n17_ n18_ n19_ n20_ n21_ n22_ n23_ n24_ n25_ n26_ n27_ hb hbox hg
                 obtain ⟨Ao189, co189, eo189⟩ := Kd.R_slice HO425.out
                 (first | subst eo189 | (injection eo189 with f1_ f2_ f3_; have f4_ := f1_.symm; have f5_ := f3_.symm; clear f1_ f2_ f3_; subst f4_; subst f5_))
                 obtain ⟨Ao190, co190, eo190⟩ := Kd.R_slice HO430.out
                 (first | subst eo190 | (injection eo190 with f1_ f2_ f3_; have f4_ := f1_.symm; have f5_ := f3_.symm; clear f1_ f2_ f3_; subst f4_; subst f5_))
                 refine hK.out _ _ ⟨bc_ BK361 0, bc_ BK361 1, bc_ BK361 2, bc_ BK362 0, bc_ BK362 1, bc_ BK362 2⟩ (fun hHeld => ?_)
                 clear hK K
                 refine norm_ (a' := ?_) ?_ ?_
                 rotate_left
                 ·show Act.put _ (some 15) _ = _
                  exact nm_
                 refine one_ (i := 4) (N := some 99) #[true, true, true, true, true, false, false, false, true, false, false] rfl rfl (one_of HT_.out (by kernel_rfl)) (by decide) (fun K hK => ?_)
                 refine goes_ Tryd.func35 (by kernel_rfl) rfl #[.agg #[.int .i64 t422, .slice Ao189 t423.length co189, .int .i64 t426], .agg #[.int .i64 t427, .slice Ao190 t428.length co190, .int .i64 t431]] (by rfl) rfl rfl ma_ ?_
                 with_reducible refine (impl_SubtractDyadics.calls t422 _ _ t423 t426 t427 _ _ t428 t431 t432 t433 t436 t437 _ ?side1 ?side2 ?side3 ?side4 ?sideT A174.out).mono ?_
                 (case sideT => exact Go.Proofs.YthddlechoibdkaaDoor.Big.Tab.below HTab.out (bl_ HB))
                 (case side1 => exact cr_ HO425)
                 (case side2 => exact (Kd.R_reads' HO425.out).2.1)
                 (case side3 => exact cr_ HO430)
                 (case side4 => exact (Kd.R_reads' HO430.out).2.1)
                 rintro e w191 ⟨v434, rfl, ho0, hb⟩
                 refine ⟨_, rfl, ?_⟩
                 have n0_ := am_ (Kd.R_elder' (kr_ HO_382001) (Kd.R_base ho0) hb); have n1_ := am_ (Kd.R_elder' (kr_ HO_388001) (Kd.R_base ho0) hb); have n2_ := am_ (Kd.R_elder' (kr_ HO_394001) (Kd.R_base ho0) hb); have n3_ := am_ (Kd.R_elder' (kr_ HO_401001) (Kd.R_base ho0) hb); have n4_ := am_ (Kd.R_elder' (kr_ HO425) (Kd.R_base ho0) hb); have n5_ := am_ (Kd.R_elder' (kr_ HO430) (Kd.R_base ho0) hb); have n6_ := am_ (Kd.R_lower (Kd.R_new' (Kd.R_new' (Kd.R_new' (Kd.R_new' (Kd.R_new' (Kd.R_new' ho0 (Kd.R_lt (kr_ HO_382001))) (Kd.R_lt (kr_ HO_388001))) (Kd.R_lt (kr_ HO_394001))) (Kd.R_lt (kr_ HO_401001))) (Kd.R_lt (kr_ HO425))) (Kd.R_lt (kr_ HO430))) (below_size (bl_ HB))); have n7_ := am_ (blk_below (bk_ BK361) hb); have n8_ := am_ (blk_below (bk_ BK362) hb); have n9_ := am_ (blk_below (bk_ BK381) hb); have n10_ := am_ (blk_below (bk_ BK387) hb); have n11_ := am_ (blk_below (bk_ BK393) hb); have n12_ := am_ (blk_below (bk_ BK400) hb); have n13_ := am_ (blk_below (bk_ BK438) hb); have n14_ := am_ (below_step (bl_ HB) hb); clear HO_382001 HO_388001 HO_394001 HO_401001 HO425 HO430 BK361 BK362 BK381 BK387 BK393 BK400 BK438 HB; have HO_382001 := n0_; have HO_388001 := n1_; have HO_394001 := n2_; have HO_401001 := n3_; have HO425 := n4_; have HO430 := n5_; have HO435 := n6_; have BK361 := n7_; have BK362 := n8_; have BK381 := n9_; have BK387 := n10_; have BK393 := n11_; have BK400 := n12_; have BK438 := n13_; have HB := n14_; clear n0_ n1_ n2_ n3_ n4_ n5_ n6_ n7_ n8_ n9_ n10_ n11_ n12_ n13_ n14_; (try clear hb); (try clear hb2); (try clear hk); (try clear hi); (try clear ho0)
                 refine hK.out _ _ ⟨bc_ BK361 0, bc_ BK361 1, bc_ BK361 2, bc_ BK362 0, bc_ BK362 1, bc_ BK362 2⟩ (fun hHeld => ?_)
                 clear hK K
                 refine norm_ (a' := ?_) ?_ ?_
                 rotate_left
                 ·show Act.put _ (some 99) _ = _
                  exact nm_
                 refine pure_ (i := 5) (N := some 94) (v := ?_) (a' := ?_) #[true, true, true, true, true, true, false, false, true, false, false] rfl rfl (any_of HT_.out (by kernel_rfl)) (fun _ _ _ h => h) (Or.inl ⟨by rfl, ?_⟩) ?_ ?_
                 rotate_left
                 ·intro w'
                  go_simp
                  with_reducible rfl
                 rotate_left
                 ·exact nm_
                 refine pure_ (i := 6) (N := some 100) (v := ?_) (a' := ?_) #[true, true, true, true, true, true, true, false, true, false, false] rfl rfl (any_of HT_.out (by kernel_rfl)) (fun _ _ _ h => h) (Or.inl ⟨by rfl, ?_⟩) ?_ ?_
                 rotate_left
                 ·intro w'
                  go_simp
                  with_reducible rfl
                 rotate_left
                 ·exact nm_
                 refine pure_ (i := 7) (N := some 101) (v := ?_) (a' := ?_) #[true, true, true, true, true, true, true, true, true, false, false] rfl rfl (any_of HT_.out (by kernel_rfl)) (fun _ _ _ h => h) (Or.inl ⟨by rfl, ?_⟩) ?_ ?_
                 rotate_left
                 ·intro w'
                  go_simp
                  with_reducible rfl
                 rotate_left
                 ·exact nm_
                 exact norm_ (by simp only [putAll, Act.put, List.setIfInBounds_toArray, List.set_cons_zero, List.set_cons_succ]) (hCont (.slice Ao189 t423.length co189, .slice Ao190 t428.length co190, v434, gb438) _ ⟨hHeld, (km_ HO425 (fun _ hk => ⟨hk.1.2, ⟨hk.2, ⟨hk.1.1.1.1.1.2, ⟨hk.1.1.1.1.2, ⟨hk.1.1.1.2, hk.1.1.2⟩⟩⟩⟩⟩)), (km_ HO430 (fun _ hk => ⟨hk.1.2, ⟨hk.2, ⟨hk.1.1.1.1.1.2, ⟨hk.1.1.1.1.2, ⟨hk.1.1.1.2, hk.1.1.2⟩⟩⟩⟩⟩)), (km_ HO435 (fun _ hk => ⟨hk.1.2, ⟨hk.2, ⟨hk.1.1.1.1.1.2, ⟨hk.1.1.1.1.2, ⟨hk.1.1.1.2, hk.1.1.2⟩⟩⟩⟩⟩)), (km_ HO_382001 (fun _ hk => ⟨hk.1.1.2, ⟨hk.1.2, ⟨hk.2, ⟨hk.1.1.1.1, ⟨hk.1.1.1.2.1, hk.1.1.1.2.2⟩⟩⟩⟩⟩)), (km_ HO_388001 (fun _ hk => ⟨hk.1.1.2, ⟨hk.1.2, ⟨hk.2, ⟨hk.1.1.1.1, ⟨hk.1.1.1.2.1, hk.1.1.1.2.2⟩⟩⟩⟩⟩)), (km_ HO_394001 (fun _ hk => ⟨hk.1.1.2, ⟨hk.1.2, ⟨hk.2, ⟨hk.1.1.1.1, ⟨hk.1.1.1.2.1, hk.1.1.1.2.2⟩⟩⟩⟩⟩)), (km_ HO_401001 (fun _ hk => ⟨hk.1.1.2, ⟨hk.1.2, ⟨hk.2, ⟨hk.1.1.1.1, ⟨hk.1.1.1.2.1, hk.1.1.1.2.2⟩⟩⟩⟩⟩)), (bk_ BK361), (bk_ BK362), (bk_ BK381), (bk_ BK387), (bk_ BK393), (bk_ BK400), (bk_ BK438), GW438.out, GE438.out, NB361_438.out, NB438_361.out, NB362_438.out, NB438_362.out, NB381_438.out, NB438_381.out, NB387_438.out, NB438_387.out, NB393_438.out, NB438_393.out, NB400_438.out, NB438_400.out, (bl_ HB)⟩)
               ·skip
                refine box_step ?hg (N := 15) ?hd (cs := #[.int .i64 0, .slice none 0 0, .int .i64 0]) (t := 30) ?hr ?_; (case hd => rfl); (case hg => rfl); (case hr => first | (go_simp; done) | (go_simp; rfl))
                intro gb438 hg w187 hbox hb
                have n0_ := am_ (Kd.R_below (kr_ HO_382001) hb); have n1_ := am_ (Kd.R_below (kr_ HO_388001) hb); have n2_ := am_ (Kd.R_below (kr_ HO_394001) hb); have n3_ := am_ (Kd.R_below (kr_ HO_401001) hb); have n4_ := am_ (Kd.R_below (kr_ HO425) hb); have n5_ := am_ (blk_below (bk_ BK361) hb); have n6_ := am_ (blk_below (bk_ BK362) hb); have n7_ := am_ (blk_below (bk_ BK381) hb); have n8_ := am_ (blk_below (bk_ BK387) hb); have n9_ := am_ (blk_below (bk_ BK393) hb); have n10_ := am_ (blk_below (bk_ BK400) hb); have n11_ := am_ (below_step (bl_ HB) hb); have n12_ := am_ (hbox); have n13_ := am_ (gs_ hg HB); have n14_ := am_ (gs_ hg HB); have n15_ := am_ (nl_ hg BK361); have n16_ := am_ (ng_ hg BK361); have n17_ := am_ (nl_ hg BK362); have n18_ := am_ (ng_ hg BK362); have n19_ := am_ (nl_ hg BK381); have n20_ := am_ (ng_ hg BK381); have n21_ := am_ (nl_ hg BK387); have n22_ := am_ (ng_ hg BK387); have n23_ := am_ (nl_ hg BK393); have n24_ := am_ (ng_ hg BK393); have n25_ := am_ (nl_ hg BK400); have n26_ := am_ (ng_ hg BK400); clear HO_382001 HO_388001 HO_394001 HO_401001 HO425 BK361 BK362 BK381 BK387 BK393 BK400 HB; have HO_382001 := n0_; have HO_388001 := n1_; have HO_394001 := n2_; have HO_401001 := n3_; have HO425 := n4_; have BK361 := n5_; have BK362 := n6_; have BK381 := n7_; have BK387 := n8_; have BK393 := n9_; have BK400 := n10_; have HB := n11_; have BK438 := n12_; have GW438 := n13_; have GE438 := n14_; have NB361_438 := n15_; have NB438_361 := n16_; have NB362_438 := n17_; have NB438_362 := n18_; have NB381_438 := n19_; have NB438_381 := n20_; have NB387_438 := n21_; have NB438_387 := n22_; have NB393_438 := n23_; have NB438_393 := n24_; have NB400_438 := n25_; have NB438_400 := n26_; clear n0_ n1_ n2_ n3_ n4_ n5_ n6_ n7_ n8_ n9_ n10_ n11_ n12_ n13_ n14_ n15_ n16_ n17_ n18_ n19_ n20_ n21_ n22_ n23_ n24_ n25_ n26_ hb hbox hg
                refine hK.out _ _ ⟨bc_ BK361 0, bc_ BK361 1, bc_ BK361 2, bc_ BK362 0, bc_ BK362 1, bc_ BK362 2⟩ (fun hHeld => ?_)
                clear hK K
                refine norm_ (a' := ?_) ?_ ?_
                rotate_left
                ·show Act.put _ (some 15) _ = _
                 exact nm_
                refine one_ (i := 3) (N := some 98) #[true, true, true, true, false, false, false, false, true, false, false] rfl rfl (one_of HT_.out (by kernel_rfl)) (by decide) (fun K hK => ?_)
                refine goes_ Tryd.func13 (by kernel_rfl) rfl #[.agg #[.int .i64 a1_0, .slice A1_1 l1_1.length c1_1, .int .i64 a1_2]] (by rfl) rfl rfl ma_ ?_
                with_reducible refine (laws_toDyadic.calls kj108 a1_0 _ _ l1_1 a1_2 t427 t428 t431 _ ?side1 ?side2 A173.out).mono ?_
                (case side1 => exact cb_ HR1_1 HB)
                (case side2 => exact HC1_1.out)
                rintro e w188 ⟨v429, rfl, ho0, hb⟩
                refine ⟨_, rfl, ?_⟩
                have n0_ := am_ (Kd.R_elder' (kr_ HO_382001) (Kd.R_base ho0) hb); have n1_ := am_ (Kd.R_elder' (kr_ HO_388001) (Kd.R_base ho0) hb); have n2_ := am_ (Kd.R_elder' (kr_ HO_394001) (Kd.R_base ho0) hb); have n3_ := am_ (Kd.R_elder' (kr_ HO_401001) (Kd.R_base ho0) hb); have n4_ := am_ (Kd.R_elder' (kr_ HO425) (Kd.R_base ho0) hb); have n5_ := am_ (Kd.R_lower (Kd.R_new' (Kd.R_new' (Kd.R_new' (Kd.R_new' (Kd.R_new' ho0 (Kd.R_lt (kr_ HO_382001))) (Kd.R_lt (kr_ HO_388001))) (Kd.R_lt (kr_ HO_394001))) (Kd.R_lt (kr_ HO_401001))) (Kd.R_lt (kr_ HO425))) (below_size (bl_ HB))); have n6_ := am_ (blk_below (bk_ BK361) hb); have n7_ := am_ (blk_below (bk_ BK362) hb); have n8_ := am_ (blk_below (bk_ BK381) hb); have n9_ := am_ (blk_below (bk_ BK387) hb); have n10_ := am_ (blk_below (bk_ BK393) hb); have n11_ := am_ (blk_below (bk_ BK400) hb); have n12_ := am_ (blk_below (bk_ BK438) hb); have n13_ := am_ (below_step (bl_ HB) hb); clear HO_382001 HO_388001 HO_394001 HO_401001 HO425 BK361 BK362 BK381 BK387 BK393 BK400 BK438 HB; have HO_382001 := n0_; have HO_388001 := n1_; have HO_394001 := n2_; have HO_401001 := n3_; have HO425 := n4_; have HO430 := n5_; have BK361 := n6_; have BK362 := n7_; have BK381 := n8_; have BK387 := n9_; have BK393 := n10_; have BK400 := n11_; have BK438 := n12_; have HB := n13_; clear n0_ n1_ n2_ n3_ n4_ n5_ n6_ n7_ n8_ n9_ n10_ n11_ n12_ n13_; (try clear hb); (try clear hb2); (try clear hk); (try clear hi); (try clear ho0)
                obtain ⟨Ao189, co189, eo189⟩ := Kd.R_slice HO425.out
                (first | subst eo189 | (injection eo189 with f1_ f2_ f3_; have f4_ := f1_.symm; have f5_ := f3_.symm; clear f1_ f2_ f3_; subst f4_; subst f5_))
                obtain ⟨Ao190, co190, eo190⟩ := Kd.R_slice HO430.out
                (first | subst eo190 | (injection eo190 with f1_ f2_ f3_; have f4_ := f1_.symm; have f5_ := f3_.symm; clear f1_ f2_ f3_; subst f4_; subst f5_))
                refine hK.out _ _ ⟨bc_ BK361 0, bc_ BK361 1, bc_ BK361 2, bc_ BK362 0, bc_ BK362 1, bc_ BK362 2⟩ (fun hHeld => ?_)
                clear hK K
                refine norm_ (a' := ?_) ?_ ?_
                rotate_left
                ·show Act.put _ (some 98) _ = _
                 exact nm_
                refine one_ (i := 4) (N := some 99) #[true, true, true, true, true, false, false, false, true, false, false] rfl rfl (one_of HT_.out (by kernel_rfl)) (by decide) (fun K hK => ?_)
                refine goes_ Tryd.func35 (by kernel_rfl) rfl #[.agg #[.int .i64 t422, .slice Ao189 t423.length co189, .int .i64 t426], .agg #[.int .i64 t427, .slice Ao190 t428.length co190, .int .i64 t431]] (by rfl) rfl rfl ma_ ?_
                with_reducible refine (impl_SubtractDyadics.calls t422 _ _ t423 t426 t427 _ _ t428 t431 t432 t433 t436 t437 _ ?side1 ?side2 ?side3 ?side4 ?sideT A174.out).mono ?_
                (case sideT => exact Go.Proofs.YthddlechoibdkaaDoor.Big.Tab.below HTab.out (bl_ HB))
                (case side1 => exact cr_ HO425)
                (case side2 => exact (Kd.R_reads' HO425.out).2.1)
                (case side3 => exact cr_ HO430)
                (case side4 => exact (Kd.R_reads' HO430.out).2.1)
                rintro e w191 ⟨v434, rfl, ho0, hb⟩
                refine ⟨_, rfl, ?_⟩
                have n0_ := am_ (Kd.R_elder' (kr_ HO_382001) (Kd.R_base ho0) hb); have n1_ := am_ (Kd.R_elder' (kr_ HO_388001) (Kd.R_base ho0) hb); have n2_ := am_ (Kd.R_elder' (kr_ HO_394001) (Kd.R_base ho0) hb); have n3_ := am_ (Kd.R_elder' (kr_ HO_401001) (Kd.R_base ho0) hb); have n4_ := am_ (Kd.R_elder' (kr_ HO425) (Kd.R_base ho0) hb); have n5_ := am_ (Kd.R_elder' (kr_ HO430) (Kd.R_base ho0) hb); have n6_ := am_ (Kd.R_lower (Kd.R_new' (Kd.R_new' (Kd.R_new' (Kd.R_new' (Kd.R_new' (Kd.R_new' ho0 (Kd.R_lt (kr_ HO_382001))) (Kd.R_lt (kr_ HO_388001))) (Kd.R_lt (kr_ HO_394001))) (Kd.R_lt (kr_ HO_401001))) (Kd.R_lt (kr_ HO425))) (Kd.R_lt (kr_ HO430))) (below_size (bl_ HB))); have n7_ := am_ (blk_below (bk_ BK361) hb); have n8_ := am_ (blk_below (bk_ BK362) hb); have n9_ := am_ (blk_below (bk_ BK381) hb); have n10_ := am_ (blk_below (bk_ BK387) hb); have n11_ := am_ (blk_below (bk_ BK393) hb); have n12_ := am_ (blk_below (bk_ BK400) hb); have n13_ := am_ (blk_below (bk_ BK438) hb); have n14_ := am_ (below_step (bl_ HB) hb); clear HO_382001 HO_388001 HO_394001 HO_401001 HO425 HO430 BK361 BK362 BK381 BK387 BK393 BK400 BK438 HB; have HO_382001 := n0_; have HO_388001 := n1_; have HO_394001 := n2_; have HO_401001 := n3_; have HO425 := n4_; have HO430 := n5_; have HO435 := n6_; have BK361 := n7_; have BK362 := n8_; have BK381 := n9_; have BK387 := n10_; have BK393 := n11_; have BK400 := n12_; have BK438 := n13_; have HB := n14_; clear n0_ n1_ n2_ n3_ n4_ n5_ n6_ n7_ n8_ n9_ n10_ n11_ n12_ n13_ n14_; (try clear hb); (try clear hb2); (try clear hk); (try clear hi); (try clear ho0)
                refine hK.out _ _ ⟨bc_ BK361 0, bc_ BK361 1, bc_ BK361 2, bc_ BK362 0, bc_ BK362 1, bc_ BK362 2⟩ (fun hHeld => ?_)
                clear hK K
                refine norm_ (a' := ?_) ?_ ?_
                rotate_left
                ·show Act.put _ (some 99) _ = _
                 exact nm_
                refine pure_ (i := 5) (N := some 94) (v := ?_) (a' := ?_) #[true, true, true, true, true, true, false, false, true, false, false] rfl rfl (any_of HT_.out (by kernel_rfl)) (fun _ _ _ h => h) (Or.inl ⟨by rfl, ?_⟩) ?_ ?_
                rotate_left
                ·intro w'
                 go_simp
                 with_reducible rfl
                rotate_left
                ·exact nm_
                refine pure_ (i := 6) (N := some 100) (v := ?_) (a' := ?_) #[true, true, true, true, true, true, true, false, true, false, false] rfl rfl (any_of HT_.out (by kernel_rfl)) (fun _ _ _ h => h) (Or.inl ⟨by rfl, ?_⟩) ?_ ?_
                rotate_left
                ·intro w'
                 go_simp
                 with_reducible rfl
                rotate_left
                ·exact nm_
                refine pure_ (i := 7) (N := some 101) (v := ?_) (a' := ?_) #[true, true, true, true, true, true, true, true, true, false, false] rfl rfl (any_of HT_.out (by kernel_rfl)) (fun _ _ _ h => h) (Or.inl ⟨by rfl, ?_⟩) ?_ ?_
                rotate_left
                ·intro w'
                 go_simp
                 with_reducible rfl
                rotate_left
                ·exact nm_
                exact norm_ (by simp only [putAll, Act.put, List.setIfInBounds_toArray, List.set_cons_zero, List.set_cons_succ]) (hCont (.slice Ao189 t423.length co189, .slice Ao190 t428.length co190, v434, gb438) _ ⟨hHeld, (km_ HO425 (fun _ hk => ⟨hk.1.2, ⟨hk.2, ⟨hk.1.1.1.1.1.2, ⟨hk.1.1.1.1.2, ⟨hk.1.1.1.2, hk.1.1.2⟩⟩⟩⟩⟩)), (km_ HO430 (fun _ hk => ⟨hk.1.2, ⟨hk.2, ⟨hk.1.1.1.1.1.2, ⟨hk.1.1.1.1.2, ⟨hk.1.1.1.2, hk.1.1.2⟩⟩⟩⟩⟩)), (km_ HO435 (fun _ hk => ⟨hk.1.2, ⟨hk.2, ⟨hk.1.1.1.1.1.2, ⟨hk.1.1.1.1.2, ⟨hk.1.1.1.2, hk.1.1.2⟩⟩⟩⟩⟩)), (km_ HO_382001 (fun _ hk => ⟨hk.1.1.2, ⟨hk.1.2, ⟨hk.2, ⟨hk.1.1.1.1, ⟨hk.1.1.1.2.1, hk.1.1.1.2.2⟩⟩⟩⟩⟩)), (km_ HO_388001 (fun _ hk => ⟨hk.1.1.2, ⟨hk.1.2, ⟨hk.2, ⟨hk.1.1.1.1, ⟨hk.1.1.1.2.1, hk.1.1.1.2.2⟩⟩⟩⟩⟩)), (km_ HO_394001 (fun _ hk => ⟨hk.1.1.2, ⟨hk.1.2, ⟨hk.2, ⟨hk.1.1.1.1, ⟨hk.1.1.1.2.1, hk.1.1.1.2.2⟩⟩⟩⟩⟩)), (km_ HO_401001 (fun _ hk => ⟨hk.1.1.2, ⟨hk.1.2, ⟨hk.2, ⟨hk.1.1.1.1, ⟨hk.1.1.1.2.1, hk.1.1.1.2.2⟩⟩⟩⟩⟩)), (bk_ BK361), (bk_ BK362), (bk_ BK381), (bk_ BK387), (bk_ BK393), (bk_ BK400), (bk_ BK438), GW438.out, GE438.out, NB361_438.out, NB438_361.out, NB362_438.out, NB438_362.out, NB381_438.out, NB438_381.out, NB387_438.out, NB438_387.out, NB393_438.out, NB438_393.out, NB400_438.out, NB438_400.out, (bl_ HB)⟩)
              ·skip
               refine box_step ?hg (N := 15) ?hd (cs := #[.int .i64 0, .slice none 0 0, .int .i64 0]) (t := 30) ?hr ?_; (case hd => rfl); (case hg => rfl); (case hr => first | (go_simp; done) | (go_simp; rfl))
               intro gb438 hg w186 hbox hb
               have n0_ := am_ (Kd.R_below (kr_ HO_382001) hb); have n1_ := am_ (Kd.R_below (kr_ HO_388001) hb); have n2_ := am_ (Kd.R_below (kr_ HO_394001) hb); have n3_ := am_ (Kd.R_below (kr_ HO_401001) hb); have n4_ := am_ (blk_below (bk_ BK361) hb); have n5_ := am_ (blk_below (bk_ BK362) hb); have n6_ := am_ (blk_below (bk_ BK381) hb); have n7_ := am_ (blk_below (bk_ BK387) hb); have n8_ := am_ (blk_below (bk_ BK393) hb); have n9_ := am_ (blk_below (bk_ BK400) hb); have n10_ := am_ (below_step (bl_ HB) hb); have n11_ := am_ (hbox); have n12_ := am_ (gs_ hg HB); have n13_ := am_ (gs_ hg HB); have n14_ := am_ (nl_ hg BK361); have n15_ := am_ (ng_ hg BK361); have n16_ := am_ (nl_ hg BK362); have n17_ := am_ (ng_ hg BK362); have n18_ := am_ (nl_ hg BK381); have n19_ := am_ (ng_ hg BK381); have n20_ := am_ (nl_ hg BK387); have n21_ := am_ (ng_ hg BK387); have n22_ := am_ (nl_ hg BK393); have n23_ := am_ (ng_ hg BK393); have n24_ := am_ (nl_ hg BK400); have n25_ := am_ (ng_ hg BK400); clear HO_382001 HO_388001 HO_394001 HO_401001 BK361 BK362 BK381 BK387 BK393 BK400 HB; have HO_382001 := n0_; have HO_388001 := n1_; have HO_394001 := n2_; have HO_401001 := n3_; have BK361 := n4_; have BK362 := n5_; have BK381 := n6_; have BK387 := n7_; have BK393 := n8_; have BK400 := n9_; have HB := n10_; have BK438 := n11_; have GW438 := n12_; have GE438 := n13_; have NB361_438 := n14_; have NB438_361 := n15_; have NB362_438 := n16_; have NB438_362 := n17_; have NB381_438 := n18_; have NB438_381 := n19_; have NB387_438 := n20_; have NB438_387 := n21_; have NB393_438 := n22_; have NB438_393 := n23_; have NB400_438 := n24_; have NB438_400 := n25_; clear n0_ n1_ n2_ n3_ n4_ n5_ n6_ n7_ n8_ n9_ n10_ n11_ n12_ n13_ n14_ n15_ n16_ n17_ n18_ n19_ n20_ n21_ n22_ n23_ n24_ n25_ hb hbox hg
               refine hK.out _ _ ⟨bc_ BK361 0, bc_ BK361 1, bc_ BK361 2, bc_ BK362 0, bc_ BK362 1, bc_ BK362 2⟩ (fun hHeld => ?_)
               clear hK K
               refine norm_ (a' := ?_) ?_ ?_
               rotate_left
               ·show Act.put _ (some 15) _ = _
                exact nm_
               refine one_ (i := 1) (N := some 96) #[true, true, true, false, false, false, false, false, true, false, false] rfl rfl (one_of HT_.out (by kernel_rfl)) (by decide) (fun K hK => ?_)
               refine goes_ Tryd.func13 (by kernel_rfl) rfl #[.agg #[.int .i64 a0_0, .slice A0_1 l0_1.length c0_1, .int .i64 a0_2]] (by rfl) rfl rfl ma_ ?_
               with_reducible refine (laws_toDyadic.calls kj108 a0_0 _ _ l0_1 a0_2 t422 t423 t426 _ ?side1 ?side2 A172.out).mono ?_
               (case side1 => exact cb_ HR0_1 HB)
               (case side2 => exact HC0_1.out)
               rintro e w187 ⟨v424, rfl, ho0, hb⟩
               refine ⟨_, rfl, ?_⟩
               have n0_ := am_ (Kd.R_elder' (kr_ HO_382001) (Kd.R_base ho0) hb); have n1_ := am_ (Kd.R_elder' (kr_ HO_388001) (Kd.R_base ho0) hb); have n2_ := am_ (Kd.R_elder' (kr_ HO_394001) (Kd.R_base ho0) hb); have n3_ := am_ (Kd.R_elder' (kr_ HO_401001) (Kd.R_base ho0) hb); have n4_ := am_ (Kd.R_lower (Kd.R_new' (Kd.R_new' (Kd.R_new' (Kd.R_new' ho0 (Kd.R_lt (kr_ HO_382001))) (Kd.R_lt (kr_ HO_388001))) (Kd.R_lt (kr_ HO_394001))) (Kd.R_lt (kr_ HO_401001))) (below_size (bl_ HB))); have n5_ := am_ (blk_below (bk_ BK361) hb); have n6_ := am_ (blk_below (bk_ BK362) hb); have n7_ := am_ (blk_below (bk_ BK381) hb); have n8_ := am_ (blk_below (bk_ BK387) hb); have n9_ := am_ (blk_below (bk_ BK393) hb); have n10_ := am_ (blk_below (bk_ BK400) hb); have n11_ := am_ (blk_below (bk_ BK438) hb); have n12_ := am_ (below_step (bl_ HB) hb); clear HO_382001 HO_388001 HO_394001 HO_401001 BK361 BK362 BK381 BK387 BK393 BK400 BK438 HB; have HO_382001 := n0_; have HO_388001 := n1_; have HO_394001 := n2_; have HO_401001 := n3_; have HO425 := n4_; have BK361 := n5_; have BK362 := n6_; have BK381 := n7_; have BK387 := n8_; have BK393 := n9_; have BK400 := n10_; have BK438 := n11_; have HB := n12_; clear n0_ n1_ n2_ n3_ n4_ n5_ n6_ n7_ n8_ n9_ n10_ n11_ n12_; (try clear hb); (try clear hb2); (try clear hk); (try clear hi); (try clear ho0)
               refine hK.out _ _ ⟨bc_ BK361 0, bc_ BK361 1, bc_ BK361 2, bc_ BK362 0, bc_ BK362 1, bc_ BK362 2⟩ (fun hHeld => ?_)
               clear hK K
               refine norm_ (a' := ?_) ?_ ?_
               rotate_left
               ·show Act.put _ (some 96) _ = _
                exact nm_
               refine one_ (i := 3) (N := some 98) #[true, true, true, true, false, false, false, false, true, false, false] rfl rfl (one_of HT_.out (by kernel_rfl)) (by decide) (fun K hK => ?_)
               refine goes_ Tryd.func13 (by kernel_rfl) rfl #[.agg #[.int .i64 a1_0, .slice A1_1 l1_1.length c1_1, .int .i64 a1_2]] (by rfl) rfl rfl ma_ ?_
               with_reducible refine (laws_toDyadic.calls kj108 a1_0 _ _ l1_1 a1_2 t427 t428 t431 _ ?side1 ?side2 A173.out).mono ?_
               (case side1 => exact cb_ HR1_1 HB)
               (case side2 => exact HC1_1.out)
               rintro e w188 ⟨v429, rfl, ho0, hb⟩
               refine ⟨_, rfl, ?_⟩
               have n0_ := am_ (Kd.R_elder' (kr_ HO_382001) (Kd.R_base ho0) hb); have n1_ := am_ (Kd.R_elder' (kr_ HO_388001) (Kd.R_base ho0) hb); have n2_ := am_ (Kd.R_elder' (kr_ HO_394001) (Kd.R_base ho0) hb); have n3_ := am_ (Kd.R_elder' (kr_ HO_401001) (Kd.R_base ho0) hb); have n4_ := am_ (Kd.R_elder' (kr_ HO425) (Kd.R_base ho0) hb); have n5_ := am_ (Kd.R_lower (Kd.R_new' (Kd.R_new' (Kd.R_new' (Kd.R_new' (Kd.R_new' ho0 (Kd.R_lt (kr_ HO_382001))) (Kd.R_lt (kr_ HO_388001))) (Kd.R_lt (kr_ HO_394001))) (Kd.R_lt (kr_ HO_401001))) (Kd.R_lt (kr_ HO425))) (below_size (bl_ HB))); have n6_ := am_ (blk_below (bk_ BK361) hb); have n7_ := am_ (blk_below (bk_ BK362) hb); have n8_ := am_ (blk_below (bk_ BK381) hb); have n9_ := am_ (blk_below (bk_ BK387) hb); have n10_ := am_ (blk_below (bk_ BK393) hb); have n11_ := am_ (blk_below (bk_ BK400) hb); have n12_ := am_ (blk_below (bk_ BK438) hb); have n13_ := am_ (below_step (bl_ HB) hb); clear HO_382001 HO_388001 HO_394001 HO_401001 HO425 BK361 BK362 BK381 BK387 BK393 BK400 BK438 HB; have HO_382001 := n0_; have HO_388001 := n1_; have HO_394001 := n2_; have HO_401001 := n3_; have HO425 := n4_; have HO430 := n5_; have BK361 := n6_; have BK362 := n7_; have BK381 := n8_; have BK387 := n9_; have BK393 := n10_; have BK400 := n11_; have BK438 := n12_; have HB := n13_; clear n0_ n1_ n2_ n3_ n4_ n5_ n6_ n7_ n8_ n9_ n10_ n11_ n12_ n13_; (try clear hb); (try clear hb2); (try clear hk); (try clear hi); (try clear ho0)
               obtain ⟨Ao189, co189, eo189⟩ := Kd.R_slice HO425.out
               (first | subst eo189 | (injection eo189 with f1_ f2_ f3_; have f4_ := f1_.symm; have f5_ := f3_.symm; clear f1_ f2_ f3_; subst f4_; subst f5_))
               obtain ⟨Ao190, co190, eo190⟩ := Kd.R_slice HO430.out
               (first | subst eo190 | (injection eo190 with f1_ f2_ f3_; have f4_ := f1_.symm; have f5_ := f3_.symm; clear f1_ f2_ f3_; subst f4_; subst f5_))
               refine hK.out _ _ ⟨bc_ BK361 0, bc_ BK361 1, bc_ BK361 2, bc_ BK362 0, bc_ BK362 1, bc_ BK362 2⟩ (fun hHeld => ?_)
               clear hK K
               refine norm_ (a' := ?_) ?_ ?_
               rotate_left
               ·show Act.put _ (some 98) _ = _
                exact nm_
               refine one_ (i := 4) (N := some 99) #[true, true, true, true, true, false, false, false, true, false, false] rfl rfl (one_of HT_.out (by kernel_rfl)) (by decide) (fun K hK => ?_)
               refine goes_ Tryd.func35 (by kernel_rfl) rfl #[.agg #[.int .i64 t422, .slice Ao189 t423.length co189, .int .i64 t426], .agg #[.int .i64 t427, .slice Ao190 t428.length co190, .int .i64 t431]] (by rfl) rfl rfl ma_ ?_
               with_reducible refine (impl_SubtractDyadics.calls t422 _ _ t423 t426 t427 _ _ t428 t431 t432 t433 t436 t437 _ ?side1 ?side2 ?side3 ?side4 ?sideT A174.out).mono ?_
               (case sideT => exact Go.Proofs.YthddlechoibdkaaDoor.Big.Tab.below HTab.out (bl_ HB))
               (case side1 => exact cr_ HO425)
               (case side2 => exact (Kd.R_reads' HO425.out).2.1)
               (case side3 => exact cr_ HO430)
               (case side4 => exact (Kd.R_reads' HO430.out).2.1)
               rintro e w191 ⟨v434, rfl, ho0, hb⟩
               refine ⟨_, rfl, ?_⟩
               have n0_ := am_ (Kd.R_elder' (kr_ HO_382001) (Kd.R_base ho0) hb); have n1_ := am_ (Kd.R_elder' (kr_ HO_388001) (Kd.R_base ho0) hb); have n2_ := am_ (Kd.R_elder' (kr_ HO_394001) (Kd.R_base ho0) hb); have n3_ := am_ (Kd.R_elder' (kr_ HO_401001) (Kd.R_base ho0) hb); have n4_ := am_ (Kd.R_elder' (kr_ HO425) (Kd.R_base ho0) hb); have n5_ := am_ (Kd.R_elder' (kr_ HO430) (Kd.R_base ho0) hb); have n6_ := am_ (Kd.R_lower (Kd.R_new' (Kd.R_new' (Kd.R_new' (Kd.R_new' (Kd.R_new' (Kd.R_new' ho0 (Kd.R_lt (kr_ HO_382001))) (Kd.R_lt (kr_ HO_388001))) (Kd.R_lt (kr_ HO_394001))) (Kd.R_lt (kr_ HO_401001))) (Kd.R_lt (kr_ HO425))) (Kd.R_lt (kr_ HO430))) (below_size (bl_ HB))); have n7_ := am_ (blk_below (bk_ BK361) hb); have n8_ := am_ (blk_below (bk_ BK362) hb); have n9_ := am_ (blk_below (bk_ BK381) hb); have n10_ := am_ (blk_below (bk_ BK387) hb); have n11_ := am_ (blk_below (bk_ BK393) hb); have n12_ := am_ (blk_below (bk_ BK400) hb); have n13_ := am_ (blk_below (bk_ BK438) hb); have n14_ := am_ (below_step (bl_ HB) hb); clear HO_382001 HO_388001 HO_394001 HO_401001 HO425 HO430 BK361 BK362 BK381 BK387 BK393 BK400 BK438 HB; have HO_382001 := n0_; have HO_388001 := n1_; have HO_394001 := n2_; have HO_401001 := n3_; have HO425 := n4_; have HO430 := n5_; have HO435 := n6_; have BK361 := n7_; have BK362 := n8_; have BK381 := n9_; have BK387 := n10_; have BK393 := n11_; have BK400 := n12_; have BK438 := n13_; have HB := n14_; clear n0_ n1_ n2_ n3_ n4_ n5_ n6_ n7_ n8_ n9_ n10_ n11_ n12_ n13_ n14_; (try clear hb); (try clear hb2); (try clear hk); (try clear hi); (try clear ho0)
               refine hK.out _ _ ⟨bc_ BK361 0, bc_ BK361 1, bc_ BK361 2, bc_ BK362 0, bc_ BK362 1, bc_ BK362 2⟩ (fun hHeld => ?_)
               clear hK K
               refine norm_ (a' := ?_) ?_ ?_
               rotate_left
               ·show Act.put _ (some 99) _ = _
                exact nm_
               refine pure_ (i := 5) (N := some 94) (v := ?_) (a' := ?_) #[true, true, true, true, true, true, false, false, true, false, false] rfl rfl (any_of HT_.out (by kernel_rfl)) (fun _ _ _ h => h) (Or.inl ⟨by rfl, ?_⟩) ?_ ?_
               rotate_left
               ·intro w'
                go_simp
                with_reducible rfl
               rotate_left
               ·exact nm_
               refine pure_ (i := 6) (N := some 100) (v := ?_) (a' := ?_) #[true, true, true, true, true, true, true, false, true, false, false] rfl rfl (any_of HT_.out (by kernel_rfl)) (fun _ _ _ h => h) (Or.inl ⟨by rfl, ?_⟩) ?_ ?_
               rotate_left
               ·intro w'
                go_simp
                with_reducible rfl
               rotate_left
               ·exact nm_
               refine pure_ (i := 7) (N := some 101) (v := ?_) (a' := ?_) #[true, true, true, true, true, true, true, true, true, false, false] rfl rfl (any_of HT_.out (by kernel_rfl)) (fun _ _ _ h => h) (Or.inl ⟨by rfl, ?_⟩) ?_ ?_
               rotate_left
               ·intro w'
                go_simp
                with_reducible rfl
               rotate_left
               ·exact nm_
               exact norm_ (by simp only [putAll, Act.put, List.setIfInBounds_toArray, List.set_cons_zero, List.set_cons_succ]) (hCont (.slice Ao189 t423.length co189, .slice Ao190 t428.length co190, v434, gb438) _ ⟨hHeld, (km_ HO425 (fun _ hk => ⟨hk.1.2, ⟨hk.2, ⟨hk.1.1.1.1.1.2, ⟨hk.1.1.1.1.2, ⟨hk.1.1.1.2, hk.1.1.2⟩⟩⟩⟩⟩)), (km_ HO430 (fun _ hk => ⟨hk.1.2, ⟨hk.2, ⟨hk.1.1.1.1.1.2, ⟨hk.1.1.1.1.2, ⟨hk.1.1.1.2, hk.1.1.2⟩⟩⟩⟩⟩)), (km_ HO435 (fun _ hk => ⟨hk.1.2, ⟨hk.2, ⟨hk.1.1.1.1.1.2, ⟨hk.1.1.1.1.2, ⟨hk.1.1.1.2, hk.1.1.2⟩⟩⟩⟩⟩)), (km_ HO_382001 (fun _ hk => ⟨hk.1.1.2, ⟨hk.1.2, ⟨hk.2, ⟨hk.1.1.1.1, ⟨hk.1.1.1.2.1, hk.1.1.1.2.2⟩⟩⟩⟩⟩)), (km_ HO_388001 (fun _ hk => ⟨hk.1.1.2, ⟨hk.1.2, ⟨hk.2, ⟨hk.1.1.1.1, ⟨hk.1.1.1.2.1, hk.1.1.1.2.2⟩⟩⟩⟩⟩)), (km_ HO_394001 (fun _ hk => ⟨hk.1.1.2, ⟨hk.1.2, ⟨hk.2, ⟨hk.1.1.1.1, ⟨hk.1.1.1.2.1, hk.1.1.1.2.2⟩⟩⟩⟩⟩)), (km_ HO_401001 (fun _ hk => ⟨hk.1.1.2, ⟨hk.1.2, ⟨hk.2, ⟨hk.1.1.1.1, ⟨hk.1.1.1.2.1, hk.1.1.1.2.2⟩⟩⟩⟩⟩)), (bk_ BK361), (bk_ BK362), (bk_ BK381), (bk_ BK387), (bk_ BK393), (bk_ BK400), (bk_ BK438), GW438.out, GE438.out, NB361_438.out, NB438_361.out, NB362_438.out, NB438_362.out, NB381_438.out, NB438_381.out, NB387_438.out, NB438_387.out, NB393_438.out, NB438_393.out, NB400_438.out, NB438_400.out, (bl_ HB)⟩)
             rintro ⟨v424, v429, v434, gb438⟩ w192 ⟨hS_, h0_, h1_, h2_, h3_, h4_, h5_, h6_, h7_, h8_, h9_, h10_, h11_, h12_, h13_, h14_, h15_, h16_, h17_, h18_, h19_, h20_, h21_, h22_, h23_, h24_, h25_, h26_, h27_, h28_⟩
             have n0_ : Aside0 (Kd.R (Kd.int .i64) 2 w192 w.heap.size (fun k_ => some k_ ≠ (v429 : Value).ownBlock ∧ some k_ ≠ (v434 : Value).ownBlock ∧ some k_ ≠ (.slice Ao42 t376.length co42 : Value).ownBlock ∧ some k_ ≠ (.slice Ao53 t415.length co53 : Value).ownBlock ∧ some k_ ≠ (.slice Ao63 t417.length co63 : Value).ownBlock ∧ some k_ ≠ (.slice Ao73 t395.length co73 : Value).ownBlock) v424 t423) := ⟨h0_⟩
             have n1_ : Aside0 (Kd.R (Kd.int .i64) 2 w192 w.heap.size (fun k_ => some k_ ≠ (v424 : Value).ownBlock ∧ some k_ ≠ (v434 : Value).ownBlock ∧ some k_ ≠ (.slice Ao42 t376.length co42 : Value).ownBlock ∧ some k_ ≠ (.slice Ao53 t415.length co53 : Value).ownBlock ∧ some k_ ≠ (.slice Ao63 t417.length co63 : Value).ownBlock ∧ some k_ ≠ (.slice Ao73 t395.length co73 : Value).ownBlock) v429 t428) := ⟨h1_⟩
             have n2_ : Aside0 (Kd.R (Kd.int .i64) 2 w192 w.heap.size (fun k_ => some k_ ≠ (v424 : Value).ownBlock ∧ some k_ ≠ (v429 : Value).ownBlock ∧ some k_ ≠ (.slice Ao42 t376.length co42 : Value).ownBlock ∧ some k_ ≠ (.slice Ao53 t415.length co53 : Value).ownBlock ∧ some k_ ≠ (.slice Ao63 t417.length co63 : Value).ownBlock ∧ some k_ ≠ (.slice Ao73 t395.length co73 : Value).ownBlock) v434 t433) := ⟨h2_⟩
             have n3_ : Aside0 (Kd.R (Kd.int .i64) 2 w192 w.heap.size (fun k_ => some k_ ≠ (v424 : Value).ownBlock ∧ some k_ ≠ (v429 : Value).ownBlock ∧ some k_ ≠ (v434 : Value).ownBlock ∧ some k_ ≠ (.slice Ao53 t415.length co53 : Value).ownBlock ∧ some k_ ≠ (.slice Ao63 t417.length co63 : Value).ownBlock ∧ some k_ ≠ (.slice Ao73 t395.length co73 : Value).ownBlock) (.slice Ao42 t376.length co42) t376) := ⟨h3_⟩
             have n4_ : Aside0 (Kd.R (Kd.int .i64) 2 w192 w.heap.size (fun k_ => some k_ ≠ (v424 : Value).ownBlock ∧ some k_ ≠ (v429 : Value).ownBlock ∧ some k_ ≠ (v434 : Value).ownBlock ∧ some k_ ≠ (.slice Ao42 t376.length co42 : Value).ownBlock ∧ some k_ ≠ (.slice Ao63 t417.length co63 : Value).ownBlock ∧ some k_ ≠ (.slice Ao73 t395.length co73 : Value).ownBlock) (.slice Ao53 t415.length co53) t415) := ⟨h4_⟩
             have n5_ : Aside0 (Kd.R (Kd.int .i64) 2 w192 w.heap.size (fun k_ => some k_ ≠ (v424 : Value).ownBlock ∧ some k_ ≠ (v429 : Value).ownBlock ∧ some k_ ≠ (v434 : Value).ownBlock ∧ some k_ ≠ (.slice Ao42 t376.length co42 : Value).ownBlock ∧ some k_ ≠ (.slice Ao53 t415.length co53 : Value).ownBlock ∧ some k_ ≠ (.slice Ao73 t395.length co73 : Value).ownBlock) (.slice Ao63 t417.length co63) t417) := ⟨h5_⟩
             have n6_ : Aside0 (Kd.R (Kd.int .i64) 2 w192 w.heap.size (fun k_ => some k_ ≠ (v424 : Value).ownBlock ∧ some k_ ≠ (v429 : Value).ownBlock ∧ some k_ ≠ (v434 : Value).ownBlock ∧ some k_ ≠ (.slice Ao42 t376.length co42 : Value).ownBlock ∧ some k_ ≠ (.slice Ao53 t415.length co53 : Value).ownBlock ∧ some k_ ≠ (.slice Ao63 t417.length co63 : Value).ownBlock) (.slice Ao73 t395.length co73) t420) := ⟨h6_⟩
             have n7_ : Aside0 (w192.heap[gb361]? = some (.cells #[.int .i64 a0_0, .slice A0_1 l0_1.length c0_1, .int .i64 a0_2] 26 (0, 0))) := ⟨h7_⟩
             have n8_ : Aside0 (w192.heap[gb362]? = some (.cells #[.int .i64 a1_0, .slice A1_1 l1_1.length c1_1, .int .i64 a1_2] 26 (0, 0))) := ⟨h8_⟩
             have n9_ : Aside0 (w192.heap[gb381]? = some (.cells #[.int .i64 t375, .slice Ao42 t376.length co42, .int .i64 t379] 30 (0, 0))) := ⟨h9_⟩
             have n10_ : Aside0 (w192.heap[gb387]? = some (.cells #[.int .i64 t382, .slice Ao53 t415.length co53, .int .i64 t386] 30 (0, 0))) := ⟨h10_⟩
             have n11_ : Aside0 (w192.heap[gb393]? = some (.cells #[.int .i64 t388, .slice Ao63 t417.length co63, .int .i64 t392] 30 (0, 0))) := ⟨h11_⟩
             have n12_ : Aside0 (w192.heap[gb400]? = some (.cells #[.int .i64 t394, .slice Ao73 t395.length co73, .int .i64 t398] 30 (0, 0))) := ⟨h12_⟩
             have n13_ : Aside0 (w192.heap[gb438]? = some (.cells #[.int .i64 0, .slice none 0 0, .int .i64 0] 30 (0, 0))) := ⟨h13_⟩
             have n14_ : Aside0 (w.heap.size ≤ gb438) := ⟨h14_⟩
             have n15_ : Aside0 (w.heap.size ≤ gb438) := ⟨h15_⟩
             have n16_ : Aside0 (gb361 ≠ gb438) := ⟨h16_⟩
             have n17_ : Aside0 (gb438 ≠ gb361) := ⟨h17_⟩
             have n18_ : Aside0 (gb362 ≠ gb438) := ⟨h18_⟩
             have n19_ : Aside0 (gb438 ≠ gb362) := ⟨h19_⟩
             have n20_ : Aside0 (gb381 ≠ gb438) := ⟨h20_⟩
             have n21_ : Aside0 (gb438 ≠ gb381) := ⟨h21_⟩
             have n22_ : Aside0 (gb387 ≠ gb438) := ⟨h22_⟩
             have n23_ : Aside0 (gb438 ≠ gb387) := ⟨h23_⟩
             have n24_ : Aside0 (gb393 ≠ gb438) := ⟨h24_⟩
             have n25_ : Aside0 (gb438 ≠ gb393) := ⟨h25_⟩
             have n26_ : Aside0 (gb400 ≠ gb438) := ⟨h26_⟩
             have n27_ : Aside0 (gb438 ≠ gb400) := ⟨h27_⟩
             have n28_ : Aside0 (Below w.heap.size w w192) := ⟨h28_⟩
             clear HO_382001 HO_388001 HO_394001 HO_401001 BK361 BK362 BK381 BK387 BK393 BK400 HB h0_ h1_ h2_ h3_ h4_ h5_ h6_ h7_ h8_ h9_ h10_ h11_ h12_ h13_ h14_ h15_ h16_ h17_ h18_ h19_ h20_ h21_ h22_ h23_ h24_ h25_ h26_ h27_ h28_; have HO425 := n0_; have HO430 := n1_; have HO435 := n2_; have HO_382001 := n3_; have HO_388001 := n4_; have HO_394001 := n5_; have HO_401001 := n6_; have BK361 := n7_; have BK362 := n8_; have BK381 := n9_; have BK387 := n10_; have BK393 := n11_; have BK400 := n12_; have BK438 := n13_; have GW438 := n14_; have GE438 := n15_; have NB361_438 := n16_; have NB438_361 := n17_; have NB362_438 := n18_; have NB438_362 := n19_; have NB381_438 := n20_; have NB438_381 := n21_; have NB387_438 := n22_; have NB438_387 := n23_; have NB393_438 := n24_; have NB438_393 := n25_; have NB400_438 := n26_; have NB438_400 := n27_; have HB := n28_; clear n0_ n1_ n2_ n3_ n4_ n5_ n6_ n7_ n8_ n9_ n10_ n11_ n12_ n13_ n14_ n15_ n16_ n17_ n18_ n19_ n20_ n21_ n22_ n23_ n24_ n25_ n26_ n27_ n28_
             have hHeld : w192.cell? ⟨gb361, 0, none⟩ = some (.int .i64 a0_0) ∧ w192.cell? ⟨gb361, 1, none⟩ = some (.slice A0_1 l0_1.length c0_1) ∧ w192.cell? ⟨gb361, 2, none⟩ = some (.int .i64 a0_2) ∧ w192.cell? ⟨gb362, 0, none⟩ = some (.int .i64 a1_0) ∧ w192.cell? ⟨gb362, 1, none⟩ = some (.slice A1_1 l1_1.length c1_1) ∧ w192.cell? ⟨gb362, 2, none⟩ = some (.int .i64 a1_2) := hS_
             obtain ⟨Ao194, co194, eo194⟩ := Kd.R_slice HO435.out
             (first | subst eo194 | (injection eo194 with f1_ f2_ f3_; have f4_ := f1_.symm; have f5_ := f3_.symm; clear f1_ f2_ f3_; subst f4_; subst f5_))
             refine norm_ (a' := ?_) ?_ ?_
             rotate_left
             ·simp only [putAll, Act.put, List.setIfInBounds_toArray, List.set_cons_zero, List.set_cons_succ]
              rfl
             refine one_ (i := 9) (N := none) #[true, true, true, true, true, true, true, true, true, true, false] rfl rfl (one_of HT_.out (by kernel_rfl)) (by decide) (fun K hK => ?_)
             have hs193 : w192.cell? ⟨gb438, 0, none⟩ = some (.int .i64 0) := bc_ BK438 0
             have hfs193 := blk_frozen BK438.out 0; have hns193_0 := NB361_438.out; have hns193_1 := NB362_438.out; have hns193_2 := NB381_438.out; have hns193_3 := NB387_438.out; have hns193_4 := NB393_438.out; have hns193_5 := NB400_438.out; have hms193_0 := NB438_361.out; have hms193_1 := NB438_362.out; have hms193_2 := NB438_381.out; have hms193_3 := NB438_387.out; have hms193_4 := NB438_393.out; have hms193_5 := NB438_400.out
             have hs195 : w192.cell? ⟨gb438, 1, none⟩ = some (.slice none 0 0) := bc_ BK438 1
             have hfs195 := blk_frozen BK438.out 1; have hns195_0 := NB361_438.out; have hns195_1 := NB362_438.out; have hns195_2 := NB381_438.out; have hns195_3 := NB387_438.out; have hns195_4 := NB393_438.out; have hns195_5 := NB400_438.out; have hms195_0 := NB438_361.out; have hms195_1 := NB438_362.out; have hms195_2 := NB438_381.out; have hms195_3 := NB438_387.out; have hms195_4 := NB438_393.out; have hms195_5 := NB438_400.out
             have hs196 : w192.cell? ⟨gb438, 2, none⟩ = some (.int .i64 0) := bc_ BK438 2
             have hfs196 := blk_frozen BK438.out 2; have hns196_0 := NB361_438.out; have hns196_1 := NB362_438.out; have hns196_2 := NB381_438.out; have hns196_3 := NB387_438.out; have hns196_4 := NB393_438.out; have hns196_5 := NB400_438.out; have hms196_0 := NB438_361.out; have hms196_1 := NB438_362.out; have hms196_2 := NB438_381.out; have hms196_3 := NB438_387.out; have hms196_4 := NB438_393.out; have hms196_5 := NB438_400.out
             refine skip_ (w1 := ?_) (by rfl) rfl ?_ ?_
             rotate_left
             ·go_simp
              rfl
             refine hK.out _ _ ⟨((cell_far (p := ⟨gb438, _, none⟩) NB361_438.out _).trans (((cell_far (p := ⟨gb438, _, none⟩) NB361_438.out _).trans (((cell_far (p := ⟨gb438, _, none⟩) NB361_438.out _).trans (hHeld.1)))))), ((cell_far (p := ⟨gb438, _, none⟩) NB361_438.out _).trans (((cell_far (p := ⟨gb438, _, none⟩) NB361_438.out _).trans (((cell_far (p := ⟨gb438, _, none⟩) NB361_438.out _).trans (hHeld.2.1)))))), ((cell_far (p := ⟨gb438, _, none⟩) NB361_438.out _).trans (((cell_far (p := ⟨gb438, _, none⟩) NB361_438.out _).trans (((cell_far (p := ⟨gb438, _, none⟩) NB361_438.out _).trans (hHeld.2.2.1)))))), ((cell_far (p := ⟨gb438, _, none⟩) NB362_438.out _).trans (((cell_far (p := ⟨gb438, _, none⟩) NB362_438.out _).trans (((cell_far (p := ⟨gb438, _, none⟩) NB362_438.out _).trans (hHeld.2.2.2.1)))))), ((cell_far (p := ⟨gb438, _, none⟩) NB362_438.out _).trans (((cell_far (p := ⟨gb438, _, none⟩) NB362_438.out _).trans (((cell_far (p := ⟨gb438, _, none⟩) NB362_438.out _).trans (hHeld.2.2.2.2.1)))))), ((cell_far (p := ⟨gb438, _, none⟩) NB362_438.out _).trans (((cell_far (p := ⟨gb438, _, none⟩) NB362_438.out _).trans (((cell_far (p := ⟨gb438, _, none⟩) NB362_438.out _).trans (hHeld.2.2.2.2.2))))))⟩ (fun hHeld => ?_)
             clear hK K
             refine pure_ (i := 10) (N := some 16) (v := ?_) (a' := ?_) #[true, true, true, true, true, true, true, true, true, true, true] rfl rfl (any_of HT_.out (by kernel_rfl)) (fun _ _ _ h => h) (Or.inl ⟨by rfl, ?_⟩) ?_ ?_
             rotate_left
             ·intro w'
              go_simp
              with_reducible rfl
             rotate_left
             ·exact nm_
             refine done_ (done_of HT_.out (by kernel_rfl)) ?_
             go_upto_region 32 with (fail)
             go_cut [110] (fun v110 wc => ∃ (kq : Nat) (x110_174 : Bool), v110 = .bool x110_174 ∧ Aside0 (laws_FnExactSubtractDyadics.j2 kq t419 x110_174 t394 t420 t398 = some r) ∧ Aside0 (kq ≤ kj108) ∧ Aside0 (Kd.R (Kd.int .i64) 2 wc w.heap.size (fun k_ => some k_ ≠ ((.slice Ao53 t415.length co53) : Value).ownBlock ∧ some k_ ≠ ((.slice Ao63 t417.length co63) : Value).ownBlock ∧ some k_ ≠ ((.slice Ao73 t395.length co73) : Value).ownBlock ∧ some k_ ≠ ((.slice Ao194 t433.length co194) : Value).ownBlock) (.slice Ao42 t376.length co42) t376) ∧ Aside0 (Kd.R (Kd.int .i64) 2 wc w.heap.size (fun k_ => some k_ ≠ ((.slice Ao42 t376.length co42) : Value).ownBlock ∧ some k_ ≠ ((.slice Ao63 t417.length co63) : Value).ownBlock ∧ some k_ ≠ ((.slice Ao73 t395.length co73) : Value).ownBlock ∧ some k_ ≠ ((.slice Ao194 t433.length co194) : Value).ownBlock) (.slice Ao53 t415.length co53) t415) ∧ Aside0 (Kd.R (Kd.int .i64) 2 wc w.heap.size (fun k_ => some k_ ≠ ((.slice Ao42 t376.length co42) : Value).ownBlock ∧ some k_ ≠ ((.slice Ao53 t415.length co53) : Value).ownBlock ∧ some k_ ≠ ((.slice Ao73 t395.length co73) : Value).ownBlock ∧ some k_ ≠ ((.slice Ao194 t433.length co194) : Value).ownBlock) (.slice Ao63 t417.length co63) t417) ∧ Aside0 (Kd.R (Kd.int .i64) 2 wc w.heap.size (fun k_ => some k_ ≠ ((.slice Ao42 t376.length co42) : Value).ownBlock ∧ some k_ ≠ ((.slice Ao53 t415.length co53) : Value).ownBlock ∧ some k_ ≠ ((.slice Ao63 t417.length co63) : Value).ownBlock ∧ some k_ ≠ ((.slice Ao194 t433.length co194) : Value).ownBlock) (.slice Ao73 t395.length co73) t420) ∧ Aside0 (Kd.R (Kd.int .i64) 2 wc w.heap.size (fun k_ => some k_ ≠ ((.slice Ao42 t376.length co42) : Value).ownBlock ∧ some k_ ≠ ((.slice Ao53 t415.length co53) : Value).ownBlock ∧ some k_ ≠ ((.slice Ao63 t417.length co63) : Value).ownBlock ∧ some k_ ≠ ((.slice Ao73 t395.length co73) : Value).ownBlock) (.slice Ao194 t433.length co194) t433) ∧ Aside0 (wc.heap[gb361]? = some (.cells #[.int .i64 a0_0, (.slice A0_1 l0_1.length c0_1), .int .i64 a0_2] 26 (0, 0))) ∧ Aside0 (wc.heap[gb362]? = some (.cells #[.int .i64 a1_0, (.slice A1_1 l1_1.length c1_1), .int .i64 a1_2] 26 (0, 0))) ∧ Aside0 (wc.heap[gb381]? = some (.cells #[.int .i64 t375, (.slice Ao42 t376.length co42), .int .i64 t379] 30 (0, 0))) ∧ Aside0 (wc.heap[gb387]? = some (.cells #[.int .i64 t382, (.slice Ao53 t415.length co53), .int .i64 t386] 30 (0, 0))) ∧ Aside0 (wc.heap[gb393]? = some (.cells #[.int .i64 t388, (.slice Ao63 t417.length co63), .int .i64 t392] 30 (0, 0))) ∧ Aside0 (wc.heap[gb400]? = some (.cells #[.int .i64 t394, (.slice Ao73 t395.length co73), .int .i64 t398] 30 (0, 0))) ∧ Aside0 (wc.heap[gb438]? = some (.cells #[.int .i64 t432, (.slice Ao194 t433.length co194), .int .i64 t436] 30 (0, 0))) ∧ Aside0 (Below w.heap.size w wc))
             case first =>
              have H := HC175.out; clear HC175
              replace H := Option.bind_eq_some_iff.mp H
              obtain ⟨t439, A1970, H⟩ := H
              replace H : (if t439 = true then (laws_FnExactSubtractDyadics.j2 kj108 t419 (t437 != t380) t394 t420 t398) else (laws_FnExactSubtractDyadics.j2 kj108 t419 true t394 t420 t398)) = some r := H
              have A197 := Aside0.mk A1970; clear A1970
              by_cases c198 : t439 = true
              ·subst c198
               have H1 : (laws_FnExactSubtractDyadics.j2 kj108 t419 (t437 != t380) t394 t420 t398) = some r := by rw [if_pos rfl] at H; exact H
               clear H; have H := H1; clear H1
               have H' := Aside0.mk H
               clear H; have hnb199 := NB438_361.out; have hnc199 := NB361_438.out; have hnb200 := NB438_362.out; have hnc200 := NB362_438.out; have hnb201 := NB438_381.out; have hnc201 := NB381_438.out; have hnb202 := NB438_387.out; have hnc202 := NB387_438.out; have hnb203 := NB438_393.out; have hnc203 := NB393_438.out; have hnb204 := NB438_400.out; have hnc204 := NB400_438.out
               have hcz205_0 : w192.cell? ⟨gb438, 0, none⟩ = some (.int .i64 0) := bc_ BK438 0
               have hcz205_1 : w192.cell? ⟨gb438, 1, none⟩ = some (.slice none 0 0) := bc_ BK438 1
               have hcz205_2 : w192.cell? ⟨gb438, 2, none⟩ = some (.int .i64 0) := bc_ BK438 2
               have hfz205_0 := blk_frozen BK438.out 0; have hfz205_1 := blk_frozen BK438.out 1; have hfz205_2 := blk_frozen BK438.out 2; have hnb206 := NB381_361.out; have hnc206 := NB361_381.out; have hnb207 := NB381_362.out; have hnc207 := NB362_381.out; have hnb208 := NB381_387.out; have hnc208 := NB387_381.out; have hnb209 := NB381_393.out; have hnc209 := NB393_381.out; have hnb210 := NB381_400.out; have hnc210 := NB400_381.out
               have hcz211_0 : w192.cell? ⟨gb381, 0, none⟩ = some (.int .i64 t375) := bc_ BK381 0
               have hcz211_1 : w192.cell? ⟨gb381, 1, none⟩ = some (.slice Ao42 t376.length co42) := bc_ BK381 1
               have hcz211_2 : w192.cell? ⟨gb381, 2, none⟩ = some (.int .i64 t379) := bc_ BK381 2
               have hfz211_0 := blk_frozen BK381.out 0; have hfz211_1 := blk_frozen BK381.out 1; have hfz211_2 := blk_frozen BK381.out 2
               go_wp2_with (first | ((with_reducible refine gate_callee (f := 15) rfl ?_); refine goesL_ (some 104) rfl rfl Tryd.func15 (by kernel_rfl) rfl #[.agg #[.int .i64 t432, .slice Ao194 t433.length co194, .int .i64 t436], .agg #[.int .i64 t375, .slice Ao42 t376.length co42, .int .i64 t379]] rfl ma_ ?_; (with_reducible refine (laws_eqDyadic.calls kj108 t432 _ _ t433 t436 t375 _ _ t376 t379 true _ ?side1 ?side2 ?side3 ?side4 A197.out).mono ?_); (case side1 => refine (Kd.R_reads' (e := 2) (base := w.heap.size) (ok := fun k_ => (some k_ ≠ (v424 : Value).ownBlock ∧ (some k_ ≠ (v429 : Value).ownBlock ∧ (some k_ ≠ (.slice Ao42 t376.length co42 : Value).ownBlock ∧ (some k_ ≠ (.slice Ao53 t415.length co53 : Value).ownBlock ∧ (some k_ ≠ (.slice Ao63 t417.length co63 : Value).ownBlock ∧ some k_ ≠ (.slice Ao73 t395.length co73 : Value).ownBlock)))))) (n := t433.length) (c := co194) ?_).2.2; exact (rk_ HO435 BK438)); (case side2 => exact (Kd.R_reads' HO435.out).2.1); (case side3 => refine (Kd.R_reads' (e := 2) (base := w.heap.size) (ok := fun k_ => (some k_ ≠ (v424 : Value).ownBlock ∧ (some k_ ≠ (v429 : Value).ownBlock ∧ (some k_ ≠ (.slice Ao194 t433.length co194 : Value).ownBlock ∧ (some k_ ≠ (.slice Ao53 t415.length co53 : Value).ownBlock ∧ (some k_ ≠ (.slice Ao63 t417.length co63 : Value).ownBlock ∧ some k_ ≠ (.slice Ao73 t395.length co73 : Value).ownBlock)))))) (n := t376.length) (c := co42) ?_).2.2; exact (rk_ HO_382001 BK438)); (case side4 => exact (Kd.R_reads' HO_382001.out).2.1); rintro e w212 ⟨rfl, hb⟩; refine ⟨_, rfl, ?_⟩; replace HO_382001 := am_ (Kd.R_below (rk_ HO_382001 BK438) hb); replace HO_388001 := am_ (Kd.R_below (rk_ HO_388001 BK438) hb); replace HO_394001 := am_ (Kd.R_below (rk_ HO_394001 BK438) hb); replace HO_401001 := am_ (Kd.R_below (rk_ HO_401001 BK438) hb); replace HO425 := am_ (Kd.R_below (rk_ HO425 BK438) hb); replace HO430 := am_ (Kd.R_below (rk_ HO430 BK438) hb); replace HO435 := am_ (Kd.R_below (rk_ HO435 BK438) hb); replace BK361 := am_ (blk_below (bk_ BK361) hb); replace BK362 := am_ (blk_below (bk_ BK362) hb); replace BK381 := am_ (blk_below (bk_ BK381) hb); replace BK387 := am_ (blk_below (bk_ BK387) hb); replace BK393 := am_ (blk_below (bk_ BK393) hb); replace BK400 := am_ (blk_below (bk_ BK400) hb); replace BK438 := am_ (blk_below (bp3_ BK438) hb); replace HB := am_ (below_step (bl_ HB) hb); (try clear hb); (try clear hb2); (try clear hk); (try clear hi)))
               go_meet
               case rel => exact ⟨_, ((t437 != t380)), (by first | rfl | (simp; done) | (simp [*]; done)), H', ⟨by have := HJ24.out; have := HJ108.out; first | omega | exact Nat.le_refl _⟩, ⟨by (try simp only [hl388001_108]); (try simp only [hl394001_108]); (with_reducible repeat (first | apply Kd.R_alloc | apply Kd.R_drewN | apply Kd.R_drew)); exact Kd.R_mono HO_382001.out (fun _ hk => ⟨hk.2.2.2.1, ⟨hk.2.2.2.2.1, ⟨hk.2.2.2.2.2, hk.2.2.1⟩⟩⟩)⟩, ⟨by (try simp only [hl388001_108]); (try simp only [hl394001_108]); (with_reducible repeat (first | apply Kd.R_alloc | apply Kd.R_drewN | apply Kd.R_drew)); exact Kd.R_mono HO_388001.out (fun _ hk => ⟨hk.2.2.2.1, ⟨hk.2.2.2.2.1, ⟨hk.2.2.2.2.2, hk.2.2.1⟩⟩⟩)⟩, ⟨by (try simp only [hl388001_108]); (try simp only [hl394001_108]); (with_reducible repeat (first | apply Kd.R_alloc | apply Kd.R_drewN | apply Kd.R_drew)); exact Kd.R_mono HO_394001.out (fun _ hk => ⟨hk.2.2.2.1, ⟨hk.2.2.2.2.1, ⟨hk.2.2.2.2.2, hk.2.2.1⟩⟩⟩)⟩, ⟨by (try simp only [hl388001_108]); (try simp only [hl394001_108]); (with_reducible repeat (first | apply Kd.R_alloc | apply Kd.R_drewN | apply Kd.R_drew)); exact Kd.R_mono HO_401001.out (fun _ hk => ⟨hk.2.2.2.1, ⟨hk.2.2.2.2.1, ⟨hk.2.2.2.2.2, hk.2.2.1⟩⟩⟩)⟩, ⟨by (try simp only [hl388001_108]); (try simp only [hl394001_108]); (with_reducible repeat (first | apply Kd.R_alloc | apply Kd.R_drewN | apply Kd.R_drew)); exact Kd.R_mono HO435.out (fun _ hk => ⟨hk.2.2.1, ⟨hk.2.2.2.1, ⟨hk.2.2.2.2.1, hk.2.2.2.2.2⟩⟩⟩)⟩, ⟨by (try simp only [hl388001_108]); (try simp only [hl394001_108]); (with_reducible repeat (first | refine blk_drewN ?_ _ | refine blk_drew ?_ | refine blk_alloc ?_ _)); exact BK361.out⟩, ⟨by (try simp only [hl388001_108]); (try simp only [hl394001_108]); (with_reducible repeat (first | refine blk_drewN ?_ _ | refine blk_drew ?_ | refine blk_alloc ?_ _)); exact BK362.out⟩, ⟨by (try simp only [hl388001_108]); (try simp only [hl394001_108]); (with_reducible repeat (first | refine blk_drewN ?_ _ | refine blk_drew ?_ | refine blk_alloc ?_ _)); exact BK381.out⟩, ⟨by (try simp only [hl388001_108]); (try simp only [hl394001_108]); (with_reducible repeat (first | refine blk_drewN ?_ _ | refine blk_drew ?_ | refine blk_alloc ?_ _)); exact BK387.out⟩, ⟨by (try simp only [hl388001_108]); (try simp only [hl394001_108]); (with_reducible repeat (first | refine blk_drewN ?_ _ | refine blk_drew ?_ | refine blk_alloc ?_ _)); exact BK393.out⟩, ⟨by (try simp only [hl388001_108]); (try simp only [hl394001_108]); (with_reducible repeat (first | refine blk_drewN ?_ _ | refine blk_drew ?_ | refine blk_alloc ?_ _)); exact BK400.out⟩, ⟨by (try simp only [hl388001_108]); (try simp only [hl394001_108]); (with_reducible repeat (first | refine blk_drewN ?_ _ | refine blk_drew ?_ | refine blk_alloc ?_ _)); exact BK438.out⟩, ⟨bl_ HB⟩⟩
              ·replace c198 := Bool.eq_false_iff.mpr c198
               subst c198
               have H1 : (laws_FnExactSubtractDyadics.j2 kj108 t419 true t394 t420 t398) = some r := by rw [if_neg (show ¬ (false = true) by decide)] at H; exact H
               clear H; have H := H1; clear H1
               have H' := Aside0.mk H
               clear H; have hnb213 := NB438_361.out; have hnc213 := NB361_438.out; have hnb214 := NB438_362.out; have hnc214 := NB362_438.out; have hnb215 := NB438_381.out; have hnc215 := NB381_438.out; have hnb216 := NB438_387.out; have hnc216 := NB387_438.out; have hnb217 := NB438_393.out; have hnc217 := NB393_438.out; have hnb218 := NB438_400.out; have hnc218 := NB400_438.out
               have hcz219_0 : w192.cell? ⟨gb438, 0, none⟩ = some (.int .i64 0) := bc_ BK438 0
               have hcz219_1 : w192.cell? ⟨gb438, 1, none⟩ = some (.slice none 0 0) := bc_ BK438 1
               have hcz219_2 : w192.cell? ⟨gb438, 2, none⟩ = some (.int .i64 0) := bc_ BK438 2
               have hfz219_0 := blk_frozen BK438.out 0; have hfz219_1 := blk_frozen BK438.out 1; have hfz219_2 := blk_frozen BK438.out 2; have hnb220 := NB381_361.out; have hnc220 := NB361_381.out; have hnb221 := NB381_362.out; have hnc221 := NB362_381.out; have hnb222 := NB381_387.out; have hnc222 := NB387_381.out; have hnb223 := NB381_393.out; have hnc223 := NB393_381.out; have hnb224 := NB381_400.out; have hnc224 := NB400_381.out
               have hcz225_0 : w192.cell? ⟨gb381, 0, none⟩ = some (.int .i64 t375) := bc_ BK381 0
               have hcz225_1 : w192.cell? ⟨gb381, 1, none⟩ = some (.slice Ao42 t376.length co42) := bc_ BK381 1
               have hcz225_2 : w192.cell? ⟨gb381, 2, none⟩ = some (.int .i64 t379) := bc_ BK381 2
               have hfz225_0 := blk_frozen BK381.out 0; have hfz225_1 := blk_frozen BK381.out 1; have hfz225_2 := blk_frozen BK381.out 2
               go_wp2_with (first | ((with_reducible refine gate_callee (f := 15) rfl ?_); refine goesL_ (some 104) rfl rfl Tryd.func15 (by kernel_rfl) rfl #[.agg #[.int .i64 t432, .slice Ao194 t433.length co194, .int .i64 t436], .agg #[.int .i64 t375, .slice Ao42 t376.length co42, .int .i64 t379]] rfl ma_ ?_; (with_reducible refine (laws_eqDyadic.calls kj108 t432 _ _ t433 t436 t375 _ _ t376 t379 false _ ?side1 ?side2 ?side3 ?side4 A197.out).mono ?_); (case side1 => refine (Kd.R_reads' (e := 2) (base := w.heap.size) (ok := fun k_ => (some k_ ≠ (v424 : Value).ownBlock ∧ (some k_ ≠ (v429 : Value).ownBlock ∧ (some k_ ≠ (.slice Ao42 t376.length co42 : Value).ownBlock ∧ (some k_ ≠ (.slice Ao53 t415.length co53 : Value).ownBlock ∧ (some k_ ≠ (.slice Ao63 t417.length co63 : Value).ownBlock ∧ some k_ ≠ (.slice Ao73 t395.length co73 : Value).ownBlock)))))) (n := t433.length) (c := co194) ?_).2.2; exact (rk_ HO435 BK438)); (case side2 => exact (Kd.R_reads' HO435.out).2.1); (case side3 => refine (Kd.R_reads' (e := 2) (base := w.heap.size) (ok := fun k_ => (some k_ ≠ (v424 : Value).ownBlock ∧ (some k_ ≠ (v429 : Value).ownBlock ∧ (some k_ ≠ (.slice Ao194 t433.length co194 : Value).ownBlock ∧ (some k_ ≠ (.slice Ao53 t415.length co53 : Value).ownBlock ∧ (some k_ ≠ (.slice Ao63 t417.length co63 : Value).ownBlock ∧ some k_ ≠ (.slice Ao73 t395.length co73 : Value).ownBlock)))))) (n := t376.length) (c := co42) ?_).2.2; exact (rk_ HO_382001 BK438)); (case side4 => exact (Kd.R_reads' HO_382001.out).2.1); rintro e w226 ⟨rfl, hb⟩; refine ⟨_, rfl, ?_⟩; replace HO_382001 := am_ (Kd.R_below (rk_ HO_382001 BK438) hb); replace HO_388001 := am_ (Kd.R_below (rk_ HO_388001 BK438) hb); replace HO_394001 := am_ (Kd.R_below (rk_ HO_394001 BK438) hb); replace HO_401001 := am_ (Kd.R_below (rk_ HO_401001 BK438) hb); replace HO425 := am_ (Kd.R_below (rk_ HO425 BK438) hb); replace HO430 := am_ (Kd.R_below (rk_ HO430 BK438) hb); replace HO435 := am_ (Kd.R_below (rk_ HO435 BK438) hb); replace BK361 := am_ (blk_below (bk_ BK361) hb); replace BK362 := am_ (blk_below (bk_ BK362) hb); replace BK381 := am_ (blk_below (bk_ BK381) hb); replace BK387 := am_ (blk_below (bk_ BK387) hb); replace BK393 := am_ (blk_below (bk_ BK393) hb); replace BK400 := am_ (blk_below (bk_ BK400) hb); replace BK438 := am_ (blk_below (bp3_ BK438) hb); replace HB := am_ (below_step (bl_ HB) hb); (try clear hb); (try clear hb2); (try clear hk); (try clear hi)))
               go_meet
               case rel => exact ⟨_, (true), (by first | rfl | (simp; done) | (simp [*]; done)), H', ⟨by have := HJ24.out; have := HJ108.out; first | omega | exact Nat.le_refl _⟩, ⟨by (try simp only [hl388001_108]); (try simp only [hl394001_108]); (with_reducible repeat (first | apply Kd.R_alloc | apply Kd.R_drewN | apply Kd.R_drew)); exact Kd.R_mono HO_382001.out (fun _ hk => ⟨hk.2.2.2.1, ⟨hk.2.2.2.2.1, ⟨hk.2.2.2.2.2, hk.2.2.1⟩⟩⟩)⟩, ⟨by (try simp only [hl388001_108]); (try simp only [hl394001_108]); (with_reducible repeat (first | apply Kd.R_alloc | apply Kd.R_drewN | apply Kd.R_drew)); exact Kd.R_mono HO_388001.out (fun _ hk => ⟨hk.2.2.2.1, ⟨hk.2.2.2.2.1, ⟨hk.2.2.2.2.2, hk.2.2.1⟩⟩⟩)⟩, ⟨by (try simp only [hl388001_108]); (try simp only [hl394001_108]); (with_reducible repeat (first | apply Kd.R_alloc | apply Kd.R_drewN | apply Kd.R_drew)); exact Kd.R_mono HO_394001.out (fun _ hk => ⟨hk.2.2.2.1, ⟨hk.2.2.2.2.1, ⟨hk.2.2.2.2.2, hk.2.2.1⟩⟩⟩)⟩, ⟨by (try simp only [hl388001_108]); (try simp only [hl394001_108]); (with_reducible repeat (first | apply Kd.R_alloc | apply Kd.R_drewN | apply Kd.R_drew)); exact Kd.R_mono HO_401001.out (fun _ hk => ⟨hk.2.2.2.1, ⟨hk.2.2.2.2.1, ⟨hk.2.2.2.2.2, hk.2.2.1⟩⟩⟩)⟩, ⟨by (try simp only [hl388001_108]); (try simp only [hl394001_108]); (with_reducible repeat (first | apply Kd.R_alloc | apply Kd.R_drewN | apply Kd.R_drew)); exact Kd.R_mono HO435.out (fun _ hk => ⟨hk.2.2.1, ⟨hk.2.2.2.1, ⟨hk.2.2.2.2.1, hk.2.2.2.2.2⟩⟩⟩)⟩, ⟨by (try simp only [hl388001_108]); (try simp only [hl394001_108]); (with_reducible repeat (first | refine blk_drewN ?_ _ | refine blk_drew ?_ | refine blk_alloc ?_ _)); exact BK361.out⟩, ⟨by (try simp only [hl388001_108]); (try simp only [hl394001_108]); (with_reducible repeat (first | refine blk_drewN ?_ _ | refine blk_drew ?_ | refine blk_alloc ?_ _)); exact BK362.out⟩, ⟨by (try simp only [hl388001_108]); (try simp only [hl394001_108]); (with_reducible repeat (first | refine blk_drewN ?_ _ | refine blk_drew ?_ | refine blk_alloc ?_ _)); exact BK381.out⟩, ⟨by (try simp only [hl388001_108]); (try simp only [hl394001_108]); (with_reducible repeat (first | refine blk_drewN ?_ _ | refine blk_drew ?_ | refine blk_alloc ?_ _)); exact BK387.out⟩, ⟨by (try simp only [hl388001_108]); (try simp only [hl394001_108]); (with_reducible repeat (first | refine blk_drewN ?_ _ | refine blk_drew ?_ | refine blk_alloc ?_ _)); exact BK393.out⟩, ⟨by (try simp only [hl388001_108]); (try simp only [hl394001_108]); (with_reducible repeat (first | refine blk_drewN ?_ _ | refine blk_drew ?_ | refine blk_alloc ?_ _)); exact BK400.out⟩, ⟨by (try simp only [hl388001_108]); (try simp only [hl394001_108]); (with_reducible repeat (first | refine blk_drewN ?_ _ | refine blk_drew ?_ | refine blk_alloc ?_ _)); exact BK438.out⟩, ⟨bl_ HB⟩⟩
             case rest =>
              clear HC175; try clear c1; try clear c2; try clear p2; try clear c3; try clear c13; try clear c15; try clear c19; try clear c20; try clear c21; try clear c22; try clear c35; try clear c198; try clear c199; try clear c200; try clear c201; try clear c202; try clear c203; try clear c204; try clear c206; try clear c207; try clear c208; try clear c209; try clear c210; try clear c213; try clear c214; try clear c215; try clear c216; try clear c217; try clear c218; try clear c220; try clear c221; try clear c222; try clear c223; try clear c224; try clear hcz205_0; try clear hcz205_1; try clear hcz205_2; try clear hcz211_0; try clear hcz211_1; try clear hcz211_2; try clear hcz219_0; try clear hcz219_1; try clear hcz219_2; try clear hcz225_0; try clear hcz225_1; try clear hcz225_2; try clear hfz205_0; try clear hfz205_1; try clear hfz205_2; try clear hfz211_0; try clear hfz211_1; try clear hfz211_2; try clear hfz219_0; try clear hfz219_1; try clear hfz219_2; try clear hfz225_0; try clear hfz225_1; try clear hfz225_2
              obtain ⟨kq, x110_174, rfl, HA, HJ174, HO_382001, HO_388001, HO_394001, HO_401001, HO_439001, BK361, BK362, BK381, BK387, BK393, BK400, BK438, HB⟩ := hcut
              have hl401001_174 := (Kd.R_reads' HO_401001.out).1
              rw [hl401001_174] at HO_401001
              (try simp only [hl401001_174])
              (try simp only [hl401001_174] at BK361)
              (try simp only [hl401001_174] at BK362)
              (try simp only [hl401001_174] at BK381)
              (try simp only [hl401001_174] at BK387)
              (try simp only [hl401001_174] at BK393)
              (try simp only [hl401001_174] at BK400)
              (try simp only [hl401001_174] at BK438)
              (try simp only [hl401001_174] at HO_382001)
              (try simp only [hl401001_174] at HO_388001)
              (try simp only [hl401001_174] at HO_394001)
              (try simp only [hl401001_174] at HO_439001)
              cases kq with
              | zero => exact absurd HA.out (by simp [laws_FnExactSubtractDyadics.j2])
              | succ kj174 =>
               have H := HA.out; clear HA
               simp only [laws_FnExactSubtractDyadics.j2] at H
               by_cases c227 : x110_174 = true
               ·subst c227
                have H1 : (some false) = some r := by rw [if_pos rfl] at H; exact H
                clear H; have H := H1; clear H1; obtain rfl := Option.some.inj H
                go_wp2
                go_ret
                exact ⟨by first | rfl | (simp [errW_none, errW_some] <;> rfl) | (simp [*, errW_none, errW_some] <;> rfl), bl_ HB⟩
               ·replace c227 := Bool.eq_false_iff.mpr c227
                subst c227
                have H1 : ((laws_heldDyadic.f kj174 t394 t420 t398 1).bind fun t440 => (if t440 < 0 then (some false) else (if t440 = t419 then (some true) else (some false)))) = some r := by rw [if_neg (show ¬ (false = true) by decide)] at H; exact H
                clear H; have H := H1; clear H1
                replace H := Option.bind_eq_some_iff.mp H
                obtain ⟨t440, A2280, H⟩ := H
                replace H : (if t440 < 0 then (some false) else (if t440 = t419 then (some true) else (some false))) = some r := H
                have A228 := Aside0.mk A2280; clear A2280
                by_cases c229 : t440 < 0
                ·rw [if_pos c229] at H
                 have c229b0 : decide (t440 < 0) = true := decide_eq_true c229
                 clear c229; obtain rfl := Option.some.inj H; have hnb230 := NB400_361.out; have hnc230 := NB361_400.out; have hnb231 := NB400_362.out; have hnc231 := NB362_400.out; have hnb232 := NB400_381.out; have hnc232 := NB381_400.out; have hnb233 := NB400_387.out; have hnc233 := NB387_400.out; have hnb234 := NB400_393.out; have hnc234 := NB393_400.out; have hnb235 := NB400_438.out; have hnc235 := NB438_400.out
                 have hcz236_0 : wc.cell? ⟨gb400, 0, none⟩ = some (.int .i64 t394) := bc_ BK400 0
                 have hcz236_1 : wc.cell? ⟨gb400, 1, none⟩ = some (.slice Ao73 t420.length co73) := bc_ BK400 1
                 have hcz236_2 : wc.cell? ⟨gb400, 2, none⟩ = some (.int .i64 t398) := bc_ BK400 2
                 have hfz236_0 := blk_frozen BK400.out 0; have hfz236_1 := blk_frozen BK400.out 1; have hfz236_2 := blk_frozen BK400.out 2
                 go_wp2_with (first | ((with_reducible refine gate_callee (f := 17) rfl ?_); refine goesL_ (some 113) rfl rfl Tryd.func17 (by kernel_rfl) rfl #[.agg #[.int .i64 t394, .slice Ao73 t420.length co73, .int .i64 t398], .int .i64 1] rfl ma_ ?_; (with_reducible refine (laws_heldDyadic.calls kj174 t394 _ _ t420 t398 1 t440 _ ?side1 ?side2 A228.out).mono ?_); (case side1 => exact cr_ HO_401001); (case side2 => exact (Kd.R_reads' HO_401001.out).2.1); rintro e w237 ⟨rfl, hb⟩; refine ⟨_, rfl, ?_⟩; replace HO_382001 := am_ (Kd.R_below (kr_ HO_382001) hb); replace HO_388001 := am_ (Kd.R_below (kr_ HO_388001) hb); replace HO_394001 := am_ (Kd.R_below (kr_ HO_394001) hb); replace HO_401001 := am_ (Kd.R_below (kr_ HO_401001) hb); replace HO_439001 := am_ (Kd.R_below (kr_ HO_439001) hb); replace BK361 := am_ (blk_below (bk_ BK361) hb); replace BK362 := am_ (blk_below (bk_ BK362) hb); replace BK381 := am_ (blk_below (bk_ BK381) hb); replace BK387 := am_ (blk_below (bk_ BK387) hb); replace BK393 := am_ (blk_below (bk_ BK393) hb); replace BK400 := am_ (blk_below (bk_ BK400) hb); replace BK438 := am_ (blk_below (bk_ BK438) hb); replace HB := am_ (below_step (bl_ HB) hb); (try clear hb); (try clear hb2); (try clear hk); (try clear hi)))
                 go_ret
                 exact ⟨by first | rfl | (simp [errW_none, errW_some] <;> rfl) | (simp [*, errW_none, errW_some] <;> rfl), bl_ HB⟩
                ·rw [if_neg c229] at H
                 have c229b0 : decide (t440 < 0) = false := decide_eq_false c229
                 clear c229
                 by_cases c238 : t440 = t419
                 ·rw [if_pos c238] at H
                  have c238b0 : (t440 == t419) = true := beq_iff_eq.mpr c238
                  have c238b1 : (t440 != t419) = false := bne_eq_false_iff_eq.mpr c238
                  clear c238; obtain rfl := Option.some.inj H; have hnb239 := NB400_361.out; have hnc239 := NB361_400.out; have hnb240 := NB400_362.out; have hnc240 := NB362_400.out; have hnb241 := NB400_381.out; have hnc241 := NB381_400.out; have hnb242 := NB400_387.out; have hnc242 := NB387_400.out; have hnb243 := NB400_393.out; have hnc243 := NB393_400.out; have hnb244 := NB400_438.out; have hnc244 := NB438_400.out
                  have hcz245_0 : wc.cell? ⟨gb400, 0, none⟩ = some (.int .i64 t394) := bc_ BK400 0
                  have hcz245_1 : wc.cell? ⟨gb400, 1, none⟩ = some (.slice Ao73 t420.length co73) := bc_ BK400 1
                  have hcz245_2 : wc.cell? ⟨gb400, 2, none⟩ = some (.int .i64 t398) := bc_ BK400 2
                  have hfz245_0 := blk_frozen BK400.out 0; have hfz245_1 := blk_frozen BK400.out 1; have hfz245_2 := blk_frozen BK400.out 2
                  go_wp2_with (first | ((with_reducible refine gate_callee (f := 17) rfl ?_); refine goesL_ (some 113) rfl rfl Tryd.func17 (by kernel_rfl) rfl #[.agg #[.int .i64 t394, .slice Ao73 t420.length co73, .int .i64 t398], .int .i64 1] rfl ma_ ?_; (with_reducible refine (laws_heldDyadic.calls kj174 t394 _ _ t420 t398 1 t440 _ ?side1 ?side2 A228.out).mono ?_); (case side1 => exact cr_ HO_401001); (case side2 => exact (Kd.R_reads' HO_401001.out).2.1); rintro e w246 ⟨rfl, hb⟩; refine ⟨_, rfl, ?_⟩; replace HO_382001 := am_ (Kd.R_below (kr_ HO_382001) hb); replace HO_388001 := am_ (Kd.R_below (kr_ HO_388001) hb); replace HO_394001 := am_ (Kd.R_below (kr_ HO_394001) hb); replace HO_401001 := am_ (Kd.R_below (kr_ HO_401001) hb); replace HO_439001 := am_ (Kd.R_below (kr_ HO_439001) hb); replace BK361 := am_ (blk_below (bk_ BK361) hb); replace BK362 := am_ (blk_below (bk_ BK362) hb); replace BK381 := am_ (blk_below (bk_ BK381) hb); replace BK387 := am_ (blk_below (bk_ BK387) hb); replace BK393 := am_ (blk_below (bk_ BK393) hb); replace BK400 := am_ (blk_below (bk_ BK400) hb); replace BK438 := am_ (blk_below (bk_ BK438) hb); replace HB := am_ (below_step (bl_ HB) hb); (try clear hb); (try clear hb2); (try clear hk); (try clear hi)))
                  go_ret
                  exact ⟨by first | rfl | (simp [errW_none, errW_some] <;> rfl) | (simp [*, errW_none, errW_some] <;> rfl), bl_ HB⟩
                 ·rw [if_neg c238] at H
                  have c238b0 : (t440 == t419) = false := beq_eq_false_iff_ne.mpr c238
                  have c238b1 : (t440 != t419) = true := bne_iff_ne.mpr c238
                  obtain rfl := Option.some.inj H; have hnb247 := NB400_361.out; have hnc247 := NB361_400.out; have hnb248 := NB400_362.out; have hnc248 := NB362_400.out; have hnb249 := NB400_381.out; have hnc249 := NB381_400.out; have hnb250 := NB400_387.out; have hnc250 := NB387_400.out; have hnb251 := NB400_393.out; have hnc251 := NB393_400.out; have hnb252 := NB400_438.out; have hnc252 := NB438_400.out
                  have hcz253_0 : wc.cell? ⟨gb400, 0, none⟩ = some (.int .i64 t394) := bc_ BK400 0
                  have hcz253_1 : wc.cell? ⟨gb400, 1, none⟩ = some (.slice Ao73 t420.length co73) := bc_ BK400 1
                  have hcz253_2 : wc.cell? ⟨gb400, 2, none⟩ = some (.int .i64 t398) := bc_ BK400 2
                  have hfz253_0 := blk_frozen BK400.out 0; have hfz253_1 := blk_frozen BK400.out 1; have hfz253_2 := blk_frozen BK400.out 2
                  go_wp2_with (first | ((with_reducible refine gate_callee (f := 17) rfl ?_); refine goesL_ (some 113) rfl rfl Tryd.func17 (by kernel_rfl) rfl #[.agg #[.int .i64 t394, .slice Ao73 t420.length co73, .int .i64 t398], .int .i64 1] rfl ma_ ?_; (with_reducible refine (laws_heldDyadic.calls kj174 t394 _ _ t420 t398 1 t440 _ ?side1 ?side2 A228.out).mono ?_); (case side1 => exact cr_ HO_401001); (case side2 => exact (Kd.R_reads' HO_401001.out).2.1); rintro e w254 ⟨rfl, hb⟩; refine ⟨_, rfl, ?_⟩; replace HO_382001 := am_ (Kd.R_below (kr_ HO_382001) hb); replace HO_388001 := am_ (Kd.R_below (kr_ HO_388001) hb); replace HO_394001 := am_ (Kd.R_below (kr_ HO_394001) hb); replace HO_401001 := am_ (Kd.R_below (kr_ HO_401001) hb); replace HO_439001 := am_ (Kd.R_below (kr_ HO_439001) hb); replace BK361 := am_ (blk_below (bk_ BK361) hb); replace BK362 := am_ (blk_below (bk_ BK362) hb); replace BK381 := am_ (blk_below (bk_ BK381) hb); replace BK387 := am_ (blk_below (bk_ BK387) hb); replace BK393 := am_ (blk_below (bk_ BK393) hb); replace BK400 := am_ (blk_below (bk_ BK400) hb); replace BK438 := am_ (blk_below (bk_ BK438) hb); replace HB := am_ (below_step (bl_ HB) hb); (try clear hb); (try clear hb2); (try clear hk); (try clear hi)))
                  go_ret
                  exact ⟨by first | rfl | (simp [errW_none, errW_some] <;> rfl) | (simp [*, errW_none, errW_some] <;> rfl), bl_ HB⟩
            ·rw [if_neg c171] at H
             have c171b0 : (t421 == t419) = false := beq_eq_false_iff_ne.mpr c171
             have c171b1 : (t421 != t419) = true := bne_iff_ne.mpr c171
             obtain rfl := Option.some.inj H; have hnb255 := NB400_361.out; have hnc255 := NB361_400.out; have hnb256 := NB400_362.out; have hnc256 := NB362_400.out; have hnb257 := NB400_381.out; have hnc257 := NB381_400.out; have hnb258 := NB400_387.out; have hnc258 := NB387_400.out; have hnb259 := NB400_393.out; have hnc259 := NB393_400.out
             have hcz260_0 : wc.cell? ⟨gb400, 0, none⟩ = some (.int .i64 t394) := bc_ BK400 0
             have hcz260_1 : wc.cell? ⟨gb400, 1, none⟩ = some (.slice Ao73 t395.length co73) := bc_ BK400 1
             have hcz260_2 : wc.cell? ⟨gb400, 2, none⟩ = some (.int .i64 t398) := bc_ BK400 2
             have hfz260_0 := blk_frozen BK400.out 0; have hfz260_1 := blk_frozen BK400.out 1; have hfz260_2 := blk_frozen BK400.out 2
             go_wp2_with (first | ((with_reducible refine gate_callee (f := 16) rfl ?_); refine goesL_ (some 85) rfl rfl Tryd.func16 (by kernel_rfl) rfl #[.agg #[.int .i64 t394, .slice Ao73 t395.length co73, .int .i64 t398], .int .i64 1] rfl ma_ ?_; (with_reducible refine (laws_markDyadic.calls kj108 t394 (fun k_ => some k_ = (.slice Ao73 t395.length co73 : Value).ownBlock) (.slice Ao73 t395.length co73) t395 t398 1 t419 t420 w _ ?side1 ?side2 A159.out).mono ?_); (case side1 => exact bl_ HB); (case side2 => exact Kd.R_tight rfl HO_401001.out); rintro e w261 ⟨rfl, hy0, hb, hkp⟩; refine ⟨_, rfl, ?_⟩; have n0_ := am_ (Kd.R_mono (ok' := fun k_ => some k_ ≠ (.slice Ao53 t415.length co53 : Value).ownBlock ∧ some k_ ≠ (.slice Ao63 t417.length co63 : Value).ownBlock ∧ some k_ ≠ (.slice Ao73 t395.length co73 : Value).ownBlock) (Kd.R_keptB (HO_382001.out) hkp (fun k_ hk_ hs_ => (hk_.2.2) hs_)) (fun k_ hk_ => ⟨hk_.1.1, hk_.1.2.1, hk_.1.2.2⟩)); have n1_ := am_ (Kd.R_mono (ok' := fun k_ => some k_ ≠ (.slice Ao42 t376.length co42 : Value).ownBlock ∧ some k_ ≠ (.slice Ao63 t417.length co63 : Value).ownBlock ∧ some k_ ≠ (.slice Ao73 t395.length co73 : Value).ownBlock) (Kd.R_keptB (HO_388001.out) hkp (fun k_ hk_ hs_ => (hk_.2.2) hs_)) (fun k_ hk_ => ⟨hk_.1.1, hk_.1.2.1, hk_.1.2.2⟩)); have n2_ := am_ (Kd.R_mono (ok' := fun k_ => some k_ ≠ (.slice Ao42 t376.length co42 : Value).ownBlock ∧ some k_ ≠ (.slice Ao53 t415.length co53 : Value).ownBlock ∧ some k_ ≠ (.slice Ao73 t395.length co73 : Value).ownBlock) (Kd.R_keptB (HO_394001.out) hkp (fun k_ hk_ hs_ => (hk_.2.2) hs_)) (fun k_ hk_ => ⟨hk_.1.1, hk_.1.2.1, hk_.1.2.2⟩)); have n3_ := am_ (Kd.R_reok rfl hy0 (fun k_ e_ => HO_401001.out.1 k_ e_)); have n4_ := am_ (blk_kept (bk_ BK361) hkp (fun hs_ => (fun e_ => (Kd.R_ne HO_401001.out BK361.out (by decide)) e_) hs_)); have n5_ := am_ (blk_kept (bk_ BK362) hkp (fun hs_ => (fun e_ => (Kd.R_ne HO_401001.out BK362.out (by decide)) e_) hs_)); have n6_ := am_ (blk_kept (bk_ BK381) hkp (fun hs_ => (fun e_ => (Kd.R_ne HO_401001.out BK381.out (by decide)) e_) hs_)); have n7_ := am_ (blk_kept (bk_ BK387) hkp (fun hs_ => (fun e_ => (Kd.R_ne HO_401001.out BK387.out (by decide)) e_) hs_)); have n8_ := am_ (blk_kept (bk_ BK393) hkp (fun hs_ => (fun e_ => (Kd.R_ne HO_401001.out BK393.out (by decide)) e_) hs_)); have n9_ := am_ (blk_kept (bk_ BK400) hkp (fun hs_ => (fun e_ => (Kd.R_ne HO_401001.out BK400.out (by decide)) e_) hs_)); have n10_ := am_ (hb); clear HO_382001; clear HO_388001; clear HO_394001; clear HO_401001; clear BK361; clear BK362; clear BK381; clear BK387; clear BK393; clear BK400; clear HB; have HO_382001 := n0_; have HO_388001 := n1_; have HO_394001 := n2_; have HO_401001 := n3_; have BK361 := n4_; have BK362 := n5_; have BK381 := n6_; have BK387 := n7_; have BK393 := n8_; have BK400 := n9_; have HB := n10_; clear n0_ n1_ n2_ n3_ n4_ n5_ n6_ n7_ n8_ n9_ n10_; (try clear hb); (try clear hkp); (try clear hy0); have hcz262_0 : w261.cell? ⟨gb400, 0, none⟩ = some (.int .i64 t394) := bc_ BK400 0; have hcz262_1 : w261.cell? ⟨gb400, 1, none⟩ = some (.slice Ao73 t395.length co73) := bc_ BK400 1; have hcz262_2 : w261.cell? ⟨gb400, 2, none⟩ = some (.int .i64 t398) := bc_ BK400 2; have hfz262_0 := blk_frozen BK400.out 0; have hfz262_1 := blk_frozen BK400.out 1; have hfz262_2 := blk_frozen BK400.out 2) | ((with_reducible refine gate_callee (f := 17) rfl ?_); refine goesL_ (some 88) rfl rfl Tryd.func17 (by kernel_rfl) rfl #[.agg #[.int .i64 t394, .slice Ao73 t420.length co73, .int .i64 t398], .int .i64 1] rfl (by (try simp only [List.map_toArray, List.map_cons, List.map_nil]); first | done | (rw [show t420.length = t395.length from (Kd.R_reads' HO_401001.out).1.symm] <;> rfl) | rfl | (simp only [List.length_drop, List.length_take]; rfl)) ?_; (with_reducible refine (laws_heldDyadic.calls kj108 t394 _ _ t420 t398 1 t421 _ ?side1 ?side2 A160.out).mono ?_); (case side1 => exact cr_ HO_401001); (case side2 => rw [show t420.length = t395.length from (Kd.R_reads' HO_401001.out).1.symm]; exact (Kd.R_reads' HO_401001.out).2.1); rintro e w263 ⟨rfl, hb⟩; refine ⟨_, rfl, ?_⟩; replace HO_382001 := am_ (Kd.R_below (kr_ HO_382001) hb); replace HO_388001 := am_ (Kd.R_below (kr_ HO_388001) hb); replace HO_394001 := am_ (Kd.R_below (kr_ HO_394001) hb); replace HO_401001 := am_ (Kd.R_below (kr_ HO_401001) hb); replace BK361 := am_ (blk_below (bk_ BK361) hb); replace BK362 := am_ (blk_below (bk_ BK362) hb); replace BK381 := am_ (blk_below (bk_ BK381) hb); replace BK387 := am_ (blk_below (bk_ BK387) hb); replace BK393 := am_ (blk_below (bk_ BK393) hb); replace BK400 := am_ (blk_below (bk_ BK400) hb); replace HB := am_ (below_step (bl_ HB) hb); (try clear hb); (try clear hb2); (try clear hk); (try clear hi)))
             go_ret
             exact ⟨by first | rfl | (simp [errW_none, errW_some] <;> rfl) | (simp [*, errW_none, errW_some] <;> rfl), bl_ HB⟩
       ·replace c106 := Bool.eq_false_iff.mpr c106
        subst c106
        have H1 : (some false) = some r := by rw [if_neg (show ¬ (false = true) by decide)] at H; exact H
        clear H; have H := H1; clear H1; obtain rfl := Option.some.inj H
        try go_wp2
        have n0_ := am_ (Kd.R_drew HO_382001.out); have n1_ := am_ (Kd.R_drew HO_388001.out); have n2_ := am_ (Kd.R_drew HO_394001.out); have n3_ := am_ (Kd.R_drew HO_401001.out); have n4_ := am_ (blk_drew BK361.out); have n5_ := am_ (blk_drew BK362.out); have n6_ := am_ (blk_drew BK381.out); have n7_ := am_ (blk_drew BK387.out); have n8_ := am_ (blk_drew BK393.out); have n9_ := am_ (blk_drew BK400.out); have n10_ := am_ (below_drew1 HB.out); clear HO_382001 HO_388001 HO_394001 HO_401001 BK361 BK362 BK381 BK387 BK393 BK400 HB; have HO_382001 := n0_; have HO_388001 := n1_; have HO_394001 := n2_; have HO_401001 := n3_; have BK361 := n4_; have BK362 := n5_; have BK381 := n6_; have BK387 := n7_; have BK393 := n8_; have BK400 := n9_; have HB := n10_; clear n0_ n1_ n2_ n3_ n4_ n5_ n6_ n7_ n8_ n9_ n10_
        refine start_ (n := 5) (S := fun w' => w'.cell? ⟨gb387, 0, none⟩ = some (.int .i64 t382) ∧ w'.cell? ⟨gb387, 1, none⟩ = some (.slice Ao53 t383.length co53) ∧ w'.cell? ⟨gb387, 2, none⟩ = some (.int .i64 t386) ∧ w'.cell? ⟨gb361, 0, none⟩ = some (.int .i64 a0_0) ∧ w'.cell? ⟨gb361, 1, none⟩ = some (.slice A0_1 l0_1.length c0_1) ∧ w'.cell? ⟨gb361, 2, none⟩ = some (.int .i64 a0_2)) (ds := []) #[false, false, false, false, false] (by kernel_rfl) rfl rfl ⟨bc_ BK387 0, bc_ BK387 1, bc_ BK387 2, bc_ BK361 0, bc_ BK361 1, bc_ BK361 2⟩ (fun hHeld => ?_)
        generalize wc.drew = w264 at HO_382001 HO_388001 HO_394001 HO_401001 BK361 BK362 BK381 BK387 BK393 BK400 HB hHeld ⊢
        refine take_ (i := 0) (N := some 54) (v := ?_) (a' := ?_) #[true, false, false, false, false] rfl rfl (by kernel_rfl) (fun _ _ _ h => h) (Or.inl ⟨by rfl, ?_⟩) hHeld ?_ ?_
        rotate_left
        ·rintro w' ⟨s0, s1, s2, s3, s4, s5⟩
         go_simp
         with_reducible rfl
        rotate_left
        ·exact nm_
        refine take_ (i := 1) (N := some 55) (v := ?_) (a' := ?_) #[true, true, false, false, false] rfl rfl (by kernel_rfl) (fun _ _ _ h => h) (Or.inl ⟨by rfl, ?_⟩) hHeld ?_ ?_
        rotate_left
        ·rintro w' ⟨s0, s1, s2, s3, s4, s5⟩
         go_simp
         with_reducible rfl
        rotate_left
        ·exact nm_
        refine one_ (i := 2) (N := some 56) #[true, true, true, false, false] rfl rfl (by kernel_rfl) (by decide) (fun K hK => ?_)
        refine goes_ Tryd.func13 (by kernel_rfl) rfl #[.agg #[.int .i64 a0_0, .slice A0_1 l0_1.length c0_1, .int .i64 a0_2]] (by rfl) rfl rfl ma_ ?_
        with_reducible refine (laws_toDyadic.calls kj24 a0_0 _ _ l0_1 a0_2 t402 t403 t406 _ ?side1 ?side2 A101.out).mono ?_
        (case side1 => exact cb_ HR0_1 HB)
        (case side2 => exact HC0_1.out)
        rintro e w265 ⟨v404, rfl, ho0, hb⟩
        refine ⟨_, rfl, ?_⟩
        have n0_ := am_ (Kd.R_elder' (kr_ HO_382001) (Kd.R_base ho0) hb); have n1_ := am_ (Kd.R_elder' (kr_ HO_388001) (Kd.R_base ho0) hb); have n2_ := am_ (Kd.R_elder' (kr_ HO_394001) (Kd.R_base ho0) hb); have n3_ := am_ (Kd.R_elder' (kr_ HO_401001) (Kd.R_base ho0) hb); have n4_ := am_ (Kd.R_lower (Kd.R_new' (Kd.R_new' (Kd.R_new' (Kd.R_new' ho0 (Kd.R_lt (kr_ HO_382001))) (Kd.R_lt (kr_ HO_388001))) (Kd.R_lt (kr_ HO_394001))) (Kd.R_lt (kr_ HO_401001))) (below_size (bl_ HB))); have n5_ := am_ (blk_below (bk_ BK361) hb); have n6_ := am_ (blk_below (bk_ BK362) hb); have n7_ := am_ (blk_below (bk_ BK381) hb); have n8_ := am_ (blk_below (bk_ BK387) hb); have n9_ := am_ (blk_below (bk_ BK393) hb); have n10_ := am_ (blk_below (bk_ BK400) hb); have n11_ := am_ (below_step (bl_ HB) hb); clear HO_382001 HO_388001 HO_394001 HO_401001 BK361 BK362 BK381 BK387 BK393 BK400 HB; have HO_382001 := n0_; have HO_388001 := n1_; have HO_394001 := n2_; have HO_401001 := n3_; have HO405 := n4_; have BK361 := n5_; have BK362 := n6_; have BK381 := n7_; have BK387 := n8_; have BK393 := n9_; have BK400 := n10_; have HB := n11_; clear n0_ n1_ n2_ n3_ n4_ n5_ n6_ n7_ n8_ n9_ n10_ n11_; (try clear hb); (try clear hb2); (try clear hk); (try clear hi); (try clear ho0)
        obtain ⟨Ao266, co266, eo266⟩ := Kd.R_slice HO405.out
        (first | subst eo266 | (injection eo266 with f1_ f2_ f3_; have f4_ := f1_.symm; have f5_ := f3_.symm; clear f1_ f2_ f3_; subst f4_; subst f5_))
        refine hK.out _ _ ⟨bc_ BK387 0, bc_ BK387 1, bc_ BK387 2, bc_ BK361 0, bc_ BK361 1, bc_ BK361 2⟩ (fun hHeld => ?_)
        clear hK K
        refine norm_ (a' := ?_) ?_ ?_
        rotate_left
        ·show Act.put _ (some 56) _ = _
         exact nm_
        refine one_ (i := 3) (N := some 57) #[true, true, true, true, false] rfl rfl (by kernel_rfl) (by decide) (fun K hK => ?_)
        refine goes_ Tryd.func15 (by kernel_rfl) rfl #[.agg #[.int .i64 t382, .slice Ao53 t383.length co53, .int .i64 t386], .agg #[.int .i64 t402, .slice Ao266 t403.length co266, .int .i64 t406]] (by rfl) rfl rfl ma_ ?_
        with_reducible refine (laws_eqDyadic.calls kj24 t382 _ _ t383 t386 t402 _ _ t403 t406 true _ ?side1 ?side2 ?side3 ?side4 A102.out).mono ?_
        (case side1 => exact cr_ HO_388001)
        (case side2 => exact (Kd.R_reads' HO_388001.out).2.1)
        (case side3 => exact cr_ HO405)
        (case side4 => exact (Kd.R_reads' HO405.out).2.1)
        rintro e w267 ⟨rfl, hb⟩
        refine ⟨_, rfl, ?_⟩
        have n0_ := am_ (Kd.R_below (kr_ HO_382001) hb); have n1_ := am_ (Kd.R_below (kr_ HO_388001) hb); have n2_ := am_ (Kd.R_below (kr_ HO_394001) hb); have n3_ := am_ (Kd.R_below (kr_ HO_401001) hb); have n4_ := am_ (Kd.R_below (kr_ HO405) hb); have n5_ := am_ (blk_below (bk_ BK361) hb); have n6_ := am_ (blk_below (bk_ BK362) hb); have n7_ := am_ (blk_below (bk_ BK381) hb); have n8_ := am_ (blk_below (bk_ BK387) hb); have n9_ := am_ (blk_below (bk_ BK393) hb); have n10_ := am_ (blk_below (bk_ BK400) hb); have n11_ := am_ (below_step (bl_ HB) hb); clear HO_382001 HO_388001 HO_394001 HO_401001 HO405 BK361 BK362 BK381 BK387 BK393 BK400 HB; have HO_382001 := n0_; have HO_388001 := n1_; have HO_394001 := n2_; have HO_401001 := n3_; have HO405 := n4_; have BK361 := n5_; have BK362 := n6_; have BK381 := n7_; have BK387 := n8_; have BK393 := n9_; have BK400 := n10_; have HB := n11_; clear n0_ n1_ n2_ n3_ n4_ n5_ n6_ n7_ n8_ n9_ n10_ n11_; (try clear hb); (try clear hb2); (try clear hk); (try clear hi)
        refine hK.out _ _ ⟨bc_ BK387 0, bc_ BK387 1, bc_ BK387 2, bc_ BK361 0, bc_ BK361 1, bc_ BK361 2⟩ (fun hHeld => ?_)
        clear hK K
        refine norm_ (a' := ?_) ?_ ?_
        rotate_left
        ·show Act.put _ (some 57) _ = _
         exact nm_
        refine pure_ (i := 4) (N := some 58) (v := ?_) (a' := ?_) #[true, true, true, true, true] rfl rfl (by kernel_rfl) (fun _ _ _ h => h) (Or.inl ⟨by rfl, ?_⟩) ?_ ?_
        rotate_left
        ·intro w'
         go_simp
         with_reducible rfl
        rotate_left
        ·exact nm_
        refine done_ (by kernel_rfl) ?_
        try go_wp2
        have n0_ := am_ (Kd.R_drew HO_382001.out); have n1_ := am_ (Kd.R_drew HO_388001.out); have n2_ := am_ (Kd.R_drew HO_394001.out); have n3_ := am_ (Kd.R_drew HO_401001.out); have n4_ := am_ (Kd.R_drew HO405.out); have n5_ := am_ (blk_drew BK361.out); have n6_ := am_ (blk_drew BK362.out); have n7_ := am_ (blk_drew BK381.out); have n8_ := am_ (blk_drew BK387.out); have n9_ := am_ (blk_drew BK393.out); have n10_ := am_ (blk_drew BK400.out); have n11_ := am_ (below_drew1 HB.out); clear HO_382001 HO_388001 HO_394001 HO_401001 HO405 BK361 BK362 BK381 BK387 BK393 BK400 HB; have HO_382001 := n0_; have HO_388001 := n1_; have HO_394001 := n2_; have HO_401001 := n3_; have HO405 := n4_; have BK361 := n5_; have BK362 := n6_; have BK381 := n7_; have BK387 := n8_; have BK393 := n9_; have BK400 := n10_; have HB := n11_; clear n0_ n1_ n2_ n3_ n4_ n5_ n6_ n7_ n8_ n9_ n10_ n11_
        refine start_ (n := 5) (S := fun w' => w'.cell? ⟨gb393, 0, none⟩ = some (.int .i64 t388) ∧ w'.cell? ⟨gb393, 1, none⟩ = some (.slice Ao63 t389.length co63) ∧ w'.cell? ⟨gb393, 2, none⟩ = some (.int .i64 t392) ∧ w'.cell? ⟨gb362, 0, none⟩ = some (.int .i64 a1_0) ∧ w'.cell? ⟨gb362, 1, none⟩ = some (.slice A1_1 l1_1.length c1_1) ∧ w'.cell? ⟨gb362, 2, none⟩ = some (.int .i64 a1_2)) (ds := []) #[false, false, false, false, false] (by kernel_rfl) rfl rfl ⟨bc_ BK393 0, bc_ BK393 1, bc_ BK393 2, bc_ BK362 0, bc_ BK362 1, bc_ BK362 2⟩ (fun hHeld => ?_)
        generalize w267.drew = w268 at HO_382001 HO_388001 HO_394001 HO_401001 HO405 BK361 BK362 BK381 BK387 BK393 BK400 HB hHeld ⊢
        refine take_ (i := 0) (N := some 59) (v := ?_) (a' := ?_) #[true, false, false, false, false] rfl rfl (by kernel_rfl) (fun _ _ _ h => h) (Or.inl ⟨by rfl, ?_⟩) hHeld ?_ ?_
        rotate_left
        ·rintro w' ⟨s0, s1, s2, s3, s4, s5⟩
         go_simp
         with_reducible rfl
        rotate_left
        ·exact nm_
        refine take_ (i := 1) (N := some 60) (v := ?_) (a' := ?_) #[true, true, false, false, false] rfl rfl (by kernel_rfl) (fun _ _ _ h => h) (Or.inl ⟨by rfl, ?_⟩) hHeld ?_ ?_
        rotate_left
        ·rintro w' ⟨s0, s1, s2, s3, s4, s5⟩
         go_simp
         with_reducible rfl
        rotate_left
        ·exact nm_
        refine one_ (i := 2) (N := some 61) #[true, true, true, false, false] rfl rfl (by kernel_rfl) (by decide) (fun K hK => ?_)
        refine goes_ Tryd.func13 (by kernel_rfl) rfl #[.agg #[.int .i64 a1_0, .slice A1_1 l1_1.length c1_1, .int .i64 a1_2]] (by rfl) rfl rfl ma_ ?_
        with_reducible refine (laws_toDyadic.calls kj24 a1_0 _ _ l1_1 a1_2 t408 t409 t412 _ ?side1 ?side2 A104.out).mono ?_
        (case side1 => exact cb_ HR1_1 HB)
        (case side2 => exact HC1_1.out)
        rintro e w269 ⟨v410, rfl, ho0, hb⟩
        refine ⟨_, rfl, ?_⟩
        have n0_ := am_ (Kd.R_elder' (kr_ HO_382001) (Kd.R_base ho0) hb); have n1_ := am_ (Kd.R_elder' (kr_ HO_388001) (Kd.R_base ho0) hb); have n2_ := am_ (Kd.R_elder' (kr_ HO_394001) (Kd.R_base ho0) hb); have n3_ := am_ (Kd.R_elder' (kr_ HO_401001) (Kd.R_base ho0) hb); have n4_ := am_ (Kd.R_elder' (kr_ HO405) (Kd.R_base ho0) hb); have n5_ := am_ (Kd.R_lower (Kd.R_new' (Kd.R_new' (Kd.R_new' (Kd.R_new' (Kd.R_new' ho0 (Kd.R_lt (kr_ HO_382001))) (Kd.R_lt (kr_ HO_388001))) (Kd.R_lt (kr_ HO_394001))) (Kd.R_lt (kr_ HO_401001))) (Kd.R_lt (kr_ HO405))) (below_size (bl_ HB))); have n6_ := am_ (blk_below (bk_ BK361) hb); have n7_ := am_ (blk_below (bk_ BK362) hb); have n8_ := am_ (blk_below (bk_ BK381) hb); have n9_ := am_ (blk_below (bk_ BK387) hb); have n10_ := am_ (blk_below (bk_ BK393) hb); have n11_ := am_ (blk_below (bk_ BK400) hb); have n12_ := am_ (below_step (bl_ HB) hb); clear HO_382001 HO_388001 HO_394001 HO_401001 HO405 BK361 BK362 BK381 BK387 BK393 BK400 HB; have HO_382001 := n0_; have HO_388001 := n1_; have HO_394001 := n2_; have HO_401001 := n3_; have HO405 := n4_; have HO411 := n5_; have BK361 := n6_; have BK362 := n7_; have BK381 := n8_; have BK387 := n9_; have BK393 := n10_; have BK400 := n11_; have HB := n12_; clear n0_ n1_ n2_ n3_ n4_ n5_ n6_ n7_ n8_ n9_ n10_ n11_ n12_; (try clear hb); (try clear hb2); (try clear hk); (try clear hi); (try clear ho0)
        obtain ⟨Ao270, co270, eo270⟩ := Kd.R_slice HO411.out
        (first | subst eo270 | (injection eo270 with f1_ f2_ f3_; have f4_ := f1_.symm; have f5_ := f3_.symm; clear f1_ f2_ f3_; subst f4_; subst f5_))
        refine hK.out _ _ ⟨bc_ BK393 0, bc_ BK393 1, bc_ BK393 2, bc_ BK362 0, bc_ BK362 1, bc_ BK362 2⟩ (fun hHeld => ?_)
        clear hK K
        refine norm_ (a' := ?_) ?_ ?_
        rotate_left
        ·show Act.put _ (some 61) _ = _
         exact nm_
        refine one_ (i := 3) (N := some 62) #[true, true, true, true, false] rfl rfl (by kernel_rfl) (by decide) (fun K hK => ?_)
        refine goes_ Tryd.func15 (by kernel_rfl) rfl #[.agg #[.int .i64 t388, .slice Ao63 t389.length co63, .int .i64 t392], .agg #[.int .i64 t408, .slice Ao270 t409.length co270, .int .i64 t412]] (by rfl) rfl rfl ma_ ?_
        with_reducible refine (laws_eqDyadic.calls kj24 t388 _ _ t389 t392 t408 _ _ t409 t412 false _ ?side1 ?side2 ?side3 ?side4 A105.out).mono ?_
        (case side1 => exact cr_ HO_394001)
        (case side2 => exact (Kd.R_reads' HO_394001.out).2.1)
        (case side3 => exact cr_ HO411)
        (case side4 => exact (Kd.R_reads' HO411.out).2.1)
        rintro e w271 ⟨rfl, hb⟩
        refine ⟨_, rfl, ?_⟩
        have n0_ := am_ (Kd.R_below (kr_ HO_382001) hb); have n1_ := am_ (Kd.R_below (kr_ HO_388001) hb); have n2_ := am_ (Kd.R_below (kr_ HO_394001) hb); have n3_ := am_ (Kd.R_below (kr_ HO_401001) hb); have n4_ := am_ (Kd.R_below (kr_ HO405) hb); have n5_ := am_ (Kd.R_below (kr_ HO411) hb); have n6_ := am_ (blk_below (bk_ BK361) hb); have n7_ := am_ (blk_below (bk_ BK362) hb); have n8_ := am_ (blk_below (bk_ BK381) hb); have n9_ := am_ (blk_below (bk_ BK387) hb); have n10_ := am_ (blk_below (bk_ BK393) hb); have n11_ := am_ (blk_below (bk_ BK400) hb); have n12_ := am_ (below_step (bl_ HB) hb); clear HO_382001 HO_388001 HO_394001 HO_401001 HO405 HO411 BK361 BK362 BK381 BK387 BK393 BK400 HB; have HO_382001 := n0_; have HO_388001 := n1_; have HO_394001 := n2_; have HO_401001 := n3_; have HO405 := n4_; have HO411 := n5_; have BK361 := n6_; have BK362 := n7_; have BK381 := n8_; have BK387 := n9_; have BK393 := n10_; have BK400 := n11_; have HB := n12_; clear n0_ n1_ n2_ n3_ n4_ n5_ n6_ n7_ n8_ n9_ n10_ n11_ n12_; (try clear hb); (try clear hb2); (try clear hk); (try clear hi)
        refine hK.out _ _ ⟨bc_ BK393 0, bc_ BK393 1, bc_ BK393 2, bc_ BK362 0, bc_ BK362 1, bc_ BK362 2⟩ (fun hHeld => ?_)
        clear hK K
        refine norm_ (a' := ?_) ?_ ?_
        rotate_left
        ·show Act.put _ (some 62) _ = _
         exact nm_
        refine pure_ (i := 4) (N := some 63) (v := ?_) (a' := ?_) #[true, true, true, true, true] rfl rfl (by kernel_rfl) (fun _ _ _ h => h) (Or.inl ⟨by rfl, ?_⟩) ?_ ?_
        rotate_left
        ·intro w'
         go_simp
         with_reducible rfl
        rotate_left
        ·exact nm_
        refine done_ (by kernel_rfl) ?_
        try go_wp2
        go_ret
        exact ⟨by first | rfl | (simp [errW_none, errW_some] <;> rfl) | (simp [*, errW_none, errW_some] <;> rfl), bl_ HB⟩
      ·replace c103 := Bool.eq_false_iff.mpr c103
       subst c103
       have H1 : (some false) = some r := by rw [if_neg (show ¬ (false = true) by decide)] at H; exact H
       clear H; have H := H1; clear H1; obtain rfl := Option.some.inj H
       try go_wp2
       have n0_ := am_ (Kd.R_drew HO_382001.out); have n1_ := am_ (Kd.R_drew HO_388001.out); have n2_ := am_ (Kd.R_drew HO_394001.out); have n3_ := am_ (Kd.R_drew HO_401001.out); have n4_ := am_ (blk_drew BK361.out); have n5_ := am_ (blk_drew BK362.out); have n6_ := am_ (blk_drew BK381.out); have n7_ := am_ (blk_drew BK387.out); have n8_ := am_ (blk_drew BK393.out); have n9_ := am_ (blk_drew BK400.out); have n10_ := am_ (below_drew1 HB.out); clear HO_382001 HO_388001 HO_394001 HO_401001 BK361 BK362 BK381 BK387 BK393 BK400 HB; have HO_382001 := n0_; have HO_388001 := n1_; have HO_394001 := n2_; have HO_401001 := n3_; have BK361 := n4_; have BK362 := n5_; have BK381 := n6_; have BK387 := n7_; have BK393 := n8_; have BK400 := n9_; have HB := n10_; clear n0_ n1_ n2_ n3_ n4_ n5_ n6_ n7_ n8_ n9_ n10_
       refine start_ (n := 5) (S := fun w' => w'.cell? ⟨gb387, 0, none⟩ = some (.int .i64 t382) ∧ w'.cell? ⟨gb387, 1, none⟩ = some (.slice Ao53 t383.length co53) ∧ w'.cell? ⟨gb387, 2, none⟩ = some (.int .i64 t386) ∧ w'.cell? ⟨gb361, 0, none⟩ = some (.int .i64 a0_0) ∧ w'.cell? ⟨gb361, 1, none⟩ = some (.slice A0_1 l0_1.length c0_1) ∧ w'.cell? ⟨gb361, 2, none⟩ = some (.int .i64 a0_2)) (ds := []) #[false, false, false, false, false] (by kernel_rfl) rfl rfl ⟨bc_ BK387 0, bc_ BK387 1, bc_ BK387 2, bc_ BK361 0, bc_ BK361 1, bc_ BK361 2⟩ (fun hHeld => ?_)
       generalize wc.drew = w272 at HO_382001 HO_388001 HO_394001 HO_401001 BK361 BK362 BK381 BK387 BK393 BK400 HB hHeld ⊢
       refine take_ (i := 0) (N := some 54) (v := ?_) (a' := ?_) #[true, false, false, false, false] rfl rfl (by kernel_rfl) (fun _ _ _ h => h) (Or.inl ⟨by rfl, ?_⟩) hHeld ?_ ?_
       rotate_left
       ·rintro w' ⟨s0, s1, s2, s3, s4, s5⟩
        go_simp
        with_reducible rfl
       rotate_left
       ·exact nm_
       refine take_ (i := 1) (N := some 55) (v := ?_) (a' := ?_) #[true, true, false, false, false] rfl rfl (by kernel_rfl) (fun _ _ _ h => h) (Or.inl ⟨by rfl, ?_⟩) hHeld ?_ ?_
       rotate_left
       ·rintro w' ⟨s0, s1, s2, s3, s4, s5⟩
        go_simp
        with_reducible rfl
       rotate_left
       ·exact nm_
       refine one_ (i := 2) (N := some 56) #[true, true, true, false, false] rfl rfl (by kernel_rfl) (by decide) (fun K hK => ?_)
       refine goes_ Tryd.func13 (by kernel_rfl) rfl #[.agg #[.int .i64 a0_0, .slice A0_1 l0_1.length c0_1, .int .i64 a0_2]] (by rfl) rfl rfl ma_ ?_
       with_reducible refine (laws_toDyadic.calls kj24 a0_0 _ _ l0_1 a0_2 t402 t403 t406 _ ?side1 ?side2 A101.out).mono ?_
       (case side1 => exact cb_ HR0_1 HB)
       (case side2 => exact HC0_1.out)
       rintro e w273 ⟨v404, rfl, ho0, hb⟩
       refine ⟨_, rfl, ?_⟩
       have n0_ := am_ (Kd.R_elder' (kr_ HO_382001) (Kd.R_base ho0) hb); have n1_ := am_ (Kd.R_elder' (kr_ HO_388001) (Kd.R_base ho0) hb); have n2_ := am_ (Kd.R_elder' (kr_ HO_394001) (Kd.R_base ho0) hb); have n3_ := am_ (Kd.R_elder' (kr_ HO_401001) (Kd.R_base ho0) hb); have n4_ := am_ (Kd.R_lower (Kd.R_new' (Kd.R_new' (Kd.R_new' (Kd.R_new' ho0 (Kd.R_lt (kr_ HO_382001))) (Kd.R_lt (kr_ HO_388001))) (Kd.R_lt (kr_ HO_394001))) (Kd.R_lt (kr_ HO_401001))) (below_size (bl_ HB))); have n5_ := am_ (blk_below (bk_ BK361) hb); have n6_ := am_ (blk_below (bk_ BK362) hb); have n7_ := am_ (blk_below (bk_ BK381) hb); have n8_ := am_ (blk_below (bk_ BK387) hb); have n9_ := am_ (blk_below (bk_ BK393) hb); have n10_ := am_ (blk_below (bk_ BK400) hb); have n11_ := am_ (below_step (bl_ HB) hb); clear HO_382001 HO_388001 HO_394001 HO_401001 BK361 BK362 BK381 BK387 BK393 BK400 HB; have HO_382001 := n0_; have HO_388001 := n1_; have HO_394001 := n2_; have HO_401001 := n3_; have HO405 := n4_; have BK361 := n5_; have BK362 := n6_; have BK381 := n7_; have BK387 := n8_; have BK393 := n9_; have BK400 := n10_; have HB := n11_; clear n0_ n1_ n2_ n3_ n4_ n5_ n6_ n7_ n8_ n9_ n10_ n11_; (try clear hb); (try clear hb2); (try clear hk); (try clear hi); (try clear ho0)
       obtain ⟨Ao274, co274, eo274⟩ := Kd.R_slice HO405.out
       (first | subst eo274 | (injection eo274 with f1_ f2_ f3_; have f4_ := f1_.symm; have f5_ := f3_.symm; clear f1_ f2_ f3_; subst f4_; subst f5_))
       refine hK.out _ _ ⟨bc_ BK387 0, bc_ BK387 1, bc_ BK387 2, bc_ BK361 0, bc_ BK361 1, bc_ BK361 2⟩ (fun hHeld => ?_)
       clear hK K
       refine norm_ (a' := ?_) ?_ ?_
       rotate_left
       ·show Act.put _ (some 56) _ = _
        exact nm_
       refine one_ (i := 3) (N := some 57) #[true, true, true, true, false] rfl rfl (by kernel_rfl) (by decide) (fun K hK => ?_)
       refine goes_ Tryd.func15 (by kernel_rfl) rfl #[.agg #[.int .i64 t382, .slice Ao53 t383.length co53, .int .i64 t386], .agg #[.int .i64 t402, .slice Ao274 t403.length co274, .int .i64 t406]] (by rfl) rfl rfl ma_ ?_
       with_reducible refine (laws_eqDyadic.calls kj24 t382 _ _ t383 t386 t402 _ _ t403 t406 false _ ?side1 ?side2 ?side3 ?side4 A102.out).mono ?_
       (case side1 => exact cr_ HO_388001)
       (case side2 => exact (Kd.R_reads' HO_388001.out).2.1)
       (case side3 => exact cr_ HO405)
       (case side4 => exact (Kd.R_reads' HO405.out).2.1)
       rintro e w275 ⟨rfl, hb⟩
       refine ⟨_, rfl, ?_⟩
       have n0_ := am_ (Kd.R_below (kr_ HO_382001) hb); have n1_ := am_ (Kd.R_below (kr_ HO_388001) hb); have n2_ := am_ (Kd.R_below (kr_ HO_394001) hb); have n3_ := am_ (Kd.R_below (kr_ HO_401001) hb); have n4_ := am_ (Kd.R_below (kr_ HO405) hb); have n5_ := am_ (blk_below (bk_ BK361) hb); have n6_ := am_ (blk_below (bk_ BK362) hb); have n7_ := am_ (blk_below (bk_ BK381) hb); have n8_ := am_ (blk_below (bk_ BK387) hb); have n9_ := am_ (blk_below (bk_ BK393) hb); have n10_ := am_ (blk_below (bk_ BK400) hb); have n11_ := am_ (below_step (bl_ HB) hb); clear HO_382001 HO_388001 HO_394001 HO_401001 HO405 BK361 BK362 BK381 BK387 BK393 BK400 HB; have HO_382001 := n0_; have HO_388001 := n1_; have HO_394001 := n2_; have HO_401001 := n3_; have HO405 := n4_; have BK361 := n5_; have BK362 := n6_; have BK381 := n7_; have BK387 := n8_; have BK393 := n9_; have BK400 := n10_; have HB := n11_; clear n0_ n1_ n2_ n3_ n4_ n5_ n6_ n7_ n8_ n9_ n10_ n11_; (try clear hb); (try clear hb2); (try clear hk); (try clear hi)
       refine hK.out _ _ ⟨bc_ BK387 0, bc_ BK387 1, bc_ BK387 2, bc_ BK361 0, bc_ BK361 1, bc_ BK361 2⟩ (fun hHeld => ?_)
       clear hK K
       refine norm_ (a' := ?_) ?_ ?_
       rotate_left
       ·show Act.put _ (some 57) _ = _
        exact nm_
       refine pure_ (i := 4) (N := some 58) (v := ?_) (a' := ?_) #[true, true, true, true, true] rfl rfl (by kernel_rfl) (fun _ _ _ h => h) (Or.inl ⟨by rfl, ?_⟩) ?_ ?_
       rotate_left
       ·intro w'
        go_simp
        with_reducible rfl
       rotate_left
       ·exact nm_
       refine done_ (by kernel_rfl) ?_
       try go_wp2
       go_ret
       exact ⟨by first | rfl | (simp [errW_none, errW_some] <;> rfl) | (simp [*, errW_none, errW_some] <;> rfl), bl_ HB⟩

end Go.Proofs.YthddlechoibdkaaDoor.X
