/- Functions of the program as plain Lean functions, each with a proof that its call does what that function says. Printed by a program over the kit's print; conditions stand in each contract. -/
import Derived.Test.YthddlechoibdkaaDoorSq
import Derived.Test.YthddlechoibdkaaDoorDyP
import Derived.Test.YthddlechoibdkaaDoorX0
import Derived.Test.YthddlechoibdkaaDoorX1
import Derived.Test.YthddlechoibdkaaDoorX2
namespace Go.Proofs.YthddlechoibdkaaDoor.X
open Go.RowKit Go.Proofs.YthddlechoibdkaaDoorW.PrintWords Go.Proofs.YthddlechoibdkaaDoorW.PrintLast Go.Proofs.YthddlechoibdkaaDoorW.PrintMore Go.Proofs.YthddlechoibdkaaDoor.Sq
attribute [local go_sem] max2_int min2_int max_two min_two max_three min_three max_four min_four   -- for this text's walks alone
set_option linter.unusedVariables false
set_option linter.unusedSimpArgs false

/-! ### laws_FnExactMultiplyDyadics: function 8 -/
mutual
def laws_FnExactMultiplyDyadics.j0 : Nat → Int → Int → Bool → Int → List Int → Int → Int → List Int → Int → Int → List Int → Int → Int → List Int → Int → Int → List Int → Int → Int → List Int → Int → Option (Bool)
  | 0, _, _, _, _, _, _, _, _, _, _, _, _, _, _, _, _, _, _, _, _, _ => none
  | k + 1, x7, x11, x53, x246000, x246001, x246002, x247000, x247001, x247002, x266000, x266001, x266002, x272000, x272001, x272002, x278000, x278001, x278002, x285000, x285001, x285002 => if x53 = true then (some false) else ((laws_toDyadic.f k x246000 x246001 x246002).bind fun bt286 => ((laws_eqDyadic.f k x272000 x272001 x272002 bt286.1 bt286.2.1 bt286.2.2).bind fun t291 => (if t291 = true then ((laws_toDyadic.f k x247000 x247001 x247002).bind fun bt292 => ((laws_eqDyadic.f k x278000 x278001 x278002 bt292.1 bt292.2.1 bt292.2.2).bind fun t297 => (if t297 = true then ((laws_markDyadic.f k x272000 x272001 x272002 1).bind fun bt298 => ((laws_markDyadic.f k x278000 x278001 x278002 bt298.1).bind fun bt300 => (if bt300.1 < 0 then (laws_FnExactMultiplyDyadics.j1 k x7 true x246000 x246001 x246002 x247000 x247001 x247002 x266000 x266001 x266002 x285000 x285001 x285002) else ((laws_eqDyadic.f k x285000 x285001 x285002 x266000 x266001 x266002).bind fun t302 => (if t302 = true then (laws_FnExactMultiplyDyadics.j1 k x7 (x11 != x7) x246000 x246001 x246002 x247000 x247001 x247002 x266000 x266001 x266002 x285000 x285001 x285002) else (laws_FnExactMultiplyDyadics.j1 k x7 true x246000 x246001 x246002 x247000 x247001 x247002 x266000 x266001 x266002 x285000 x285001 x285002)))))) else (some false)))) else (some false))))
def laws_FnExactMultiplyDyadics.j1 : Nat → Int → Bool → Int → List Int → Int → Int → List Int → Int → Int → List Int → Int → Int → List Int → Int → Option (Bool)
  | 0, _, _, _, _, _, _, _, _, _, _, _, _, _, _ => none
  | k + 1, x7, x82, x246000, x246001, x246002, x247000, x247001, x247002, x266000, x266001, x266002, x285000, x285001, x285002 => if x82 = true then (some false) else ((laws_markDyadic.f k x285000 x285001 x285002 1).bind fun bt303 => ((laws_heldDyadic.f k x285000 bt303.2 x285002 1).bind fun t305 => (if t305 < 0 then (some false) else (if t305 = bt303.1 then ((laws_toDyadic.f k x246000 x246001 x246002).bind fun bt306 => ((laws_toDyadic.f k x247000 x247001 x247002).bind fun bt311 => ((impl_MultiplyDyadics.f bt306.1 bt306.2.1 bt306.2.2 bt311.1 bt311.2.1 bt311.2.2).bind fun bt316 => ((laws_eqDyadic.f k bt316.1 bt316.2.1 bt316.2.2.1 x266000 x266001 x266002).bind fun t323 => (if t323 = true then (laws_FnExactMultiplyDyadics.j2 k bt303.1 (bt316.2.2.2 != x7) x285000 bt303.2 x285002) else (laws_FnExactMultiplyDyadics.j2 k bt303.1 true x285000 bt303.2 x285002)))))) else (some false)))))
def laws_FnExactMultiplyDyadics.j2 : Nat → Int → Bool → Int → List Int → Int → Option (Bool)
  | 0, _, _, _, _, _ => none
  | k + 1, x13, x110, x285000, x285001, x285002 => if x110 = true then (some false) else ((laws_heldDyadic.f k x285000 x285001 x285002 1).bind fun t324 => (if t324 < 0 then (some false) else (if t324 = x13 then (some true) else (some false))))
end
def laws_FnExactMultiplyDyadics.f (k : Nat) (a0_0 : Int) (l0_1 : List Int) (a0_2 : Int) (a1_0 : Int) (l1_1 : List Int) (a1_2 : Int) : Option (Bool) := (laws_szDyadic.f a0_0 l0_1 a0_2 1048576).bind fun t247 => (if t247 < 0 then (some true) else ((laws_szDyadic.f a1_0 l1_1 a1_2 t247).bind fun t248 => (if t248 < 0 then (some true) else ((laws_toDyadic.f k a0_0 l0_1 a0_2).bind fun bt249 => ((laws_toDyadic.f k a1_0 l1_1 a1_2).bind fun bt254 => ((spec_MultiplyDyadics.f k bt249.1 bt249.2.1 bt249.2.2 bt254.1 bt254.2.1 bt254.2.2).bind fun bt259 => ((laws_toDyadic.f k a0_0 l0_1 a0_2).bind fun bt266 => ((laws_toDyadic.f k a1_0 l1_1 a1_2).bind fun bt272 => ((impl_MultiplyDyadics.f bt266.1 bt266.2.1 bt266.2.2 bt272.1 bt272.2.1 bt272.2.2).bind fun bt278 => ((laws_eqDyadic.f k bt278.1 bt278.2.1 bt278.2.2.1 bt259.1 bt259.2.1 bt259.2.2.1).bind fun t285 => (if t285 = true then (laws_FnExactMultiplyDyadics.j0 k bt259.2.2.2 bt278.2.2.2 (bt278.2.2.2 != bt259.2.2.2) a0_0 l0_1 a0_2 a1_0 l1_1 a1_2 bt259.1 bt259.2.1 bt259.2.2.1 bt266.1 bt266.2.1 bt266.2.2 bt272.1 bt272.2.1 bt272.2.2 bt278.1 bt278.2.1 bt278.2.2.1) else (laws_FnExactMultiplyDyadics.j0 k bt259.2.2.2 bt278.2.2.2 true a0_0 l0_1 a0_2 a1_0 l1_1 a1_2 bt259.1 bt259.2.1 bt259.2.2.1 bt266.1 bt266.2.1 bt266.2.2 bt272.1 bt272.2.1 bt272.2.2 bt278.1 bt278.2.1 bt278.2.2.1))))))))))))
theorem laws_FnExactMultiplyDyadics.mono_l : ∀ k, (∀ y0 y1 y2 y3 y4 y5 y6 y7 y8 y9 y10 y11 y12 y13 y14 y15 y16 y17 y18 y19 y20, LeO (laws_FnExactMultiplyDyadics.j0 k y0 y1 y2 y3 y4 y5 y6 y7 y8 y9 y10 y11 y12 y13 y14 y15 y16 y17 y18 y19 y20) (laws_FnExactMultiplyDyadics.j0 (k + 1) y0 y1 y2 y3 y4 y5 y6 y7 y8 y9 y10 y11 y12 y13 y14 y15 y16 y17 y18 y19 y20)) ∧ (∀ y0 y1 y2 y3 y4 y5 y6 y7 y8 y9 y10 y11 y12 y13, LeO (laws_FnExactMultiplyDyadics.j1 k y0 y1 y2 y3 y4 y5 y6 y7 y8 y9 y10 y11 y12 y13) (laws_FnExactMultiplyDyadics.j1 (k + 1) y0 y1 y2 y3 y4 y5 y6 y7 y8 y9 y10 y11 y12 y13)) ∧ (∀ y0 y1 y2 y3 y4, LeO (laws_FnExactMultiplyDyadics.j2 k y0 y1 y2 y3 y4) (laws_FnExactMultiplyDyadics.j2 (k + 1) y0 y1 y2 y3 y4))
  | 0 => ⟨fun _ _ _ _ _ _ _ _ _ _ _ _ _ _ _ _ _ _ _ _ _ r h => by simp [laws_FnExactMultiplyDyadics.j0] at h, fun _ _ _ _ _ _ _ _ _ _ _ _ _ _ r h => by simp [laws_FnExactMultiplyDyadics.j1] at h, fun _ _ _ _ _ r h => by simp [laws_FnExactMultiplyDyadics.j2] at h⟩
  | k + 1 => by
    obtain ⟨ih0, ih1, ih2⟩ := laws_FnExactMultiplyDyadics.mono_l k
    refine ⟨?_, ?_, ?_⟩
    · intro y0 y1 y2 y3 y4 y5 y6 y7 y8 y9 y10 y11 y12 y13 y14 y15 y16 y17 y18 y19 y20
      unfold laws_FnExactMultiplyDyadics.j0
      repeat' first
      | (with_reducible exact ih0 _ _ _ _ _ _ _ _ _ _ _ _ _ _ _ _ _ _ _ _ _)
      | (with_reducible exact ih1 _ _ _ _ _ _ _ _ _ _ _ _ _ _)
      | (with_reducible exact ih2 _ _ _ _ _)
      | (with_reducible exact laws_eqDyadic.mono _ _ _ _ _ _ _)
      | (with_reducible exact laws_heldDyadic.mono _ _ _ _ _)
      | (with_reducible exact laws_markDyadic.mono _ _ _ _ _)
      | (with_reducible exact laws_toDyadic.mono _ _ _ _)
      | (with_reducible exact spec_MultiplyDyadics.mono _ _ _ _ _ _ _)
      | (with_reducible exact LeO.refl _)
      | (with_reducible exact LeO.none _)
      | (with_reducible refine LeO.ite ?_ ?_)
      | (with_reducible refine LeO.bind ?_ (fun _ => ?_))
      | exact ih0 _ _ _ _ _ _ _ _ _ _ _ _ _ _ _ _ _ _ _ _ _
      | exact ih1 _ _ _ _ _ _ _ _ _ _ _ _ _ _
      | exact ih2 _ _ _ _ _
      | exact laws_eqDyadic.mono _ _ _ _ _ _ _
      | exact laws_heldDyadic.mono _ _ _ _ _
      | exact laws_markDyadic.mono _ _ _ _ _
      | exact laws_toDyadic.mono _ _ _ _
      | exact spec_MultiplyDyadics.mono _ _ _ _ _ _ _
      | exact LeO.none _
      | refine LeO.ite ?_ ?_
      | refine LeO.bind ?_ (fun _ => ?_)
    · intro y0 y1 y2 y3 y4 y5 y6 y7 y8 y9 y10 y11 y12 y13
      unfold laws_FnExactMultiplyDyadics.j1
      repeat' first
      | (with_reducible exact ih0 _ _ _ _ _ _ _ _ _ _ _ _ _ _ _ _ _ _ _ _ _)
      | (with_reducible exact ih1 _ _ _ _ _ _ _ _ _ _ _ _ _ _)
      | (with_reducible exact ih2 _ _ _ _ _)
      | (with_reducible exact laws_eqDyadic.mono _ _ _ _ _ _ _)
      | (with_reducible exact laws_heldDyadic.mono _ _ _ _ _)
      | (with_reducible exact laws_markDyadic.mono _ _ _ _ _)
      | (with_reducible exact laws_toDyadic.mono _ _ _ _)
      | (with_reducible exact spec_MultiplyDyadics.mono _ _ _ _ _ _ _)
      | (with_reducible exact LeO.refl _)
      | (with_reducible exact LeO.none _)
      | (with_reducible refine LeO.ite ?_ ?_)
      | (with_reducible refine LeO.bind ?_ (fun _ => ?_))
      | exact ih0 _ _ _ _ _ _ _ _ _ _ _ _ _ _ _ _ _ _ _ _ _
      | exact ih1 _ _ _ _ _ _ _ _ _ _ _ _ _ _
      | exact ih2 _ _ _ _ _
      | exact laws_eqDyadic.mono _ _ _ _ _ _ _
      | exact laws_heldDyadic.mono _ _ _ _ _
      | exact laws_markDyadic.mono _ _ _ _ _
      | exact laws_toDyadic.mono _ _ _ _
      | exact spec_MultiplyDyadics.mono _ _ _ _ _ _ _
      | exact LeO.none _
      | refine LeO.ite ?_ ?_
      | refine LeO.bind ?_ (fun _ => ?_)
    · intro y0 y1 y2 y3 y4
      unfold laws_FnExactMultiplyDyadics.j2
      repeat' first
      | (with_reducible exact ih0 _ _ _ _ _ _ _ _ _ _ _ _ _ _ _ _ _ _ _ _ _)
      | (with_reducible exact ih1 _ _ _ _ _ _ _ _ _ _ _ _ _ _)
      | (with_reducible exact ih2 _ _ _ _ _)
      | (with_reducible exact laws_eqDyadic.mono _ _ _ _ _ _ _)
      | (with_reducible exact laws_heldDyadic.mono _ _ _ _ _)
      | (with_reducible exact laws_markDyadic.mono _ _ _ _ _)
      | (with_reducible exact laws_toDyadic.mono _ _ _ _)
      | (with_reducible exact spec_MultiplyDyadics.mono _ _ _ _ _ _ _)
      | (with_reducible exact LeO.refl _)
      | (with_reducible exact LeO.none _)
      | (with_reducible refine LeO.ite ?_ ?_)
      | (with_reducible refine LeO.bind ?_ (fun _ => ?_))
      | exact ih0 _ _ _ _ _ _ _ _ _ _ _ _ _ _ _ _ _ _ _ _ _
      | exact ih1 _ _ _ _ _ _ _ _ _ _ _ _ _ _
      | exact ih2 _ _ _ _ _
      | exact laws_eqDyadic.mono _ _ _ _ _ _ _
      | exact laws_heldDyadic.mono _ _ _ _ _
      | exact laws_markDyadic.mono _ _ _ _ _
      | exact laws_toDyadic.mono _ _ _ _
      | exact spec_MultiplyDyadics.mono _ _ _ _ _ _ _
      | exact LeO.none _
      | refine LeO.ite ?_ ?_
      | refine LeO.bind ?_ (fun _ => ?_)
theorem laws_FnExactMultiplyDyadics.mono : ∀ a0 a1 a2 a3 a4 a5 k, LeO (laws_FnExactMultiplyDyadics.f k a0 a1 a2 a3 a4 a5) (laws_FnExactMultiplyDyadics.f (k + 1) a0 a1 a2 a3 a4 a5) := by
  intro a0 a1 a2 a3 a4 a5 k
  obtain ⟨ih0, ih1, ih2⟩ := laws_FnExactMultiplyDyadics.mono_l k
  unfold laws_FnExactMultiplyDyadics.f
  repeat' first
      | (with_reducible exact ih0 _ _ _ _ _ _ _ _ _ _ _ _ _ _ _ _ _ _ _ _ _)
      | (with_reducible exact ih1 _ _ _ _ _ _ _ _ _ _ _ _ _ _)
      | (with_reducible exact ih2 _ _ _ _ _)
      | (with_reducible exact laws_eqDyadic.mono _ _ _ _ _ _ _)
      | (with_reducible exact laws_heldDyadic.mono _ _ _ _ _)
      | (with_reducible exact laws_markDyadic.mono _ _ _ _ _)
      | (with_reducible exact laws_toDyadic.mono _ _ _ _)
      | (with_reducible exact spec_MultiplyDyadics.mono _ _ _ _ _ _ _)
      | (with_reducible exact LeO.refl _)
      | (with_reducible exact LeO.none _)
      | (with_reducible refine LeO.ite ?_ ?_)
      | (with_reducible refine LeO.bind ?_ (fun _ => ?_))
      | exact ih0 _ _ _ _ _ _ _ _ _ _ _ _ _ _ _ _ _ _ _ _ _
      | exact ih1 _ _ _ _ _ _ _ _ _ _ _ _ _ _
      | exact ih2 _ _ _ _ _
      | exact laws_eqDyadic.mono _ _ _ _ _ _ _
      | exact laws_heldDyadic.mono _ _ _ _ _
      | exact laws_markDyadic.mono _ _ _ _ _
      | exact laws_toDyadic.mono _ _ _ _
      | exact spec_MultiplyDyadics.mono _ _ _ _ _ _ _
      | exact LeO.none _
      | refine LeO.ite ?_ ?_
      | refine LeO.bind ?_ (fun _ => ?_)
def laws_FnExactMultiplyDyadics.T8 : Bool × List (List Nat × List Nat) := (true, [([], []), ([0], [0]), ([], []), ([2, 1], [2]), ([1, 3, 3], [1, 3]), ([4], [4]), ([5], [5]), ([5], [5]), ([], []), ([8, 6, 4, 0, 1, 2, 3, 4, 5, 6, 8], [6, 8]), ([7, 9, 0, 1, 2, 3, 4, 5, 6, 7, 8, 9], [7])])
def laws_FnExactMultiplyDyadics.B8 : List Nat := [0, 1, 0, 7, 15, 31, 63, 63, 0, 383, 1023]
theorem laws_FnExactMultiplyDyadics.tab8 : rtab .any (opsOf Tryd.f8 8) = laws_FnExactMultiplyDyadics.T8 := by kernel_rfl
theorem laws_FnExactMultiplyDyadics.bits8 : waitsOk laws_FnExactMultiplyDyadics.T8.2 laws_FnExactMultiplyDyadics.B8 = true := by kernel_rfl
def laws_FnExactMultiplyDyadics.T31 : Bool × List (List Nat × List Nat) := (true, [([], []), ([0], [0]), ([], []), ([2, 1], [2]), ([1, 3, 3], [1, 3]), ([4], [4]), ([5], [5]), ([5], [5]), ([], []), ([8, 6, 4, 0, 1, 2, 3, 4, 5, 6, 8], [6, 8]), ([7, 9, 0, 1, 2, 3, 4, 5, 6, 7, 8, 9], [7])])
def laws_FnExactMultiplyDyadics.B31 : List Nat := [0, 1, 0, 7, 15, 31, 63, 63, 0, 383, 1023]
theorem laws_FnExactMultiplyDyadics.tab31 : rtab .any (opsOf Tryd.f8 31) = laws_FnExactMultiplyDyadics.T31 := by kernel_rfl
theorem laws_FnExactMultiplyDyadics.bits31 : waitsOk laws_FnExactMultiplyDyadics.T31.2 laws_FnExactMultiplyDyadics.B31 = true := by kernel_rfl
set_option maxHeartbeats 8000000 in
set_option maxRecDepth 100000 in
theorem laws_FnExactMultiplyDyadics.calls (k : Nat) (a0_0 : Int) (A0_1 : Option Addr) (c0_1 : Nat) (l0_1 : List Int) (a0_2 : Int) (a1_0 : Int) (A1_1 : Option Addr) (c1_1 : Nat) (l1_1 : List Int) (a1_2 : Int) (r : Bool) (w : World) (hr0_1 : Kd.C (Kd.int .i64) w A0_1 l0_1.length l0_1) (hc0_1 : l0_1.length ≤ c0_1) (hr1_1 : Kd.C (Kd.int .i64) w A1_1 l1_1.length l1_1) (hc1_1 : l1_1.length ≤ c1_1) (hT : Go.Proofs.YthddlechoibdkaaDoor.Big.Tab w) (h : laws_FnExactMultiplyDyadics.f k a0_0 l0_1 a0_2 a1_0 l1_1 a1_2 = some r) :
  Calls Tryd.prog 8 #[.agg #[.int .i64 a0_0, .slice A0_1 l0_1.length c0_1, .int .i64 a0_2], .agg #[.int .i64 a1_0, .slice A1_1 l1_1.length c1_1, .int .i64 a1_2]] w fun e w' => e = .returned (.bool r) ∧ Below w.heap.size w w' := by
 have HTab := Aside0.mk hT; clear hT
 have hu26 := Tryd.underlying26; have hu30 := Tryd.underlying30; have HR0_1 := Aside0.mk hr0_1; have HC0_1 := Aside0.mk hc0_1; clear hr0_1 hc0_1; have HR1_1 := Aside0.mk hr1_1; have HC1_1 := Aside0.mk hc1_1; clear hr1_1 hc1_1; have HB := am_ (Below.refl w.heap.size w)
 have H : ((laws_szDyadic.f a0_0 l0_1 a0_2 1048576).bind fun t247 => (if t247 < 0 then (some true) else ((laws_szDyadic.f a1_0 l1_1 a1_2 t247).bind fun t248 => (if t248 < 0 then (some true) else ((laws_toDyadic.f k a0_0 l0_1 a0_2).bind fun bt249 => ((laws_toDyadic.f k a1_0 l1_1 a1_2).bind fun bt254 => ((spec_MultiplyDyadics.f k bt249.1 bt249.2.1 bt249.2.2 bt254.1 bt254.2.1 bt254.2.2).bind fun bt259 => ((laws_toDyadic.f k a0_0 l0_1 a0_2).bind fun bt266 => ((laws_toDyadic.f k a1_0 l1_1 a1_2).bind fun bt272 => ((impl_MultiplyDyadics.f bt266.1 bt266.2.1 bt266.2.2 bt272.1 bt272.2.1 bt272.2.2).bind fun bt278 => ((laws_eqDyadic.f k bt278.1 bt278.2.1 bt278.2.2.1 bt259.1 bt259.2.1 bt259.2.2.1).bind fun t285 => (if t285 = true then (laws_FnExactMultiplyDyadics.j0 k bt259.2.2.2 bt278.2.2.2 (bt278.2.2.2 != bt259.2.2.2) a0_0 l0_1 a0_2 a1_0 l1_1 a1_2 bt259.1 bt259.2.1 bt259.2.2.1 bt266.1 bt266.2.1 bt266.2.2 bt272.1 bt272.2.1 bt272.2.2 bt278.1 bt278.2.1 bt278.2.2.1) else (laws_FnExactMultiplyDyadics.j0 k bt259.2.2.2 bt278.2.2.2 true a0_0 l0_1 a0_2 a1_0 l1_1 a1_2 bt259.1 bt259.2.1 bt259.2.2.1 bt266.1 bt266.2.1 bt266.2.2 bt272.1 bt272.2.1 bt272.2.2 bt278.1 bt278.2.1 bt278.2.2.1))))))))))))) = some r := h
 clear h
 replace H := Option.bind_eq_some_iff.mp H
 obtain ⟨t247, A30, H⟩ := H
 replace H : (if t247 < 0 then (some true) else ((laws_szDyadic.f a1_0 l1_1 a1_2 t247).bind fun t248 => (if t248 < 0 then (some true) else ((laws_toDyadic.f k a0_0 l0_1 a0_2).bind fun bt249 => ((laws_toDyadic.f k a1_0 l1_1 a1_2).bind fun bt254 => ((spec_MultiplyDyadics.f k bt249.1 bt249.2.1 bt249.2.2 bt254.1 bt254.2.1 bt254.2.2).bind fun bt259 => ((laws_toDyadic.f k a0_0 l0_1 a0_2).bind fun bt266 => ((laws_toDyadic.f k a1_0 l1_1 a1_2).bind fun bt272 => ((impl_MultiplyDyadics.f bt266.1 bt266.2.1 bt266.2.2 bt272.1 bt272.2.1 bt272.2.2).bind fun bt278 => ((laws_eqDyadic.f k bt278.1 bt278.2.1 bt278.2.2.1 bt259.1 bt259.2.1 bt259.2.2.1).bind fun t285 => (if t285 = true then (laws_FnExactMultiplyDyadics.j0 k bt259.2.2.2 bt278.2.2.2 (bt278.2.2.2 != bt259.2.2.2) a0_0 l0_1 a0_2 a1_0 l1_1 a1_2 bt259.1 bt259.2.1 bt259.2.2.1 bt266.1 bt266.2.1 bt266.2.2 bt272.1 bt272.2.1 bt272.2.2 bt278.1 bt278.2.1 bt278.2.2.1) else (laws_FnExactMultiplyDyadics.j0 k bt259.2.2.2 bt278.2.2.2 true a0_0 l0_1 a0_2 a1_0 l1_1 a1_2 bt259.1 bt259.2.1 bt259.2.2.1 bt266.1 bt266.2.1 bt266.2.2 bt272.1 bt272.2.1 bt272.2.2 bt278.1 bt278.2.1 bt278.2.2.1)))))))))))) = some r := H
 have A3 := Aside0.mk A30; clear A30
 by_cases c4 : t247 < 0
 ·rw [if_pos c4] at H
  have c4b0 : decide (t247 < 0) = true := decide_eq_true c4
  clear c4; obtain rfl := Option.some.inj H
  go_enter Tryd.func8, Tryd.ntmps8
  go_wp2_with (first | ((with_reducible refine gate_dst (N := 2) rfl ?_); refine box_event ?hg (N := 2) ?hd (cs := #[.int .i64 a0_0, .slice A0_1 l0_1.length c0_1, .int .i64 a0_2]) (t := 26) ?hr ?_; (case hd => rfl); (case hg => rfl); (case hr => first | (go_simp; done) | (go_simp; rfl)); intro gb245 hg w5 hbox hb; have BK245 := am_ (hbox); have GW245 := am_ (gs_ hg HB); have GE245 := am_ (gs_ hg HB); replace HB := am_ (below_step (bl_ HB) hb); clear hb hbox hg) | ((with_reducible refine gate_dst (N := 3) rfl ?_); refine box_event ?hg (N := 3) ?hd (cs := #[.int .i64 a1_0, .slice A1_1 l1_1.length c1_1, .int .i64 a1_2]) (t := 26) ?hr ?_; (case hd => rfl); (case hg => rfl); (case hr => first | (go_simp; done) | (go_simp; rfl)); intro gb246 hg w6 hbox hb; have BK246 := am_ (hbox); have GW246 := am_ (gs_ hg HB); have GE246 := am_ (gs_ hg HB); have NB245_246 := am_ (nl_ hg BK245); have NB246_245 := am_ (ng_ hg BK245); replace BK245 := am_ (blk_below (bk_ BK245) hb); replace HB := am_ (below_step (bl_ HB) hb); clear hb hbox hg; have hnb7 := NB245_246.out; have hnc7 := NB246_245.out; have hcz8_0 : w6.cell? ⟨gb245, 0, none⟩ = some (.int .i64 a0_0) := bc_ BK245 0; have hcz8_1 : w6.cell? ⟨gb245, 1, none⟩ = some (.slice A0_1 l0_1.length c0_1) := bc_ BK245 1; have hcz8_2 : w6.cell? ⟨gb245, 2, none⟩ = some (.int .i64 a0_2) := bc_ BK245 2; have hfz8_0 := blk_frozen BK245.out 0; have hfz8_1 := blk_frozen BK245.out 1; have hfz8_2 := blk_frozen BK245.out 2) | ((with_reducible refine gate_callee (f := 11) rfl ?_); refine goesL_ (some 19) rfl rfl Tryd.func11 (by kernel_rfl) rfl #[.agg #[.int .i64 a0_0, .slice A0_1 l0_1.length c0_1, .int .i64 a0_2], .int .i64 1048576] rfl ma_ ?_; (with_reducible refine (laws_szDyadic.calls a0_0 _ _ l0_1 a0_2 1048576 t247 _ ?side1 ?side2 A3.out).mono ?_); (case side1 => exact cb_ HR0_1 HB); (case side2 => exact HC0_1.out); rintro e w9 ⟨rfl, hb⟩; refine ⟨_, rfl, ?_⟩; replace BK245 := am_ (blk_below (bk_ BK245) hb); replace BK246 := am_ (blk_below (bk_ BK246) hb); replace HB := am_ (below_step (bl_ HB) hb); (try clear hb); (try clear hb2); (try clear hk); (try clear hi)))
  go_ret
  exact ⟨by first | rfl | (simp [errW_none, errW_some] <;> rfl) | (simp [*, errW_none, errW_some] <;> rfl), bl_ HB⟩
 ·rw [if_neg c4] at H
  have c4b0 : decide (t247 < 0) = false := decide_eq_false c4
  clear c4
  replace H := Option.bind_eq_some_iff.mp H
  obtain ⟨t248, A100, H⟩ := H
  replace H : (if t248 < 0 then (some true) else ((laws_toDyadic.f k a0_0 l0_1 a0_2).bind fun bt249 => ((laws_toDyadic.f k a1_0 l1_1 a1_2).bind fun bt254 => ((spec_MultiplyDyadics.f k bt249.1 bt249.2.1 bt249.2.2 bt254.1 bt254.2.1 bt254.2.2).bind fun bt259 => ((laws_toDyadic.f k a0_0 l0_1 a0_2).bind fun bt266 => ((laws_toDyadic.f k a1_0 l1_1 a1_2).bind fun bt272 => ((impl_MultiplyDyadics.f bt266.1 bt266.2.1 bt266.2.2 bt272.1 bt272.2.1 bt272.2.2).bind fun bt278 => ((laws_eqDyadic.f k bt278.1 bt278.2.1 bt278.2.2.1 bt259.1 bt259.2.1 bt259.2.2.1).bind fun t285 => (if t285 = true then (laws_FnExactMultiplyDyadics.j0 k bt259.2.2.2 bt278.2.2.2 (bt278.2.2.2 != bt259.2.2.2) a0_0 l0_1 a0_2 a1_0 l1_1 a1_2 bt259.1 bt259.2.1 bt259.2.2.1 bt266.1 bt266.2.1 bt266.2.2 bt272.1 bt272.2.1 bt272.2.2 bt278.1 bt278.2.1 bt278.2.2.1) else (laws_FnExactMultiplyDyadics.j0 k bt259.2.2.2 bt278.2.2.2 true a0_0 l0_1 a0_2 a1_0 l1_1 a1_2 bt259.1 bt259.2.1 bt259.2.2.1 bt266.1 bt266.2.1 bt266.2.2 bt272.1 bt272.2.1 bt272.2.2 bt278.1 bt278.2.1 bt278.2.2.1)))))))))) = some r := H
  have A10 := Aside0.mk A100; clear A100
  by_cases c11 : t248 < 0
  ·rw [if_pos c11] at H
   have c11b0 : decide (t248 < 0) = true := decide_eq_true c11
   clear c11; obtain rfl := Option.some.inj H
   go_enter Tryd.func8, Tryd.ntmps8
   go_wp2_with (first | ((with_reducible refine gate_dst (N := 2) rfl ?_); refine box_event ?hg (N := 2) ?hd (cs := #[.int .i64 a0_0, .slice A0_1 l0_1.length c0_1, .int .i64 a0_2]) (t := 26) ?hr ?_; (case hd => rfl); (case hg => rfl); (case hr => first | (go_simp; done) | (go_simp; rfl)); intro gb245 hg w12 hbox hb; have BK245 := am_ (hbox); have GW245 := am_ (gs_ hg HB); have GE245 := am_ (gs_ hg HB); replace HB := am_ (below_step (bl_ HB) hb); clear hb hbox hg) | ((with_reducible refine gate_dst (N := 3) rfl ?_); refine box_event ?hg (N := 3) ?hd (cs := #[.int .i64 a1_0, .slice A1_1 l1_1.length c1_1, .int .i64 a1_2]) (t := 26) ?hr ?_; (case hd => rfl); (case hg => rfl); (case hr => first | (go_simp; done) | (go_simp; rfl)); intro gb246 hg w13 hbox hb; have BK246 := am_ (hbox); have GW246 := am_ (gs_ hg HB); have GE246 := am_ (gs_ hg HB); have NB245_246 := am_ (nl_ hg BK245); have NB246_245 := am_ (ng_ hg BK245); replace BK245 := am_ (blk_below (bk_ BK245) hb); replace HB := am_ (below_step (bl_ HB) hb); clear hb hbox hg; have hnb14 := NB245_246.out; have hnc14 := NB246_245.out; have hcz15_0 : w13.cell? ⟨gb245, 0, none⟩ = some (.int .i64 a0_0) := bc_ BK245 0; have hcz15_1 : w13.cell? ⟨gb245, 1, none⟩ = some (.slice A0_1 l0_1.length c0_1) := bc_ BK245 1; have hcz15_2 : w13.cell? ⟨gb245, 2, none⟩ = some (.int .i64 a0_2) := bc_ BK245 2; have hfz15_0 := blk_frozen BK245.out 0; have hfz15_1 := blk_frozen BK245.out 1; have hfz15_2 := blk_frozen BK245.out 2) | ((with_reducible refine gate_callee (f := 11) rfl ?_); refine goesL_ (some 19) rfl rfl Tryd.func11 (by kernel_rfl) rfl #[.agg #[.int .i64 a0_0, .slice A0_1 l0_1.length c0_1, .int .i64 a0_2], .int .i64 1048576] rfl ma_ ?_; (with_reducible refine (laws_szDyadic.calls a0_0 _ _ l0_1 a0_2 1048576 t247 _ ?side1 ?side2 A3.out).mono ?_); (case side1 => exact cb_ HR0_1 HB); (case side2 => exact HC0_1.out); rintro e w16 ⟨rfl, hb⟩; refine ⟨_, rfl, ?_⟩; replace BK245 := am_ (blk_below (bk_ BK245) hb); replace BK246 := am_ (blk_below (bk_ BK246) hb); replace HB := am_ (below_step (bl_ HB) hb); (try clear hb); (try clear hb2); (try clear hk); (try clear hi); have hcz17_0 : w16.cell? ⟨gb246, 0, none⟩ = some (.int .i64 a1_0) := bc_ BK246 0; have hcz17_1 : w16.cell? ⟨gb246, 1, none⟩ = some (.slice A1_1 l1_1.length c1_1) := bc_ BK246 1; have hcz17_2 : w16.cell? ⟨gb246, 2, none⟩ = some (.int .i64 a1_2) := bc_ BK246 2; have hfz17_0 := blk_frozen BK246.out 0; have hfz17_1 := blk_frozen BK246.out 1; have hfz17_2 := blk_frozen BK246.out 2) | ((with_reducible refine gate_callee (f := 11) rfl ?_); refine goesL_ (some 24) rfl rfl Tryd.func11 (by kernel_rfl) rfl #[.agg #[.int .i64 a1_0, .slice A1_1 l1_1.length c1_1, .int .i64 a1_2], .int .i64 t247] rfl ma_ ?_; (with_reducible refine (laws_szDyadic.calls a1_0 _ _ l1_1 a1_2 t247 t248 _ ?side1 ?side2 A10.out).mono ?_); (case side1 => exact cb_ HR1_1 HB); (case side2 => exact HC1_1.out); rintro e w18 ⟨rfl, hb⟩; refine ⟨_, rfl, ?_⟩; replace BK245 := am_ (blk_below (bk_ BK245) hb); replace BK246 := am_ (blk_below (bk_ BK246) hb); replace HB := am_ (below_step (bl_ HB) hb); (try clear hb); (try clear hb2); (try clear hk); (try clear hi)))
   go_ret
   exact ⟨by first | rfl | (simp [errW_none, errW_some] <;> rfl) | (simp [*, errW_none, errW_some] <;> rfl), bl_ HB⟩
  ·rw [if_neg c11] at H
   have c11b0 : decide (t248 < 0) = false := decide_eq_false c11
   clear c11
   replace H := Option.bind_eq_some_iff.mp H
   obtain ⟨⟨t249, t250, t253⟩, A190, H⟩ := H
   replace H : ((laws_toDyadic.f k a1_0 l1_1 a1_2).bind fun bt254 => ((spec_MultiplyDyadics.f k t249 t250 t253 bt254.1 bt254.2.1 bt254.2.2).bind fun bt259 => ((laws_toDyadic.f k a0_0 l0_1 a0_2).bind fun bt266 => ((laws_toDyadic.f k a1_0 l1_1 a1_2).bind fun bt272 => ((impl_MultiplyDyadics.f bt266.1 bt266.2.1 bt266.2.2 bt272.1 bt272.2.1 bt272.2.2).bind fun bt278 => ((laws_eqDyadic.f k bt278.1 bt278.2.1 bt278.2.2.1 bt259.1 bt259.2.1 bt259.2.2.1).bind fun t285 => (if t285 = true then (laws_FnExactMultiplyDyadics.j0 k bt259.2.2.2 bt278.2.2.2 (bt278.2.2.2 != bt259.2.2.2) a0_0 l0_1 a0_2 a1_0 l1_1 a1_2 bt259.1 bt259.2.1 bt259.2.2.1 bt266.1 bt266.2.1 bt266.2.2 bt272.1 bt272.2.1 bt272.2.2 bt278.1 bt278.2.1 bt278.2.2.1) else (laws_FnExactMultiplyDyadics.j0 k bt259.2.2.2 bt278.2.2.2 true a0_0 l0_1 a0_2 a1_0 l1_1 a1_2 bt259.1 bt259.2.1 bt259.2.2.1 bt266.1 bt266.2.1 bt266.2.2 bt272.1 bt272.2.1 bt272.2.2 bt278.1 bt278.2.1 bt278.2.2.1)))))))) = some r := H
   have A19 := Aside0.mk A190; clear A190
   replace H := Option.bind_eq_some_iff.mp H
   obtain ⟨⟨t254, t255, t258⟩, A200, H⟩ := H
   replace H : ((spec_MultiplyDyadics.f k t249 t250 t253 t254 t255 t258).bind fun bt259 => ((laws_toDyadic.f k a0_0 l0_1 a0_2).bind fun bt266 => ((laws_toDyadic.f k a1_0 l1_1 a1_2).bind fun bt272 => ((impl_MultiplyDyadics.f bt266.1 bt266.2.1 bt266.2.2 bt272.1 bt272.2.1 bt272.2.2).bind fun bt278 => ((laws_eqDyadic.f k bt278.1 bt278.2.1 bt278.2.2.1 bt259.1 bt259.2.1 bt259.2.2.1).bind fun t285 => (if t285 = true then (laws_FnExactMultiplyDyadics.j0 k bt259.2.2.2 bt278.2.2.2 (bt278.2.2.2 != bt259.2.2.2) a0_0 l0_1 a0_2 a1_0 l1_1 a1_2 bt259.1 bt259.2.1 bt259.2.2.1 bt266.1 bt266.2.1 bt266.2.2 bt272.1 bt272.2.1 bt272.2.2 bt278.1 bt278.2.1 bt278.2.2.1) else (laws_FnExactMultiplyDyadics.j0 k bt259.2.2.2 bt278.2.2.2 true a0_0 l0_1 a0_2 a1_0 l1_1 a1_2 bt259.1 bt259.2.1 bt259.2.2.1 bt266.1 bt266.2.1 bt266.2.2 bt272.1 bt272.2.1 bt272.2.2 bt278.1 bt278.2.1 bt278.2.2.1))))))) = some r := H
   have A20 := Aside0.mk A200; clear A200
   replace H := Option.bind_eq_some_iff.mp H
   obtain ⟨⟨t259, t260, t263, t264⟩, A210, H⟩ := H
   replace H : ((laws_toDyadic.f k a0_0 l0_1 a0_2).bind fun bt266 => ((laws_toDyadic.f k a1_0 l1_1 a1_2).bind fun bt272 => ((impl_MultiplyDyadics.f bt266.1 bt266.2.1 bt266.2.2 bt272.1 bt272.2.1 bt272.2.2).bind fun bt278 => ((laws_eqDyadic.f k bt278.1 bt278.2.1 bt278.2.2.1 t259 t260 t263).bind fun t285 => (if t285 = true then (laws_FnExactMultiplyDyadics.j0 k t264 bt278.2.2.2 (bt278.2.2.2 != t264) a0_0 l0_1 a0_2 a1_0 l1_1 a1_2 t259 t260 t263 bt266.1 bt266.2.1 bt266.2.2 bt272.1 bt272.2.1 bt272.2.2 bt278.1 bt278.2.1 bt278.2.2.1) else (laws_FnExactMultiplyDyadics.j0 k t264 bt278.2.2.2 true a0_0 l0_1 a0_2 a1_0 l1_1 a1_2 t259 t260 t263 bt266.1 bt266.2.1 bt266.2.2 bt272.1 bt272.2.1 bt272.2.2 bt278.1 bt278.2.1 bt278.2.2.1)))))) = some r := H
   have A21 := Aside0.mk A210; clear A210
   replace H := Option.bind_eq_some_iff.mp H
   obtain ⟨⟨t266, t267, t270⟩, A220, H⟩ := H
   replace H : ((laws_toDyadic.f k a1_0 l1_1 a1_2).bind fun bt272 => ((impl_MultiplyDyadics.f t266 t267 t270 bt272.1 bt272.2.1 bt272.2.2).bind fun bt278 => ((laws_eqDyadic.f k bt278.1 bt278.2.1 bt278.2.2.1 t259 t260 t263).bind fun t285 => (if t285 = true then (laws_FnExactMultiplyDyadics.j0 k t264 bt278.2.2.2 (bt278.2.2.2 != t264) a0_0 l0_1 a0_2 a1_0 l1_1 a1_2 t259 t260 t263 t266 t267 t270 bt272.1 bt272.2.1 bt272.2.2 bt278.1 bt278.2.1 bt278.2.2.1) else (laws_FnExactMultiplyDyadics.j0 k t264 bt278.2.2.2 true a0_0 l0_1 a0_2 a1_0 l1_1 a1_2 t259 t260 t263 t266 t267 t270 bt272.1 bt272.2.1 bt272.2.2 bt278.1 bt278.2.1 bt278.2.2.1))))) = some r := H
   have A22 := Aside0.mk A220; clear A220
   replace H := Option.bind_eq_some_iff.mp H
   obtain ⟨⟨t272, t273, t276⟩, A230, H⟩ := H
   replace H : ((impl_MultiplyDyadics.f t266 t267 t270 t272 t273 t276).bind fun bt278 => ((laws_eqDyadic.f k bt278.1 bt278.2.1 bt278.2.2.1 t259 t260 t263).bind fun t285 => (if t285 = true then (laws_FnExactMultiplyDyadics.j0 k t264 bt278.2.2.2 (bt278.2.2.2 != t264) a0_0 l0_1 a0_2 a1_0 l1_1 a1_2 t259 t260 t263 t266 t267 t270 t272 t273 t276 bt278.1 bt278.2.1 bt278.2.2.1) else (laws_FnExactMultiplyDyadics.j0 k t264 bt278.2.2.2 true a0_0 l0_1 a0_2 a1_0 l1_1 a1_2 t259 t260 t263 t266 t267 t270 t272 t273 t276 bt278.1 bt278.2.1 bt278.2.2.1)))) = some r := H
   have A23 := Aside0.mk A230; clear A230
   replace H := Option.bind_eq_some_iff.mp H
   obtain ⟨⟨t278, t279, t282, t283⟩, A240, H⟩ := H
   replace H : ((laws_eqDyadic.f k t278 t279 t282 t259 t260 t263).bind fun t285 => (if t285 = true then (laws_FnExactMultiplyDyadics.j0 k t264 t283 (t283 != t264) a0_0 l0_1 a0_2 a1_0 l1_1 a1_2 t259 t260 t263 t266 t267 t270 t272 t273 t276 t278 t279 t282) else (laws_FnExactMultiplyDyadics.j0 k t264 t283 true a0_0 l0_1 a0_2 a1_0 l1_1 a1_2 t259 t260 t263 t266 t267 t270 t272 t273 t276 t278 t279 t282))) = some r := H
   have A24 := Aside0.mk A240; clear A240; have HC25 := Aside0.mk H; clear H
   go_enter Tryd.func8, Tryd.ntmps8
   try go_wp2_with (first | ((with_reducible refine gate_dst (N := 2) rfl ?_); refine box_event ?hg (N := 2) ?hd (cs := #[.int .i64 a0_0, .slice A0_1 l0_1.length c0_1, .int .i64 a0_2]) (t := 26) ?hr ?_; (case hd => rfl); (case hg => rfl); (case hr => first | (go_simp; done) | (go_simp; rfl)); intro gb245 hg w26 hbox hb; have BK245 := am_ (hbox); have GW245 := am_ (gs_ hg HB); have GE245 := am_ (gs_ hg HB); replace HB := am_ (below_step (bl_ HB) hb); clear hb hbox hg) | ((with_reducible refine gate_dst (N := 3) rfl ?_); refine box_event ?hg (N := 3) ?hd (cs := #[.int .i64 a1_0, .slice A1_1 l1_1.length c1_1, .int .i64 a1_2]) (t := 26) ?hr ?_; (case hd => rfl); (case hg => rfl); (case hr => first | (go_simp; done) | (go_simp; rfl)); intro gb246 hg w27 hbox hb; have BK246 := am_ (hbox); have GW246 := am_ (gs_ hg HB); have GE246 := am_ (gs_ hg HB); have NB245_246 := am_ (nl_ hg BK245); have NB246_245 := am_ (ng_ hg BK245); replace BK245 := am_ (blk_below (bk_ BK245) hb); replace HB := am_ (below_step (bl_ HB) hb); clear hb hbox hg; have hnb28 := NB245_246.out; have hnc28 := NB246_245.out; have hcz29_0 : w27.cell? ⟨gb245, 0, none⟩ = some (.int .i64 a0_0) := bc_ BK245 0; have hcz29_1 : w27.cell? ⟨gb245, 1, none⟩ = some (.slice A0_1 l0_1.length c0_1) := bc_ BK245 1; have hcz29_2 : w27.cell? ⟨gb245, 2, none⟩ = some (.int .i64 a0_2) := bc_ BK245 2; have hfz29_0 := blk_frozen BK245.out 0; have hfz29_1 := blk_frozen BK245.out 1; have hfz29_2 := blk_frozen BK245.out 2) | ((with_reducible refine gate_callee (f := 11) rfl ?_); refine goesL_ (some 19) rfl rfl Tryd.func11 (by kernel_rfl) rfl #[.agg #[.int .i64 a0_0, .slice A0_1 l0_1.length c0_1, .int .i64 a0_2], .int .i64 1048576] rfl ma_ ?_; (with_reducible refine (laws_szDyadic.calls a0_0 _ _ l0_1 a0_2 1048576 t247 _ ?side1 ?side2 A3.out).mono ?_); (case side1 => exact cb_ HR0_1 HB); (case side2 => exact HC0_1.out); rintro e w30 ⟨rfl, hb⟩; refine ⟨_, rfl, ?_⟩; replace BK245 := am_ (blk_below (bk_ BK245) hb); replace BK246 := am_ (blk_below (bk_ BK246) hb); replace HB := am_ (below_step (bl_ HB) hb); (try clear hb); (try clear hb2); (try clear hk); (try clear hi); have hcz31_0 : w30.cell? ⟨gb246, 0, none⟩ = some (.int .i64 a1_0) := bc_ BK246 0; have hcz31_1 : w30.cell? ⟨gb246, 1, none⟩ = some (.slice A1_1 l1_1.length c1_1) := bc_ BK246 1; have hcz31_2 : w30.cell? ⟨gb246, 2, none⟩ = some (.int .i64 a1_2) := bc_ BK246 2; have hfz31_0 := blk_frozen BK246.out 0; have hfz31_1 := blk_frozen BK246.out 1; have hfz31_2 := blk_frozen BK246.out 2) | ((with_reducible refine gate_callee (f := 11) rfl ?_); refine goesL_ (some 24) rfl rfl Tryd.func11 (by kernel_rfl) rfl #[.agg #[.int .i64 a1_0, .slice A1_1 l1_1.length c1_1, .int .i64 a1_2], .int .i64 t247] rfl ma_ ?_; (with_reducible refine (laws_szDyadic.calls a1_0 _ _ l1_1 a1_2 t247 t248 _ ?side1 ?side2 A10.out).mono ?_); (case side1 => exact cb_ HR1_1 HB); (case side2 => exact HC1_1.out); rintro e w32 ⟨rfl, hb⟩; refine ⟨_, rfl, ?_⟩; replace BK245 := am_ (blk_below (bk_ BK245) hb); replace BK246 := am_ (blk_below (bk_ BK246) hb); replace HB := am_ (below_step (bl_ HB) hb); (try clear hb); (try clear hb2); (try clear hk); (try clear hi)))
   have n0_ := am_ (blk_drew BK245.out); have n1_ := am_ (blk_drew BK246.out); have n2_ := am_ (below_drew1 HB.out); clear BK245 BK246 HB; have BK245 := n0_; have BK246 := n1_; have HB := n2_; clear n0_ n1_ n2_
   refine start_ (n := 11) (S := fun w' => w'.cell? ⟨gb245, 0, none⟩ = some (.int .i64 a0_0) ∧ w'.cell? ⟨gb245, 1, none⟩ = some (.slice A0_1 l0_1.length c0_1) ∧ w'.cell? ⟨gb245, 2, none⟩ = some (.int .i64 a0_2) ∧ w'.cell? ⟨gb246, 0, none⟩ = some (.int .i64 a1_0) ∧ w'.cell? ⟨gb246, 1, none⟩ = some (.slice A1_1 l1_1.length c1_1) ∧ w'.cell? ⟨gb246, 2, none⟩ = some (.int .i64 a1_2)) (ds := []) #[false, false, false, false, false, false, false, false, false, false, false] (by kernel_rfl) rfl rfl ⟨bc_ BK245 0, bc_ BK245 1, bc_ BK245 2, bc_ BK246 0, bc_ BK246 1, bc_ BK246 2⟩ (fun hHeld => ?_); refine with_tabW laws_FnExactMultiplyDyadics.tab8 laws_FnExactMultiplyDyadics.bits8 (fun HT_ HW_ => ?_)
   generalize w32.drew = w33 at BK245 BK246 HB hHeld ⊢
   refine take_ (i := 0) (N := some 28) (v := ?_) (a' := ?_) #[true, false, false, false, false, false, false, false, false, false, false] rfl rfl (take_ofW HT_.out HW_.out (by kernel_rfl)) (fun _ _ _ h => h) (Or.inl ⟨by rfl, ?_⟩) hHeld ?_ ?_
   rotate_left
   ·rintro w' ⟨s0, s1, s2, s3, s4, s5⟩
    go_simp
    with_reducible rfl
   rotate_left
   ·exact nm_
   refine take_ (i := 2) (N := some 30) (v := ?_) (a' := ?_) #[true, false, true, false, false, false, false, false, false, false, false] rfl rfl (take_ofW HT_.out HW_.out (by kernel_rfl)) (fun _ _ _ h => h) (Or.inl ⟨by rfl, ?_⟩) hHeld ?_ ?_
   rotate_left
   ·rintro w' ⟨s0, s1, s2, s3, s4, s5⟩
    go_simp
    with_reducible rfl
   rotate_left
   ·exact nm_
   refine join_ (σ := Value × Value × Value × Nat) 2 #[true, true, true, true, true, true, true, true, true, false, false] (fun s_ => [(29, .agg #[.int .i64 t249, s_.1, .int .i64 t253]), (31, .agg #[.int .i64 t254, s_.2.1, .int .i64 t258]), (32, .tuple #[.agg #[.int .i64 t259, s_.2.2.1, .int .i64 t263], .int .i64 t264]), (6, .pointer (some ⟨s_.2.2.2, 0, none⟩)), (27, .tuple #[.agg #[.int .i64 t259, s_.2.2.1, .int .i64 t263], .int .i64 t264]), (33, .agg #[.int .i64 t259, s_.2.2.1, .int .i64 t263]), (34, .int .i64 t264)]) (fun s_ w' => (w'.cell? ⟨gb245, 0, none⟩ = some (.int .i64 a0_0) ∧ w'.cell? ⟨gb245, 1, none⟩ = some (.slice A0_1 l0_1.length c0_1) ∧ w'.cell? ⟨gb245, 2, none⟩ = some (.int .i64 a0_2) ∧ w'.cell? ⟨gb246, 0, none⟩ = some (.int .i64 a1_0) ∧ w'.cell? ⟨gb246, 1, none⟩ = some (.slice A1_1 l1_1.length c1_1) ∧ w'.cell? ⟨gb246, 2, none⟩ = some (.int .i64 a1_2)) ∧ (Kd.R (Kd.int .i64) 2 w' w.heap.size (fun k_ => some k_ ≠ (s_.2.1 : Value).ownBlock ∧ some k_ ≠ (s_.2.2.1 : Value).ownBlock) s_.1 t250) ∧ (Kd.R (Kd.int .i64) 2 w' w.heap.size (fun k_ => some k_ ≠ (s_.1 : Value).ownBlock ∧ some k_ ≠ (s_.2.2.1 : Value).ownBlock) s_.2.1 t255) ∧ (Kd.R (Kd.int .i64) 2 w' w.heap.size (fun k_ => some k_ ≠ (s_.1 : Value).ownBlock ∧ some k_ ≠ (s_.2.1 : Value).ownBlock) s_.2.2.1 t260) ∧ (w'.heap[gb245]? = some (.cells #[.int .i64 a0_0, .slice A0_1 l0_1.length c0_1, .int .i64 a0_2] 26 (0, 0))) ∧ (w'.heap[gb246]? = some (.cells #[.int .i64 a1_0, .slice A1_1 l1_1.length c1_1, .int .i64 a1_2] 26 (0, 0))) ∧ (w'.heap[s_.2.2.2]? = some (.cells #[.int .i64 0, .slice none 0 0, .int .i64 0] 30 (0, 0))) ∧ (w.heap.size ≤ s_.2.2.2) ∧ (w.heap.size ≤ s_.2.2.2) ∧ (gb245 ≠ s_.2.2.2) ∧ (s_.2.2.2 ≠ gb245) ∧ (gb246 ≠ s_.2.2.2) ∧ (s_.2.2.2 ≠ gb246) ∧ (Below w.heap.size w w')) ?_ ?_
   rotate_left
   ·intro hCont
    refine two_ (i := 1) (j := 8) (Ni := some 29) (Nj := some 6) #[true, true, true, false, false, false, false, false, false, false, false] #[true, false, true, false, false, false, false, false, true, false, false] rfl rfl rfl rfl (two_of HT_.out (by kernel_rfl)) (by decide) (by decide) (fun K hK => ?_) (fun K hK => ?_)
    ·skip
     refine goes_ Tryd.func13 (by kernel_rfl) rfl #[.agg #[.int .i64 a0_0, .slice A0_1 l0_1.length c0_1, .int .i64 a0_2]] (by rfl) rfl rfl ma_ ?_
     with_reducible refine (laws_toDyadic.calls k a0_0 _ _ l0_1 a0_2 t249 t250 t253 _ ?side1 ?side2 A19.out).mono ?_
     (case side1 => exact cb_ HR0_1 HB)
     (case side2 => exact HC0_1.out)
     rintro e w34 ⟨v251, rfl, ho0, hb⟩
     refine ⟨_, rfl, ?_⟩
     have n0_ := am_ (Kd.R_lower ho0 (below_size (bl_ HB))); have n1_ := am_ (blk_below (bk_ BK245) hb); have n2_ := am_ (blk_below (bk_ BK246) hb); have n3_ := am_ (below_step (bl_ HB) hb); clear BK245 BK246 HB; have HO252 := n0_; have BK245 := n1_; have BK246 := n2_; have HB := n3_; clear n0_ n1_ n2_ n3_; (try clear hb); (try clear hb2); (try clear hk); (try clear hi); (try clear ho0)
     refine hK.out _ _ ⟨bc_ BK245 0, bc_ BK245 1, bc_ BK245 2, bc_ BK246 0, bc_ BK246 1, bc_ BK246 2⟩ (fun hHeld => ?_)
     clear hK K
     refine norm_ (a' := ?_) ?_ ?_
     rotate_left
     ·show Act.put _ (some 29) _ = _
      exact nm_
     refine two_ (i := 3) (j := 8) (Ni := some 31) (Nj := some 6) #[true, true, true, true, false, false, false, false, false, false, false] #[true, true, true, false, false, false, false, false, true, false, false] rfl rfl rfl rfl (two_of HT_.out (by kernel_rfl)) (by decide) (by decide) (fun K hK => ?_) (fun K hK => ?_)
     ·skip
      refine goes_ Tryd.func13 (by kernel_rfl) rfl #[.agg #[.int .i64 a1_0, .slice A1_1 l1_1.length c1_1, .int .i64 a1_2]] (by rfl) rfl rfl ma_ ?_
      with_reducible refine (laws_toDyadic.calls k a1_0 _ _ l1_1 a1_2 t254 t255 t258 _ ?side1 ?side2 A20.out).mono ?_
      (case side1 => exact cb_ HR1_1 HB)
      (case side2 => exact HC1_1.out)
      rintro e w35 ⟨v256, rfl, ho0, hb⟩
      refine ⟨_, rfl, ?_⟩
      have n0_ := am_ (Kd.R_elder' (kr_ HO252) (Kd.R_base ho0) hb); have n1_ := am_ (Kd.R_lower (Kd.R_new' ho0 (Kd.R_lt (kr_ HO252))) (below_size (bl_ HB))); have n2_ := am_ (blk_below (bk_ BK245) hb); have n3_ := am_ (blk_below (bk_ BK246) hb); have n4_ := am_ (below_step (bl_ HB) hb); clear HO252 BK245 BK246 HB; have HO252 := n0_; have HO257 := n1_; have BK245 := n2_; have BK246 := n3_; have HB := n4_; clear n0_ n1_ n2_ n3_ n4_; (try clear hb); (try clear hb2); (try clear hk); (try clear hi); (try clear ho0)
      obtain ⟨Ao36, co36, eo36⟩ := Kd.R_slice HO252.out
      (first | subst eo36 | (injection eo36 with f1_ f2_ f3_; have f4_ := f1_.symm; have f5_ := f3_.symm; clear f1_ f2_ f3_; subst f4_; subst f5_))
      obtain ⟨Ao37, co37, eo37⟩ := Kd.R_slice HO257.out
      (first | subst eo37 | (injection eo37 with f1_ f2_ f3_; have f4_ := f1_.symm; have f5_ := f3_.symm; clear f1_ f2_ f3_; subst f4_; subst f5_))
      refine hK.out _ _ ⟨bc_ BK245 0, bc_ BK245 1, bc_ BK245 2, bc_ BK246 0, bc_ BK246 1, bc_ BK246 2⟩ (fun hHeld => ?_)
      clear hK K
      refine norm_ (a' := ?_) ?_ ?_
      rotate_left
      ·show Act.put _ (some 31) _ = _
       exact nm_
      refine two_ (i := 4) (j := 8) (Ni := some 32) (Nj := some 6) #[true, true, true, true, true, false, false, false, false, false, false] #[true, true, true, true, false, false, false, false, true, false, false] rfl rfl rfl rfl (two_of HT_.out (by kernel_rfl)) (by decide) (by decide) (fun K hK => ?_) (fun K hK => ?_)
      ·skip
       refine goes_ Tryd.func30 (by kernel_rfl) rfl #[.agg #[.int .i64 t249, .slice Ao36 t250.length co36, .int .i64 t253], .agg #[.int .i64 t254, .slice Ao37 t255.length co37, .int .i64 t258]] (by rfl) rfl rfl ma_ ?_
       with_reducible refine (spec_MultiplyDyadics.calls k t249 _ _ t250 t253 t254 _ _ t255 t258 t259 t260 t263 t264 _ ?side1 ?side2 ?side3 ?side4 A21.out).mono ?_
       (case side1 => exact cr_ HO252)
       (case side2 => exact (Kd.R_reads' HO252.out).2.1)
       (case side3 => exact cr_ HO257)
       (case side4 => exact (Kd.R_reads' HO257.out).2.1)
       rintro e w38 ⟨v261, rfl, ho0, hb⟩
       refine ⟨_, rfl, ?_⟩
       have n0_ := am_ (Kd.R_elder' (kr_ HO252) (Kd.R_base ho0) hb); have n1_ := am_ (Kd.R_elder' (kr_ HO257) (Kd.R_base ho0) hb); have n2_ := am_ (Kd.R_lower (Kd.R_new' (Kd.R_new' ho0 (Kd.R_lt (kr_ HO252))) (Kd.R_lt (kr_ HO257))) (below_size (bl_ HB))); have n3_ := am_ (blk_below (bk_ BK245) hb); have n4_ := am_ (blk_below (bk_ BK246) hb); have n5_ := am_ (below_step (bl_ HB) hb); clear HO252 HO257 BK245 BK246 HB; have HO252 := n0_; have HO257 := n1_; have HO262 := n2_; have BK245 := n3_; have BK246 := n4_; have HB := n5_; clear n0_ n1_ n2_ n3_ n4_ n5_; (try clear hb); (try clear hb2); (try clear hk); (try clear hi); (try clear ho0)
       refine hK.out _ _ ⟨bc_ BK245 0, bc_ BK245 1, bc_ BK245 2, bc_ BK246 0, bc_ BK246 1, bc_ BK246 2⟩ (fun hHeld => ?_)
       clear hK K
       refine norm_ (a' := ?_) ?_ ?_
       rotate_left
       ·show Act.put _ (some 32) _ = _
        exact nm_
       refine pure_ (i := 5) (N := some 27) (v := ?_) (a' := ?_) #[true, true, true, true, true, true, false, false, false, false, false] rfl rfl (any_of HT_.out (by kernel_rfl)) (fun _ _ _ h => h) (Or.inl ⟨by rfl, ?_⟩) ?_ ?_
       rotate_left
       ·intro w'
        go_simp
        with_reducible rfl
       rotate_left
       ·exact nm_
       refine pure_ (i := 6) (N := some 33) (v := ?_) (a' := ?_) #[true, true, true, true, true, true, true, false, false, false, false] rfl rfl (any_of HT_.out (by kernel_rfl)) (fun _ _ _ h => h) (Or.inl ⟨by rfl, ?_⟩) ?_ ?_
       rotate_left
       ·intro w'
        go_simp
        with_reducible rfl
       rotate_left
       ·exact nm_
       refine pure_ (i := 7) (N := some 34) (v := ?_) (a' := ?_) #[true, true, true, true, true, true, true, true, false, false, false] rfl rfl (any_of HT_.out (by kernel_rfl)) (fun _ _ _ h => h) (Or.inl ⟨by rfl, ?_⟩) ?_ ?_
       rotate_left
       ·intro w'
        go_simp
        with_reducible rfl
       rotate_left
       ·exact nm_
       refine one_ (i := 8) (N := some 6) #[true, true, true, true, true, true, true, true, true, false, false] rfl rfl (one_of HT_.out (by kernel_rfl)) (by decide) (fun K hK => ?_)
       refine box_step ?hg (N := 6) ?hd (cs := #[.int .i64 0, .slice none 0 0, .int .i64 0]) (t := 30) ?hr ?_; (case hd => rfl); (case hg => rfl); (case hr => first | (go_simp; done) | (go_simp; rfl))
       intro gb265 hg w39 hbox hb
       have n0_ := am_ (Kd.R_below (kr_ HO252) hb); have n1_ := am_ (Kd.R_below (kr_ HO257) hb); have n2_ := am_ (Kd.R_below (kr_ HO262) hb); have n3_ := am_ (blk_below (bk_ BK245) hb); have n4_ := am_ (blk_below (bk_ BK246) hb); have n5_ := am_ (below_step (bl_ HB) hb); have n6_ := am_ (hbox); have n7_ := am_ (gs_ hg HB); have n8_ := am_ (gs_ hg HB); have n9_ := am_ (nl_ hg BK245); have n10_ := am_ (ng_ hg BK245); have n11_ := am_ (nl_ hg BK246); have n12_ := am_ (ng_ hg BK246); clear HO252 HO257 HO262 BK245 BK246 HB; have HO252 := n0_; have HO257 := n1_; have HO262 := n2_; have BK245 := n3_; have BK246 := n4_; have HB := n5_; have BK265 := n6_; have GW265 := n7_; have GE265 := n8_; have NB245_265 := n9_; have NB265_245 := n10_; have NB246_265 := n11_; have NB265_246 := n12_; clear n0_ n1_ n2_ n3_ n4_ n5_ n6_ n7_ n8_ n9_ n10_ n11_ n12_ hb hbox hg
       refine hK.out _ _ ⟨bc_ BK245 0, bc_ BK245 1, bc_ BK245 2, bc_ BK246 0, bc_ BK246 1, bc_ BK246 2⟩ (fun hHeld => ?_)
       clear hK K
       refine norm_ (a' := ?_) ?_ ?_
       rotate_left
       ·show Act.put _ (some 6) _ = _
        exact nm_
       exact norm_ (by simp only [putAll, Act.put, List.setIfInBounds_toArray, List.set_cons_zero, List.set_cons_succ]) (hCont (.slice Ao36 t250.length co36, .slice Ao37 t255.length co37, v261, gb265) _ ⟨hHeld, (km_ HO252 (fun _ hk => ⟨hk.1.2, hk.2⟩)), (km_ HO257 (fun _ hk => ⟨hk.1.2, hk.2⟩)), (km_ HO262 (fun _ hk => ⟨hk.1.2, hk.2⟩)), (bk_ BK245), (bk_ BK246), (bk_ BK265), GW265.out, GE265.out, NB245_265.out, NB265_245.out, NB246_265.out, NB265_246.out, (bl_ HB)⟩)
      ·skip
       refine box_step ?hg (N := 6) ?hd (cs := #[.int .i64 0, .slice none 0 0, .int .i64 0]) (t := 30) ?hr ?_; (case hd => rfl); (case hg => rfl); (case hr => first | (go_simp; done) | (go_simp; rfl))
       intro gb265 hg w36 hbox hb
       have n0_ := am_ (Kd.R_below (kr_ HO252) hb); have n1_ := am_ (Kd.R_below (kr_ HO257) hb); have n2_ := am_ (blk_below (bk_ BK245) hb); have n3_ := am_ (blk_below (bk_ BK246) hb); have n4_ := am_ (below_step (bl_ HB) hb); have n5_ := am_ (hbox); have n6_ := am_ (gs_ hg HB); have n7_ := am_ (gs_ hg HB); have n8_ := am_ (nl_ hg BK245); have n9_ := am_ (ng_ hg BK245); have n10_ := am_ (nl_ hg BK246); have n11_ := am_ (ng_ hg BK246); clear HO252 HO257 BK245 BK246 HB; have HO252 := n0_; have HO257 := n1_; have BK245 := n2_; have BK246 := n3_; have HB := n4_; have BK265 := n5_; have GW265 := n6_; have GE265 := n7_; have NB245_265 := n8_; have NB265_245 := n9_; have NB246_265 := n10_; have NB265_246 := n11_; clear n0_ n1_ n2_ n3_ n4_ n5_ n6_ n7_ n8_ n9_ n10_ n11_ hb hbox hg
       obtain ⟨Ao37, co37, eo37⟩ := Kd.R_slice HO252.out
       (first | subst eo37 | (injection eo37 with f1_ f2_ f3_; have f4_ := f1_.symm; have f5_ := f3_.symm; clear f1_ f2_ f3_; subst f4_; subst f5_))
       obtain ⟨Ao38, co38, eo38⟩ := Kd.R_slice HO257.out
       (first | subst eo38 | (injection eo38 with f1_ f2_ f3_; have f4_ := f1_.symm; have f5_ := f3_.symm; clear f1_ f2_ f3_; subst f4_; subst f5_))
       refine hK.out _ _ ⟨bc_ BK245 0, bc_ BK245 1, bc_ BK245 2, bc_ BK246 0, bc_ BK246 1, bc_ BK246 2⟩ (fun hHeld => ?_)
       clear hK K
       refine norm_ (a' := ?_) ?_ ?_
       rotate_left
       ·show Act.put _ (some 6) _ = _
        exact nm_
       refine one_ (i := 4) (N := some 32) #[true, true, true, true, true, false, false, false, true, false, false] rfl rfl (one_of HT_.out (by kernel_rfl)) (by decide) (fun K hK => ?_)
       refine goes_ Tryd.func30 (by kernel_rfl) rfl #[.agg #[.int .i64 t249, .slice Ao37 t250.length co37, .int .i64 t253], .agg #[.int .i64 t254, .slice Ao38 t255.length co38, .int .i64 t258]] (by rfl) rfl rfl ma_ ?_
       with_reducible refine (spec_MultiplyDyadics.calls k t249 _ _ t250 t253 t254 _ _ t255 t258 t259 t260 t263 t264 _ ?side1 ?side2 ?side3 ?side4 A21.out).mono ?_
       (case side1 => exact cr_ HO252)
       (case side2 => exact (Kd.R_reads' HO252.out).2.1)
       (case side3 => exact cr_ HO257)
       (case side4 => exact (Kd.R_reads' HO257.out).2.1)
       rintro e w39 ⟨v261, rfl, ho0, hb⟩
       refine ⟨_, rfl, ?_⟩
       have n0_ := am_ (Kd.R_elder' (kr_ HO252) (Kd.R_base ho0) hb); have n1_ := am_ (Kd.R_elder' (kr_ HO257) (Kd.R_base ho0) hb); have n2_ := am_ (Kd.R_lower (Kd.R_new' (Kd.R_new' ho0 (Kd.R_lt (kr_ HO252))) (Kd.R_lt (kr_ HO257))) (below_size (bl_ HB))); have n3_ := am_ (blk_below (bk_ BK245) hb); have n4_ := am_ (blk_below (bk_ BK246) hb); have n5_ := am_ (blk_below (bk_ BK265) hb); have n6_ := am_ (below_step (bl_ HB) hb); clear HO252 HO257 BK245 BK246 BK265 HB; have HO252 := n0_; have HO257 := n1_; have HO262 := n2_; have BK245 := n3_; have BK246 := n4_; have BK265 := n5_; have HB := n6_; clear n0_ n1_ n2_ n3_ n4_ n5_ n6_; (try clear hb); (try clear hb2); (try clear hk); (try clear hi); (try clear ho0)
       refine hK.out _ _ ⟨bc_ BK245 0, bc_ BK245 1, bc_ BK245 2, bc_ BK246 0, bc_ BK246 1, bc_ BK246 2⟩ (fun hHeld => ?_)
       clear hK K
       refine norm_ (a' := ?_) ?_ ?_
       rotate_left
       ·show Act.put _ (some 32) _ = _
        exact nm_
       refine pure_ (i := 5) (N := some 27) (v := ?_) (a' := ?_) #[true, true, true, true, true, true, false, false, true, false, false] rfl rfl (any_of HT_.out (by kernel_rfl)) (fun _ _ _ h => h) (Or.inl ⟨by rfl, ?_⟩) ?_ ?_
       rotate_left
       ·intro w'
        go_simp
        with_reducible rfl
       rotate_left
       ·exact nm_
       refine pure_ (i := 6) (N := some 33) (v := ?_) (a' := ?_) #[true, true, true, true, true, true, true, false, true, false, false] rfl rfl (any_of HT_.out (by kernel_rfl)) (fun _ _ _ h => h) (Or.inl ⟨by rfl, ?_⟩) ?_ ?_
       rotate_left
       ·intro w'
        go_simp
        with_reducible rfl
       rotate_left
       ·exact nm_
       refine pure_ (i := 7) (N := some 34) (v := ?_) (a' := ?_) #[true, true, true, true, true, true, true, true, true, false, false] rfl rfl (any_of HT_.out (by kernel_rfl)) (fun _ _ _ h => h) (Or.inl ⟨by rfl, ?_⟩) ?_ ?_
       rotate_left
       ·intro w'
        go_simp
        with_reducible rfl
       rotate_left
       ·exact nm_
       exact norm_ (by simp only [putAll, Act.put, List.setIfInBounds_toArray, List.set_cons_zero, List.set_cons_succ]) (hCont (.slice Ao37 t250.length co37, .slice Ao38 t255.length co38, v261, gb265) _ ⟨hHeld, (km_ HO252 (fun _ hk => ⟨hk.1.2, hk.2⟩)), (km_ HO257 (fun _ hk => ⟨hk.1.2, hk.2⟩)), (km_ HO262 (fun _ hk => ⟨hk.1.2, hk.2⟩)), (bk_ BK245), (bk_ BK246), (bk_ BK265), GW265.out, GE265.out, NB245_265.out, NB265_245.out, NB246_265.out, NB265_246.out, (bl_ HB)⟩)
     ·skip
      refine box_step ?hg (N := 6) ?hd (cs := #[.int .i64 0, .slice none 0 0, .int .i64 0]) (t := 30) ?hr ?_; (case hd => rfl); (case hg => rfl); (case hr => first | (go_simp; done) | (go_simp; rfl))
      intro gb265 hg w35 hbox hb
      have n0_ := am_ (Kd.R_below (kr_ HO252) hb); have n1_ := am_ (blk_below (bk_ BK245) hb); have n2_ := am_ (blk_below (bk_ BK246) hb); have n3_ := am_ (below_step (bl_ HB) hb); have n4_ := am_ (hbox); have n5_ := am_ (gs_ hg HB); have n6_ := am_ (gs_ hg HB); have n7_ := am_ (nl_ hg BK245); have n8_ := am_ (ng_ hg BK245); have n9_ := am_ (nl_ hg BK246); have n10_ := am_ (ng_ hg BK246); clear HO252 BK245 BK246 HB; have HO252 := n0_; have BK245 := n1_; have BK246 := n2_; have HB := n3_; have BK265 := n4_; have GW265 := n5_; have GE265 := n6_; have NB245_265 := n7_; have NB265_245 := n8_; have NB246_265 := n9_; have NB265_246 := n10_; clear n0_ n1_ n2_ n3_ n4_ n5_ n6_ n7_ n8_ n9_ n10_ hb hbox hg
      refine hK.out _ _ ⟨bc_ BK245 0, bc_ BK245 1, bc_ BK245 2, bc_ BK246 0, bc_ BK246 1, bc_ BK246 2⟩ (fun hHeld => ?_)
      clear hK K
      refine norm_ (a' := ?_) ?_ ?_
      rotate_left
      ·show Act.put _ (some 6) _ = _
       exact nm_
      refine one_ (i := 3) (N := some 31) #[true, true, true, true, false, false, false, false, true, false, false] rfl rfl (one_of HT_.out (by kernel_rfl)) (by decide) (fun K hK => ?_)
      refine goes_ Tryd.func13 (by kernel_rfl) rfl #[.agg #[.int .i64 a1_0, .slice A1_1 l1_1.length c1_1, .int .i64 a1_2]] (by rfl) rfl rfl ma_ ?_
      with_reducible refine (laws_toDyadic.calls k a1_0 _ _ l1_1 a1_2 t254 t255 t258 _ ?side1 ?side2 A20.out).mono ?_
      (case side1 => exact cb_ HR1_1 HB)
      (case side2 => exact HC1_1.out)
      rintro e w36 ⟨v256, rfl, ho0, hb⟩
      refine ⟨_, rfl, ?_⟩
      have n0_ := am_ (Kd.R_elder' (kr_ HO252) (Kd.R_base ho0) hb); have n1_ := am_ (Kd.R_lower (Kd.R_new' ho0 (Kd.R_lt (kr_ HO252))) (below_size (bl_ HB))); have n2_ := am_ (blk_below (bk_ BK245) hb); have n3_ := am_ (blk_below (bk_ BK246) hb); have n4_ := am_ (blk_below (bk_ BK265) hb); have n5_ := am_ (below_step (bl_ HB) hb); clear HO252 BK245 BK246 BK265 HB; have HO252 := n0_; have HO257 := n1_; have BK245 := n2_; have BK246 := n3_; have BK265 := n4_; have HB := n5_; clear n0_ n1_ n2_ n3_ n4_ n5_; (try clear hb); (try clear hb2); (try clear hk); (try clear hi); (try clear ho0)
      obtain ⟨Ao37, co37, eo37⟩ := Kd.R_slice HO252.out
      (first | subst eo37 | (injection eo37 with f1_ f2_ f3_; have f4_ := f1_.symm; have f5_ := f3_.symm; clear f1_ f2_ f3_; subst f4_; subst f5_))
      obtain ⟨Ao38, co38, eo38⟩ := Kd.R_slice HO257.out
      (first | subst eo38 | (injection eo38 with f1_ f2_ f3_; have f4_ := f1_.symm; have f5_ := f3_.symm; clear f1_ f2_ f3_; subst f4_; subst f5_))
      refine hK.out _ _ ⟨bc_ BK245 0, bc_ BK245 1, bc_ BK245 2, bc_ BK246 0, bc_ BK246 1, bc_ BK246 2⟩ (fun hHeld => ?_)
      clear hK K
      refine norm_ (a' := ?_) ?_ ?_
      rotate_left
      ·show Act.put _ (some 31) _ = _
       exact nm_
      refine one_ (i := 4) (N := some 32) #[true, true, true, true, true, false, false, false, true, false, false] rfl rfl (one_of HT_.out (by kernel_rfl)) (by decide) (fun K hK => ?_)
      refine goes_ Tryd.func30 (by kernel_rfl) rfl #[.agg #[.int .i64 t249, .slice Ao37 t250.length co37, .int .i64 t253], .agg #[.int .i64 t254, .slice Ao38 t255.length co38, .int .i64 t258]] (by rfl) rfl rfl ma_ ?_
      with_reducible refine (spec_MultiplyDyadics.calls k t249 _ _ t250 t253 t254 _ _ t255 t258 t259 t260 t263 t264 _ ?side1 ?side2 ?side3 ?side4 A21.out).mono ?_
      (case side1 => exact cr_ HO252)
      (case side2 => exact (Kd.R_reads' HO252.out).2.1)
      (case side3 => exact cr_ HO257)
      (case side4 => exact (Kd.R_reads' HO257.out).2.1)
      rintro e w39 ⟨v261, rfl, ho0, hb⟩
      refine ⟨_, rfl, ?_⟩
      have n0_ := am_ (Kd.R_elder' (kr_ HO252) (Kd.R_base ho0) hb); have n1_ := am_ (Kd.R_elder' (kr_ HO257) (Kd.R_base ho0) hb); have n2_ := am_ (Kd.R_lower (Kd.R_new' (Kd.R_new' ho0 (Kd.R_lt (kr_ HO252))) (Kd.R_lt (kr_ HO257))) (below_size (bl_ HB))); have n3_ := am_ (blk_below (bk_ BK245) hb); have n4_ := am_ (blk_below (bk_ BK246) hb); have n5_ := am_ (blk_below (bk_ BK265) hb); have n6_ := am_ (below_step (bl_ HB) hb); clear HO252 HO257 BK245 BK246 BK265 HB; have HO252 := n0_; have HO257 := n1_; have HO262 := n2_; have BK245 := n3_; have BK246 := n4_; have BK265 := n5_; have HB := n6_; clear n0_ n1_ n2_ n3_ n4_ n5_ n6_; (try clear hb); (try clear hb2); (try clear hk); (try clear hi); (try clear ho0)
      refine hK.out _ _ ⟨bc_ BK245 0, bc_ BK245 1, bc_ BK245 2, bc_ BK246 0, bc_ BK246 1, bc_ BK246 2⟩ (fun hHeld => ?_)
      clear hK K
      refine norm_ (a' := ?_) ?_ ?_
      rotate_left
      ·show Act.put _ (some 32) _ = _
       exact nm_
      refine pure_ (i := 5) (N := some 27) (v := ?_) (a' := ?_) #[true, true, true, true, true, true, false, false, true, false, false] rfl rfl (any_of HT_.out (by kernel_rfl)) (fun _ _ _ h => h) (Or.inl ⟨by rfl, ?_⟩) ?_ ?_
      rotate_left
      ·intro w'
       go_simp
       with_reducible rfl
      rotate_left
      ·exact nm_
      refine pure_ (i := 6) (N := some 33) (v := ?_) (a' := ?_) #[true, true, true, true, true, true, true, false, true, false, false] rfl rfl (any_of HT_.out (by kernel_rfl)) (fun _ _ _ h => h) (Or.inl ⟨by rfl, ?_⟩) ?_ ?_
      rotate_left
      ·intro w'
       go_simp
       with_reducible rfl
      rotate_left
      ·exact nm_
      refine pure_ (i := 7) (N := some 34) (v := ?_) (a' := ?_) #[true, true, true, true, true, true, true, true, true, false, false] rfl rfl (any_of HT_.out (by kernel_rfl)) (fun _ _ _ h => h) (Or.inl ⟨by rfl, ?_⟩) ?_ ?_
      rotate_left
      ·intro w'
       go_simp
       with_reducible rfl
      rotate_left
      ·exact nm_
      exact norm_ (by simp only [putAll, Act.put, List.setIfInBounds_toArray, List.set_cons_zero, List.set_cons_succ]) (hCont (.slice Ao37 t250.length co37, .slice Ao38 t255.length co38, v261, gb265) _ ⟨hHeld, (km_ HO252 (fun _ hk => ⟨hk.1.2, hk.2⟩)), (km_ HO257 (fun _ hk => ⟨hk.1.2, hk.2⟩)), (km_ HO262 (fun _ hk => ⟨hk.1.2, hk.2⟩)), (bk_ BK245), (bk_ BK246), (bk_ BK265), GW265.out, GE265.out, NB245_265.out, NB265_245.out, NB246_265.out, NB265_246.out, (bl_ HB)⟩)
    ·skip
     refine box_step ?hg (N := 6) ?hd (cs := #[.int .i64 0, .slice none 0 0, .int .i64 0]) (t := 30) ?hr ?_; (case hd => rfl); (case hg => rfl); (case hr => first | (go_simp; done) | (go_simp; rfl))
     intro gb265 hg w34 hbox hb
     have n0_ := am_ (blk_below (bk_ BK245) hb); have n1_ := am_ (blk_below (bk_ BK246) hb); have n2_ := am_ (below_step (bl_ HB) hb); have n3_ := am_ (hbox); have n4_ := am_ (gs_ hg HB); have n5_ := am_ (gs_ hg HB); have n6_ := am_ (nl_ hg BK245); have n7_ := am_ (ng_ hg BK245); have n8_ := am_ (nl_ hg BK246); have n9_ := am_ (ng_ hg BK246); clear BK245 BK246 HB; have BK245 := n0_; have BK246 := n1_; have HB := n2_; have BK265 := n3_; have GW265 := n4_; have GE265 := n5_; have NB245_265 := n6_; have NB265_245 := n7_; have NB246_265 := n8_; have NB265_246 := n9_; clear n0_ n1_ n2_ n3_ n4_ n5_ n6_ n7_ n8_ n9_ hb hbox hg
     refine hK.out _ _ ⟨bc_ BK245 0, bc_ BK245 1, bc_ BK245 2, bc_ BK246 0, bc_ BK246 1, bc_ BK246 2⟩ (fun hHeld => ?_)
     clear hK K
     refine norm_ (a' := ?_) ?_ ?_
     rotate_left
     ·show Act.put _ (some 6) _ = _
      exact nm_
     refine one_ (i := 1) (N := some 29) #[true, true, true, false, false, false, false, false, true, false, false] rfl rfl (one_of HT_.out (by kernel_rfl)) (by decide) (fun K hK => ?_)
     refine goes_ Tryd.func13 (by kernel_rfl) rfl #[.agg #[.int .i64 a0_0, .slice A0_1 l0_1.length c0_1, .int .i64 a0_2]] (by rfl) rfl rfl ma_ ?_
     with_reducible refine (laws_toDyadic.calls k a0_0 _ _ l0_1 a0_2 t249 t250 t253 _ ?side1 ?side2 A19.out).mono ?_
     (case side1 => exact cb_ HR0_1 HB)
     (case side2 => exact HC0_1.out)
     rintro e w35 ⟨v251, rfl, ho0, hb⟩
     refine ⟨_, rfl, ?_⟩
     have n0_ := am_ (Kd.R_lower ho0 (below_size (bl_ HB))); have n1_ := am_ (blk_below (bk_ BK245) hb); have n2_ := am_ (blk_below (bk_ BK246) hb); have n3_ := am_ (blk_below (bk_ BK265) hb); have n4_ := am_ (below_step (bl_ HB) hb); clear BK245 BK246 BK265 HB; have HO252 := n0_; have BK245 := n1_; have BK246 := n2_; have BK265 := n3_; have HB := n4_; clear n0_ n1_ n2_ n3_ n4_; (try clear hb); (try clear hb2); (try clear hk); (try clear hi); (try clear ho0)
     refine hK.out _ _ ⟨bc_ BK245 0, bc_ BK245 1, bc_ BK245 2, bc_ BK246 0, bc_ BK246 1, bc_ BK246 2⟩ (fun hHeld => ?_)
     clear hK K
     refine norm_ (a' := ?_) ?_ ?_
     rotate_left
     ·show Act.put _ (some 29) _ = _
      exact nm_
     refine one_ (i := 3) (N := some 31) #[true, true, true, true, false, false, false, false, true, false, false] rfl rfl (one_of HT_.out (by kernel_rfl)) (by decide) (fun K hK => ?_)
     refine goes_ Tryd.func13 (by kernel_rfl) rfl #[.agg #[.int .i64 a1_0, .slice A1_1 l1_1.length c1_1, .int .i64 a1_2]] (by rfl) rfl rfl ma_ ?_
     with_reducible refine (laws_toDyadic.calls k a1_0 _ _ l1_1 a1_2 t254 t255 t258 _ ?side1 ?side2 A20.out).mono ?_
     (case side1 => exact cb_ HR1_1 HB)
     (case side2 => exact HC1_1.out)
     rintro e w36 ⟨v256, rfl, ho0, hb⟩
     refine ⟨_, rfl, ?_⟩
     have n0_ := am_ (Kd.R_elder' (kr_ HO252) (Kd.R_base ho0) hb); have n1_ := am_ (Kd.R_lower (Kd.R_new' ho0 (Kd.R_lt (kr_ HO252))) (below_size (bl_ HB))); have n2_ := am_ (blk_below (bk_ BK245) hb); have n3_ := am_ (blk_below (bk_ BK246) hb); have n4_ := am_ (blk_below (bk_ BK265) hb); have n5_ := am_ (below_step (bl_ HB) hb); clear HO252 BK245 BK246 BK265 HB; have HO252 := n0_; have HO257 := n1_; have BK245 := n2_; have BK246 := n3_; have BK265 := n4_; have HB := n5_; clear n0_ n1_ n2_ n3_ n4_ n5_; (try clear hb); (try clear hb2); (try clear hk); (try clear hi); (try clear ho0)
     obtain ⟨Ao37, co37, eo37⟩ := Kd.R_slice HO252.out
     (first | subst eo37 | (injection eo37 with f1_ f2_ f3_; have f4_ := f1_.symm; have f5_ := f3_.symm; clear f1_ f2_ f3_; subst f4_; subst f5_))
     obtain ⟨Ao38, co38, eo38⟩ := Kd.R_slice HO257.out
     (first | subst eo38 | (injection eo38 with f1_ f2_ f3_; have f4_ := f1_.symm; have f5_ := f3_.symm; clear f1_ f2_ f3_; subst f4_; subst f5_))
     refine hK.out _ _ ⟨bc_ BK245 0, bc_ BK245 1, bc_ BK245 2, bc_ BK246 0, bc_ BK246 1, bc_ BK246 2⟩ (fun hHeld => ?_)
     clear hK K
     refine norm_ (a' := ?_) ?_ ?_
     rotate_left
     ·show Act.put _ (some 31) _ = _
      exact nm_
     refine one_ (i := 4) (N := some 32) #[true, true, true, true, true, false, false, false, true, false, false] rfl rfl (one_of HT_.out (by kernel_rfl)) (by decide) (fun K hK => ?_)
     refine goes_ Tryd.func30 (by kernel_rfl) rfl #[.agg #[.int .i64 t249, .slice Ao37 t250.length co37, .int .i64 t253], .agg #[.int .i64 t254, .slice Ao38 t255.length co38, .int .i64 t258]] (by rfl) rfl rfl ma_ ?_
     with_reducible refine (spec_MultiplyDyadics.calls k t249 _ _ t250 t253 t254 _ _ t255 t258 t259 t260 t263 t264 _ ?side1 ?side2 ?side3 ?side4 A21.out).mono ?_
     (case side1 => exact cr_ HO252)
     (case side2 => exact (Kd.R_reads' HO252.out).2.1)
     (case side3 => exact cr_ HO257)
     (case side4 => exact (Kd.R_reads' HO257.out).2.1)
     rintro e w39 ⟨v261, rfl, ho0, hb⟩
     refine ⟨_, rfl, ?_⟩
     have n0_ := am_ (Kd.R_elder' (kr_ HO252) (Kd.R_base ho0) hb); have n1_ := am_ (Kd.R_elder' (kr_ HO257) (Kd.R_base ho0) hb); have n2_ := am_ (Kd.R_lower (Kd.R_new' (Kd.R_new' ho0 (Kd.R_lt (kr_ HO252))) (Kd.R_lt (kr_ HO257))) (below_size (bl_ HB))); have n3_ := am_ (blk_below (bk_ BK245) hb); have n4_ := am_ (blk_below (bk_ BK246) hb); have n5_ := am_ (blk_below (bk_ BK265) hb); have n6_ := am_ (below_step (bl_ HB) hb); clear HO252 HO257 BK245 BK246 BK265 HB; have HO252 := n0_; have HO257 := n1_; have HO262 := n2_; have BK245 := n3_; have BK246 := n4_; have BK265 := n5_; have HB := n6_; clear n0_ n1_ n2_ n3_ n4_ n5_ n6_; (try clear hb); (try clear hb2); (try clear hk); (try clear hi); (try clear ho0)
     refine hK.out _ _ ⟨bc_ BK245 0, bc_ BK245 1, bc_ BK245 2, bc_ BK246 0, bc_ BK246 1, bc_ BK246 2⟩ (fun hHeld => ?_)
     clear hK K
     refine norm_ (a' := ?_) ?_ ?_
     rotate_left
     ·show Act.put _ (some 32) _ = _
      exact nm_
     refine pure_ (i := 5) (N := some 27) (v := ?_) (a' := ?_) #[true, true, true, true, true, true, false, false, true, false, false] rfl rfl (any_of HT_.out (by kernel_rfl)) (fun _ _ _ h => h) (Or.inl ⟨by rfl, ?_⟩) ?_ ?_
     rotate_left
     ·intro w'
      go_simp
      with_reducible rfl
     rotate_left
     ·exact nm_
     refine pure_ (i := 6) (N := some 33) (v := ?_) (a' := ?_) #[true, true, true, true, true, true, true, false, true, false, false] rfl rfl (any_of HT_.out (by kernel_rfl)) (fun _ _ _ h => h) (Or.inl ⟨by rfl, ?_⟩) ?_ ?_
     rotate_left
     ·intro w'
      go_simp
      with_reducible rfl
     rotate_left
     ·exact nm_
     refine pure_ (i := 7) (N := some 34) (v := ?_) (a' := ?_) #[true, true, true, true, true, true, true, true, true, false, false] rfl rfl (any_of HT_.out (by kernel_rfl)) (fun _ _ _ h => h) (Or.inl ⟨by rfl, ?_⟩) ?_ ?_
     rotate_left
     ·intro w'
      go_simp
      with_reducible rfl
     rotate_left
     ·exact nm_
     exact norm_ (by simp only [putAll, Act.put, List.setIfInBounds_toArray, List.set_cons_zero, List.set_cons_succ]) (hCont (.slice Ao37 t250.length co37, .slice Ao38 t255.length co38, v261, gb265) _ ⟨hHeld, (km_ HO252 (fun _ hk => ⟨hk.1.2, hk.2⟩)), (km_ HO257 (fun _ hk => ⟨hk.1.2, hk.2⟩)), (km_ HO262 (fun _ hk => ⟨hk.1.2, hk.2⟩)), (bk_ BK245), (bk_ BK246), (bk_ BK265), GW265.out, GE265.out, NB245_265.out, NB265_245.out, NB246_265.out, NB265_246.out, (bl_ HB)⟩)
   rintro ⟨v251, v256, v261, gb265⟩ w40 ⟨hS_, h0_, h1_, h2_, h3_, h4_, h5_, h6_, h7_, h8_, h9_, h10_, h11_, h12_⟩
   have n0_ : Aside0 (Kd.R (Kd.int .i64) 2 w40 w.heap.size (fun k_ => some k_ ≠ (v256 : Value).ownBlock ∧ some k_ ≠ (v261 : Value).ownBlock) v251 t250) := ⟨h0_⟩
   have n1_ : Aside0 (Kd.R (Kd.int .i64) 2 w40 w.heap.size (fun k_ => some k_ ≠ (v251 : Value).ownBlock ∧ some k_ ≠ (v261 : Value).ownBlock) v256 t255) := ⟨h1_⟩
   have n2_ : Aside0 (Kd.R (Kd.int .i64) 2 w40 w.heap.size (fun k_ => some k_ ≠ (v251 : Value).ownBlock ∧ some k_ ≠ (v256 : Value).ownBlock) v261 t260) := ⟨h2_⟩
   have n3_ : Aside0 (w40.heap[gb245]? = some (.cells #[.int .i64 a0_0, .slice A0_1 l0_1.length c0_1, .int .i64 a0_2] 26 (0, 0))) := ⟨h3_⟩
   have n4_ : Aside0 (w40.heap[gb246]? = some (.cells #[.int .i64 a1_0, .slice A1_1 l1_1.length c1_1, .int .i64 a1_2] 26 (0, 0))) := ⟨h4_⟩
   have n5_ : Aside0 (w40.heap[gb265]? = some (.cells #[.int .i64 0, .slice none 0 0, .int .i64 0] 30 (0, 0))) := ⟨h5_⟩
   have n6_ : Aside0 (w.heap.size ≤ gb265) := ⟨h6_⟩
   have n7_ : Aside0 (w.heap.size ≤ gb265) := ⟨h7_⟩
   have n8_ : Aside0 (gb245 ≠ gb265) := ⟨h8_⟩
   have n9_ : Aside0 (gb265 ≠ gb245) := ⟨h9_⟩
   have n10_ : Aside0 (gb246 ≠ gb265) := ⟨h10_⟩
   have n11_ : Aside0 (gb265 ≠ gb246) := ⟨h11_⟩
   have n12_ : Aside0 (Below w.heap.size w w40) := ⟨h12_⟩
   clear BK245 BK246 HB h0_ h1_ h2_ h3_ h4_ h5_ h6_ h7_ h8_ h9_ h10_ h11_ h12_; have HO252 := n0_; have HO257 := n1_; have HO262 := n2_; have BK245 := n3_; have BK246 := n4_; have BK265 := n5_; have GW265 := n6_; have GE265 := n7_; have NB245_265 := n8_; have NB265_245 := n9_; have NB246_265 := n10_; have NB265_246 := n11_; have HB := n12_; clear n0_ n1_ n2_ n3_ n4_ n5_ n6_ n7_ n8_ n9_ n10_ n11_ n12_
   have hHeld : w40.cell? ⟨gb245, 0, none⟩ = some (.int .i64 a0_0) ∧ w40.cell? ⟨gb245, 1, none⟩ = some (.slice A0_1 l0_1.length c0_1) ∧ w40.cell? ⟨gb245, 2, none⟩ = some (.int .i64 a0_2) ∧ w40.cell? ⟨gb246, 0, none⟩ = some (.int .i64 a1_0) ∧ w40.cell? ⟨gb246, 1, none⟩ = some (.slice A1_1 l1_1.length c1_1) ∧ w40.cell? ⟨gb246, 2, none⟩ = some (.int .i64 a1_2) := hS_
   obtain ⟨Ao42, co42, eo42⟩ := Kd.R_slice HO262.out
   (first | subst eo42 | (injection eo42 with f1_ f2_ f3_; have f4_ := f1_.symm; have f5_ := f3_.symm; clear f1_ f2_ f3_; subst f4_; subst f5_))
   refine norm_ (a' := ?_) ?_ ?_
   rotate_left
   ·simp only [putAll, Act.put, List.setIfInBounds_toArray, List.set_cons_zero, List.set_cons_succ]
    rfl
   refine one_ (i := 9) (N := none) #[true, true, true, true, true, true, true, true, true, true, false] rfl rfl (one_of HT_.out (by kernel_rfl)) (by decide) (fun K hK => ?_)
   have hs41 : w40.cell? ⟨gb265, 0, none⟩ = some (.int .i64 0) := bc_ BK265 0
   have hfs41 := blk_frozen BK265.out 0; have hns41_0 := NB245_265.out; have hns41_1 := NB246_265.out; have hms41_0 := NB265_245.out; have hms41_1 := NB265_246.out
   have hs43 : w40.cell? ⟨gb265, 1, none⟩ = some (.slice none 0 0) := bc_ BK265 1
   have hfs43 := blk_frozen BK265.out 1; have hns43_0 := NB245_265.out; have hns43_1 := NB246_265.out; have hms43_0 := NB265_245.out; have hms43_1 := NB265_246.out
   have hs44 : w40.cell? ⟨gb265, 2, none⟩ = some (.int .i64 0) := bc_ BK265 2
   have hfs44 := blk_frozen BK265.out 2; have hns44_0 := NB245_265.out; have hns44_1 := NB246_265.out; have hms44_0 := NB265_245.out; have hms44_1 := NB265_246.out
   refine skip_ (w1 := ?_) (by rfl) rfl ?_ ?_
   rotate_left
   ·go_simp
    rfl
   refine hK.out _ _ ⟨((cell_far (p := ⟨gb265, _, none⟩) NB245_265.out _).trans (((cell_far (p := ⟨gb265, _, none⟩) NB245_265.out _).trans (((cell_far (p := ⟨gb265, _, none⟩) NB245_265.out _).trans (hHeld.1)))))), ((cell_far (p := ⟨gb265, _, none⟩) NB245_265.out _).trans (((cell_far (p := ⟨gb265, _, none⟩) NB245_265.out _).trans (((cell_far (p := ⟨gb265, _, none⟩) NB245_265.out _).trans (hHeld.2.1)))))), ((cell_far (p := ⟨gb265, _, none⟩) NB245_265.out _).trans (((cell_far (p := ⟨gb265, _, none⟩) NB245_265.out _).trans (((cell_far (p := ⟨gb265, _, none⟩) NB245_265.out _).trans (hHeld.2.2.1)))))), ((cell_far (p := ⟨gb265, _, none⟩) NB246_265.out _).trans (((cell_far (p := ⟨gb265, _, none⟩) NB246_265.out _).trans (((cell_far (p := ⟨gb265, _, none⟩) NB246_265.out _).trans (hHeld.2.2.2.1)))))), ((cell_far (p := ⟨gb265, _, none⟩) NB246_265.out _).trans (((cell_far (p := ⟨gb265, _, none⟩) NB246_265.out _).trans (((cell_far (p := ⟨gb265, _, none⟩) NB246_265.out _).trans (hHeld.2.2.2.2.1)))))), ((cell_far (p := ⟨gb265, _, none⟩) NB246_265.out _).trans (((cell_far (p := ⟨gb265, _, none⟩) NB246_265.out _).trans (((cell_far (p := ⟨gb265, _, none⟩) NB246_265.out _).trans (hHeld.2.2.2.2.2))))))⟩ (fun hHeld => ?_)
   clear hK K
   refine pure_ (i := 10) (N := some 7) (v := ?_) (a' := ?_) #[true, true, true, true, true, true, true, true, true, true, true] rfl rfl (any_of HT_.out (by kernel_rfl)) (fun _ _ _ h => h) (Or.inl ⟨by rfl, ?_⟩) ?_ ?_
   rotate_left
   ·intro w'
    go_simp
    with_reducible rfl
   rotate_left
   ·exact nm_
   refine done_ (done_of HT_.out (by kernel_rfl)) ?_
   have hnb45 := NB245_265.out; have hnc45 := NB265_245.out
   have hcz46_0 : w40.cell? ⟨gb245, 0, none⟩ = some (.int .i64 a0_0) := bc_ BK245 0
   have hcz46_1 : w40.cell? ⟨gb245, 1, none⟩ = some (.slice A0_1 l0_1.length c0_1) := bc_ BK245 1
   have hcz46_2 : w40.cell? ⟨gb245, 2, none⟩ = some (.int .i64 a0_2) := bc_ BK245 2
   have hfz46_0 := blk_frozen BK245.out 0; have hfz46_1 := blk_frozen BK245.out 1; have hfz46_2 := blk_frozen BK245.out 2
   go_upto_region 12 with (first | ((with_reducible refine gate_callee (f := 13) rfl ?_); refine goesL_ (some 36) rfl rfl Tryd.func13 (by kernel_rfl) rfl #[.agg #[.int .i64 a0_0, .slice A0_1 l0_1.length c0_1, .int .i64 a0_2]] rfl ma_ ?_; (with_reducible refine (laws_toDyadic.calls k a0_0 _ _ l0_1 a0_2 t266 t267 t270 _ ?side1 ?side2 A22.out).mono ?_); (case side1 => exact Kd.C_below HR0_1.out (bl_ HB)); (case side2 => exact HC0_1.out); rintro e w47 ⟨v268, rfl, ho0, hb⟩; refine ⟨_, rfl, ?_⟩; have HO269 := am_ (Kd.R_lower (Kd.R_new' (Kd.R_new' (Kd.R_new' ho0 (Kd.R_lt (rk_ HO252 BK265))) (Kd.R_lt (rk_ HO257 BK265))) (Kd.R_lt (rk_ HO262 BK265))) (below_size (bl_ HB))); replace HO252 := am_ (Kd.R_elder' (rk_ HO252 BK265) (Kd.R_base ho0) hb); replace HO257 := am_ (Kd.R_elder' (rk_ HO257 BK265) (Kd.R_base ho0) hb); replace HO262 := am_ (Kd.R_elder' (rk_ HO262 BK265) (Kd.R_base ho0) hb); replace BK245 := am_ (blk_below (bk_ BK245) hb); replace BK246 := am_ (blk_below (bk_ BK246) hb); replace BK265 := am_ (blk_below (bp3_ BK265) hb); replace HB := am_ (below_step (bl_ HB) hb); (try clear hb); (try clear hb2); (try clear hk); (try clear hi); (try clear ho0)) | ((with_reducible refine gate_dst (N := 8) rfl ?_); refine box_event ?hg (N := 8) ?hd (cs := #[.int .i64 0, .slice none 0 0, .int .i64 0]) (t := 30) ?hr ?_; (case hd => rfl); (case hg => rfl); (case hr => first | (go_simp; done) | (go_simp; rfl)); intro gb271 hg w48 hbox hb; have BK271 := am_ (hbox); have GW271 := am_ (gs_ hg HB); have GE271 := am_ (gs_ hg HB); have NB245_271 := am_ (nl_ hg BK245); have NB271_245 := am_ (ng_ hg BK245); have NB246_271 := am_ (nl_ hg BK246); have NB271_246 := am_ (ng_ hg BK246); have NB265_271 := am_ (nl_ hg BK265); have NB271_265 := am_ (ng_ hg BK265); replace HO252 := am_ (Kd.R_below (kr_ HO252) hb); replace HO257 := am_ (Kd.R_below (kr_ HO257) hb); replace HO262 := am_ (Kd.R_below (kr_ HO262) hb); replace HO269 := am_ (Kd.R_below (kr_ HO269) hb); replace BK245 := am_ (blk_below (bk_ BK245) hb); replace BK246 := am_ (blk_below (bk_ BK246) hb); replace BK265 := am_ (blk_below (bk_ BK265) hb); replace HB := am_ (below_step (bl_ HB) hb); clear hb hbox hg; have hnb49 := NB271_245.out; have hnc49 := NB245_271.out; have hnb50 := NB271_246.out; have hnc50 := NB246_271.out; have hnb51 := NB271_265.out; have hnc51 := NB265_271.out; have hcz52_0 : w48.cell? ⟨gb271, 0, none⟩ = some (.int .i64 0) := bc_ BK271 0; have hcz52_1 : w48.cell? ⟨gb271, 1, none⟩ = some (.slice none 0 0) := bc_ BK271 1; have hcz52_2 : w48.cell? ⟨gb271, 2, none⟩ = some (.int .i64 0) := bc_ BK271 2; have hfz52_0 := blk_frozen BK271.out 0; have hfz52_1 := blk_frozen BK271.out 1; have hfz52_2 := blk_frozen BK271.out 2; obtain ⟨Ao53, co53, eo53⟩ := Kd.R_slice HO269.out; subst eo53; have hnb54 := NB246_265.out; have hnc54 := NB265_246.out; have hcz55_0 : w48.cell? ⟨gb246, 0, none⟩ = some (.int .i64 a1_0) := bc_ BK246 0; have hcz55_1 : w48.cell? ⟨gb246, 1, none⟩ = some (.slice A1_1 l1_1.length c1_1) := bc_ BK246 1; have hcz55_2 : w48.cell? ⟨gb246, 2, none⟩ = some (.int .i64 a1_2) := bc_ BK246 2; have hfz55_0 := blk_frozen BK246.out 0; have hfz55_1 := blk_frozen BK246.out 1; have hfz55_2 := blk_frozen BK246.out 2) | ((with_reducible refine gate_callee (f := 13) rfl ?_); refine goesL_ (some 38) rfl rfl Tryd.func13 (by kernel_rfl) rfl #[.agg #[.int .i64 a1_0, .slice A1_1 l1_1.length c1_1, .int .i64 a1_2]] rfl ma_ ?_; (with_reducible refine (laws_toDyadic.calls k a1_0 _ _ l1_1 a1_2 t272 t273 t276 _ ?side1 ?side2 A23.out).mono ?_); (case side1 => exact Kd.C_below HR1_1.out (bl_ HB)); (case side2 => exact HC1_1.out); rintro e w56 ⟨v274, rfl, ho0, hb⟩; refine ⟨_, rfl, ?_⟩; have HO275 := am_ (Kd.R_lower (Kd.R_new' (Kd.R_new' (Kd.R_new' (Kd.R_new' ho0 (Kd.R_lt (rk_ HO252 BK271))) (Kd.R_lt (rk_ HO257 BK271))) (Kd.R_lt (rk_ HO262 BK271))) (Kd.R_lt (rk_ HO269 BK271))) (below_size (bl_ HB))); replace HO252 := am_ (Kd.R_elder' (rk_ HO252 BK271) (Kd.R_base ho0) hb); replace HO257 := am_ (Kd.R_elder' (rk_ HO257 BK271) (Kd.R_base ho0) hb); replace HO262 := am_ (Kd.R_elder' (rk_ HO262 BK271) (Kd.R_base ho0) hb); replace HO269 := am_ (Kd.R_elder' (rk_ HO269 BK271) (Kd.R_base ho0) hb); replace BK245 := am_ (blk_below (bk_ BK245) hb); replace BK246 := am_ (blk_below (bk_ BK246) hb); replace BK265 := am_ (blk_below (bk_ BK265) hb); replace BK271 := am_ (blk_below (bp3_ BK271) hb); replace HB := am_ (below_step (bl_ HB) hb); (try clear hb); (try clear hb2); (try clear hk); (try clear hi); (try clear ho0)) | ((with_reducible refine gate_dst (N := 9) rfl ?_); refine box_event ?hg (N := 9) ?hd (cs := #[.int .i64 0, .slice none 0 0, .int .i64 0]) (t := 30) ?hr ?_; (case hd => rfl); (case hg => rfl); (case hr => first | (go_simp; done) | (go_simp; rfl)); intro gb277 hg w57 hbox hb; have BK277 := am_ (hbox); have GW277 := am_ (gs_ hg HB); have GE277 := am_ (gs_ hg HB); have NB245_277 := am_ (nl_ hg BK245); have NB277_245 := am_ (ng_ hg BK245); have NB246_277 := am_ (nl_ hg BK246); have NB277_246 := am_ (ng_ hg BK246); have NB265_277 := am_ (nl_ hg BK265); have NB277_265 := am_ (ng_ hg BK265); have NB271_277 := am_ (nl_ hg BK271); have NB277_271 := am_ (ng_ hg BK271); replace HO252 := am_ (Kd.R_below (kr_ HO252) hb); replace HO257 := am_ (Kd.R_below (kr_ HO257) hb); replace HO262 := am_ (Kd.R_below (kr_ HO262) hb); replace HO269 := am_ (Kd.R_below (kr_ HO269) hb); replace HO275 := am_ (Kd.R_below (kr_ HO275) hb); replace BK245 := am_ (blk_below (bk_ BK245) hb); replace BK246 := am_ (blk_below (bk_ BK246) hb); replace BK265 := am_ (blk_below (bk_ BK265) hb); replace BK271 := am_ (blk_below (bk_ BK271) hb); replace HB := am_ (below_step (bl_ HB) hb); clear hb hbox hg; have hnb58 := NB277_245.out; have hnc58 := NB245_277.out; have hnb59 := NB277_246.out; have hnc59 := NB246_277.out; have hnb60 := NB277_265.out; have hnc60 := NB265_277.out; have hnb61 := NB277_271.out; have hnc61 := NB271_277.out; have hcz62_0 : w57.cell? ⟨gb277, 0, none⟩ = some (.int .i64 0) := bc_ BK277 0; have hcz62_1 : w57.cell? ⟨gb277, 1, none⟩ = some (.slice none 0 0) := bc_ BK277 1; have hcz62_2 : w57.cell? ⟨gb277, 2, none⟩ = some (.int .i64 0) := bc_ BK277 2; have hfz62_0 := blk_frozen BK277.out 0; have hfz62_1 := blk_frozen BK277.out 1; have hfz62_2 := blk_frozen BK277.out 2; obtain ⟨Ao63, co63, eo63⟩ := Kd.R_slice HO275.out; subst eo63; have hcz64_0 : w57.cell? ⟨gb271, 0, none⟩ = some (.int .i64 t266) := bc_ BK271 0; have hcz64_1 : w57.cell? ⟨gb271, 1, none⟩ = some (.slice Ao53 t267.length co53) := bc_ BK271 1; have hcz64_2 : w57.cell? ⟨gb271, 2, none⟩ = some (.int .i64 t270) := bc_ BK271 2; have hfz64_0 := blk_frozen BK271.out 0; have hfz64_1 := blk_frozen BK271.out 1; have hfz64_2 := blk_frozen BK271.out 2) | ((with_reducible refine gate_callee (f := 31) rfl ?_); refine goesL_ (some 42) rfl rfl Tryd.func31 (by kernel_rfl) rfl #[.agg #[.int .i64 t266, .slice Ao53 t267.length co53, .int .i64 t270], .agg #[.int .i64 t272, .slice Ao63 t273.length co63, .int .i64 t276]] rfl ma_ ?_; (with_reducible refine (impl_MultiplyDyadics.calls t266 _ _ t267 t270 t272 _ _ t273 t276 t278 t279 t282 t283 _ ?side1 ?side2 ?side3 ?side4 ?sideT A24.out).mono ?_); (case sideT => exact Go.Proofs.YthddlechoibdkaaDoor.Big.Tab.below HTab.out (bl_ HB)); (case side1 => refine (Kd.R_reads' (e := 2) (base := w.heap.size) (ok := fun k_ => ((((True ∧ some k_ ≠ (v251 : Value).ownBlock) ∧ some k_ ≠ (v256 : Value).ownBlock) ∧ some k_ ≠ (.slice Ao42 t260.length co42 : Value).ownBlock) ∧ some k_ ≠ (.slice Ao63 t273.length co63 : Value).ownBlock)) (n := t267.length) (c := co53) ?_).2.2; exact (rk_ HO269 BK277)); (case side2 => exact (Kd.R_reads' HO269.out).2.1); (case side3 => refine (Kd.R_reads' (e := 2) (base := w.heap.size) (ok := fun k_ => ((((True ∧ some k_ ≠ (v251 : Value).ownBlock) ∧ some k_ ≠ (v256 : Value).ownBlock) ∧ some k_ ≠ (.slice Ao42 t260.length co42 : Value).ownBlock) ∧ some k_ ≠ (.slice Ao53 t267.length co53 : Value).ownBlock)) (n := t273.length) (c := co63) ?_).2.2; exact (rk_ HO275 BK277)); (case side4 => exact (Kd.R_reads' HO275.out).2.1); rintro e w65 ⟨v280, rfl, ho0, hb⟩; refine ⟨_, rfl, ?_⟩; have HO281 := am_ (Kd.R_lower (Kd.R_new' (Kd.R_new' (Kd.R_new' (Kd.R_new' (Kd.R_new' ho0 (Kd.R_lt (rk_ HO252 BK277))) (Kd.R_lt (rk_ HO257 BK277))) (Kd.R_lt (rk_ HO262 BK277))) (Kd.R_lt (rk_ HO269 BK277))) (Kd.R_lt (rk_ HO275 BK277))) (below_size (bl_ HB))); replace HO252 := am_ (Kd.R_elder' (rk_ HO252 BK277) (Kd.R_base ho0) hb); replace HO257 := am_ (Kd.R_elder' (rk_ HO257 BK277) (Kd.R_base ho0) hb); replace HO262 := am_ (Kd.R_elder' (rk_ HO262 BK277) (Kd.R_base ho0) hb); replace HO269 := am_ (Kd.R_elder' (rk_ HO269 BK277) (Kd.R_base ho0) hb); replace HO275 := am_ (Kd.R_elder' (rk_ HO275 BK277) (Kd.R_base ho0) hb); replace BK245 := am_ (blk_below (bk_ BK245) hb); replace BK246 := am_ (blk_below (bk_ BK246) hb); replace BK265 := am_ (blk_below (bk_ BK265) hb); replace BK271 := am_ (blk_below (bk_ BK271) hb); replace BK277 := am_ (blk_below (bp3_ BK277) hb); replace HB := am_ (below_step (bl_ HB) hb); (try clear hb); (try clear hb2); (try clear hk); (try clear hi); (try clear ho0)) | ((with_reducible refine gate_dst (N := 10) rfl ?_); refine box_event ?hg (N := 10) ?hd (cs := #[.int .i64 0, .slice none 0 0, .int .i64 0]) (t := 30) ?hr ?_; (case hd => rfl); (case hg => rfl); (case hr => first | (go_simp; done) | (go_simp; rfl)); intro gb284 hg w66 hbox hb; have BK284 := am_ (hbox); have GW284 := am_ (gs_ hg HB); have GE284 := am_ (gs_ hg HB); have NB245_284 := am_ (nl_ hg BK245); have NB284_245 := am_ (ng_ hg BK245); have NB246_284 := am_ (nl_ hg BK246); have NB284_246 := am_ (ng_ hg BK246); have NB265_284 := am_ (nl_ hg BK265); have NB284_265 := am_ (ng_ hg BK265); have NB271_284 := am_ (nl_ hg BK271); have NB284_271 := am_ (ng_ hg BK271); have NB277_284 := am_ (nl_ hg BK277); have NB284_277 := am_ (ng_ hg BK277); replace HO252 := am_ (Kd.R_below (kr_ HO252) hb); replace HO257 := am_ (Kd.R_below (kr_ HO257) hb); replace HO262 := am_ (Kd.R_below (kr_ HO262) hb); replace HO269 := am_ (Kd.R_below (kr_ HO269) hb); replace HO275 := am_ (Kd.R_below (kr_ HO275) hb); replace HO281 := am_ (Kd.R_below (kr_ HO281) hb); replace BK245 := am_ (blk_below (bk_ BK245) hb); replace BK246 := am_ (blk_below (bk_ BK246) hb); replace BK265 := am_ (blk_below (bk_ BK265) hb); replace BK271 := am_ (blk_below (bk_ BK271) hb); replace BK277 := am_ (blk_below (bk_ BK277) hb); replace HB := am_ (below_step (bl_ HB) hb); clear hb hbox hg; have hnb67 := NB284_245.out; have hnc67 := NB245_284.out; have hnb68 := NB284_246.out; have hnc68 := NB246_284.out; have hnb69 := NB284_265.out; have hnc69 := NB265_284.out; have hnb70 := NB284_271.out; have hnc70 := NB271_284.out; have hnb71 := NB284_277.out; have hnc71 := NB277_284.out; have hcz72_0 : w66.cell? ⟨gb284, 0, none⟩ = some (.int .i64 0) := bc_ BK284 0; have hcz72_1 : w66.cell? ⟨gb284, 1, none⟩ = some (.slice none 0 0) := bc_ BK284 1; have hcz72_2 : w66.cell? ⟨gb284, 2, none⟩ = some (.int .i64 0) := bc_ BK284 2; have hfz72_0 := blk_frozen BK284.out 0; have hfz72_1 := blk_frozen BK284.out 1; have hfz72_2 := blk_frozen BK284.out 2; obtain ⟨Ao73, co73, eo73⟩ := Kd.R_slice HO281.out; subst eo73))
   (try simp only [Act.put, List.setIfInBounds_toArray, List.set_cons_zero, List.set_cons_succ])
   go_cut [53] (fun v53 wc => ∃ (kq : Nat) (x53_24 : Bool), v53 = .bool x53_24 ∧ Aside0 (laws_FnExactMultiplyDyadics.j0 kq t264 t283 x53_24 a0_0 l0_1 a0_2 a1_0 l1_1 a1_2 t259 t260 t263 t266 t267 t270 t272 t273 t276 t278 t279 t282 = some r) ∧ Aside0 (kq ≤ k) ∧ Aside0 (Kd.R (Kd.int .i64) 2 wc w.heap.size (fun k_ => some k_ ≠ ((.slice Ao53 t267.length co53) : Value).ownBlock ∧ some k_ ≠ ((.slice Ao63 t273.length co63) : Value).ownBlock ∧ some k_ ≠ ((.slice Ao73 t279.length co73) : Value).ownBlock) (.slice Ao42 t260.length co42) t260) ∧ Aside0 (Kd.R (Kd.int .i64) 2 wc w.heap.size (fun k_ => some k_ ≠ ((.slice Ao42 t260.length co42) : Value).ownBlock ∧ some k_ ≠ ((.slice Ao63 t273.length co63) : Value).ownBlock ∧ some k_ ≠ ((.slice Ao73 t279.length co73) : Value).ownBlock) (.slice Ao53 t267.length co53) t267) ∧ Aside0 (Kd.R (Kd.int .i64) 2 wc w.heap.size (fun k_ => some k_ ≠ ((.slice Ao42 t260.length co42) : Value).ownBlock ∧ some k_ ≠ ((.slice Ao53 t267.length co53) : Value).ownBlock ∧ some k_ ≠ ((.slice Ao73 t279.length co73) : Value).ownBlock) (.slice Ao63 t273.length co63) t273) ∧ Aside0 (Kd.R (Kd.int .i64) 2 wc w.heap.size (fun k_ => some k_ ≠ ((.slice Ao42 t260.length co42) : Value).ownBlock ∧ some k_ ≠ ((.slice Ao53 t267.length co53) : Value).ownBlock ∧ some k_ ≠ ((.slice Ao63 t273.length co63) : Value).ownBlock) (.slice Ao73 t279.length co73) t279) ∧ Aside0 (wc.heap[gb245]? = some (.cells #[.int .i64 a0_0, (.slice A0_1 l0_1.length c0_1), .int .i64 a0_2] 26 (0, 0))) ∧ Aside0 (wc.heap[gb246]? = some (.cells #[.int .i64 a1_0, (.slice A1_1 l1_1.length c1_1), .int .i64 a1_2] 26 (0, 0))) ∧ Aside0 (wc.heap[gb265]? = some (.cells #[.int .i64 t259, (.slice Ao42 t260.length co42), .int .i64 t263] 30 (0, 0))) ∧ Aside0 (wc.heap[gb271]? = some (.cells #[.int .i64 t266, (.slice Ao53 t267.length co53), .int .i64 t270] 30 (0, 0))) ∧ Aside0 (wc.heap[gb277]? = some (.cells #[.int .i64 t272, (.slice Ao63 t273.length co63), .int .i64 t276] 30 (0, 0))) ∧ Aside0 (wc.heap[gb284]? = some (.cells #[.int .i64 t278, (.slice Ao73 t279.length co73), .int .i64 t282] 30 (0, 0))) ∧ Aside0 (Below w.heap.size w wc))
   case first =>
    have H := HC25.out; clear HC25
    replace H := Option.bind_eq_some_iff.mp H
    obtain ⟨t285, A740, H⟩ := H
    replace H : (if t285 = true then (laws_FnExactMultiplyDyadics.j0 k t264 t283 (t283 != t264) a0_0 l0_1 a0_2 a1_0 l1_1 a1_2 t259 t260 t263 t266 t267 t270 t272 t273 t276 t278 t279 t282) else (laws_FnExactMultiplyDyadics.j0 k t264 t283 true a0_0 l0_1 a0_2 a1_0 l1_1 a1_2 t259 t260 t263 t266 t267 t270 t272 t273 t276 t278 t279 t282)) = some r := H
    have A74 := Aside0.mk A740; clear A740
    by_cases c75 : t285 = true
    ·subst c75
     have H1 : (laws_FnExactMultiplyDyadics.j0 k t264 t283 (t283 != t264) a0_0 l0_1 a0_2 a1_0 l1_1 a1_2 t259 t260 t263 t266 t267 t270 t272 t273 t276 t278 t279 t282) = some r := by rw [if_pos rfl] at H; exact H
     clear H; have H := H1; clear H1
     have H' := Aside0.mk H
     clear H; have hnb76 := NB284_245.out; have hnc76 := NB245_284.out; have hnb77 := NB284_246.out; have hnc77 := NB246_284.out; have hnb78 := NB284_265.out; have hnc78 := NB265_284.out; have hnb79 := NB284_271.out; have hnc79 := NB271_284.out; have hnb80 := NB284_277.out; have hnc80 := NB277_284.out
     have hcz81_0 : w66.cell? ⟨gb284, 0, none⟩ = some (.int .i64 0) := bc_ BK284 0
     have hcz81_1 : w66.cell? ⟨gb284, 1, none⟩ = some (.slice none 0 0) := bc_ BK284 1
     have hcz81_2 : w66.cell? ⟨gb284, 2, none⟩ = some (.int .i64 0) := bc_ BK284 2
     have hfz81_0 := blk_frozen BK284.out 0; have hfz81_1 := blk_frozen BK284.out 1; have hfz81_2 := blk_frozen BK284.out 2; have hnb82 := NB265_245.out; have hnc82 := NB245_265.out; have hnb83 := NB265_246.out; have hnc83 := NB246_265.out; have hnb84 := NB265_271.out; have hnc84 := NB271_265.out; have hnb85 := NB265_277.out; have hnc85 := NB277_265.out
     have hcz86_0 : w66.cell? ⟨gb265, 0, none⟩ = some (.int .i64 t259) := bc_ BK265 0
     have hcz86_1 : w66.cell? ⟨gb265, 1, none⟩ = some (.slice Ao42 t260.length co42) := bc_ BK265 1
     have hcz86_2 : w66.cell? ⟨gb265, 2, none⟩ = some (.int .i64 t263) := bc_ BK265 2
     have hfz86_0 := blk_frozen BK265.out 0; have hfz86_1 := blk_frozen BK265.out 1; have hfz86_2 := blk_frozen BK265.out 2
     go_wp2_with (first | ((with_reducible refine gate_callee (f := 15) rfl ?_); refine goesL_ (some 47) rfl rfl Tryd.func15 (by kernel_rfl) rfl #[.agg #[.int .i64 t278, .slice Ao73 t279.length co73, .int .i64 t282], .agg #[.int .i64 t259, .slice Ao42 t260.length co42, .int .i64 t263]] rfl ma_ ?_; (with_reducible refine (laws_eqDyadic.calls k t278 _ _ t279 t282 t259 _ _ t260 t263 true _ ?side1 ?side2 ?side3 ?side4 A74.out).mono ?_); (case side1 => refine (Kd.R_reads' (e := 2) (base := w.heap.size) (ok := fun k_ => (((((True ∧ some k_ ≠ (v251 : Value).ownBlock) ∧ some k_ ≠ (v256 : Value).ownBlock) ∧ some k_ ≠ (.slice Ao42 t260.length co42 : Value).ownBlock) ∧ some k_ ≠ (.slice Ao53 t267.length co53 : Value).ownBlock) ∧ some k_ ≠ (.slice Ao63 t273.length co63 : Value).ownBlock)) (n := t279.length) (c := co73) ?_).2.2; exact (rk_ HO281 BK284)); (case side2 => exact (Kd.R_reads' HO281.out).2.1); (case side3 => refine (Kd.R_reads' (e := 2) (base := w.heap.size) (ok := fun k_ => ((((some k_ ≠ (v251 : Value).ownBlock ∧ some k_ ≠ (v256 : Value).ownBlock) ∧ some k_ ≠ (.slice Ao53 t267.length co53 : Value).ownBlock) ∧ some k_ ≠ (.slice Ao63 t273.length co63 : Value).ownBlock) ∧ some k_ ≠ (.slice Ao73 t279.length co73 : Value).ownBlock)) (n := t260.length) (c := co42) ?_).2.2; exact (rk_ HO262 BK284)); (case side4 => exact (Kd.R_reads' HO262.out).2.1); rintro e w87 ⟨rfl, hb⟩; refine ⟨_, rfl, ?_⟩; replace HO252 := am_ (Kd.R_below (rk_ HO252 BK284) hb); replace HO257 := am_ (Kd.R_below (rk_ HO257 BK284) hb); replace HO262 := am_ (Kd.R_below (rk_ HO262 BK284) hb); replace HO269 := am_ (Kd.R_below (rk_ HO269 BK284) hb); replace HO275 := am_ (Kd.R_below (rk_ HO275 BK284) hb); replace HO281 := am_ (Kd.R_below (rk_ HO281 BK284) hb); replace BK245 := am_ (blk_below (bk_ BK245) hb); replace BK246 := am_ (blk_below (bk_ BK246) hb); replace BK265 := am_ (blk_below (bk_ BK265) hb); replace BK271 := am_ (blk_below (bk_ BK271) hb); replace BK277 := am_ (blk_below (bk_ BK277) hb); replace BK284 := am_ (blk_below (bp3_ BK284) hb); replace HB := am_ (below_step (bl_ HB) hb); (try clear hb); (try clear hb2); (try clear hk); (try clear hi)))
     go_meet
     case rel => exact ⟨_, ((t283 != t264)), (by first | rfl | (simp; done) | (simp [*]; done)), H', ⟨by first | omega | exact Nat.le_refl _⟩, ⟨km_ HO262 (fun _ hk => ⟨hk.1.1.2, ⟨hk.1.2, hk.2⟩⟩)⟩, ⟨km_ HO269 (fun _ hk => ⟨hk.1.1.2, ⟨hk.1.2, hk.2⟩⟩)⟩, ⟨km_ HO275 (fun _ hk => ⟨hk.1.1.2, ⟨hk.1.2, hk.2⟩⟩)⟩, ⟨km_ HO281 (fun _ hk => ⟨hk.1.1.2, ⟨hk.1.2, hk.2⟩⟩)⟩, ⟨bk_ BK245⟩, ⟨bk_ BK246⟩, ⟨bk_ BK265⟩, ⟨bk_ BK271⟩, ⟨bk_ BK277⟩, ⟨bk_ BK284⟩, ⟨bl_ HB⟩⟩
    ·replace c75 := Bool.eq_false_iff.mpr c75
     subst c75
     have H1 : (laws_FnExactMultiplyDyadics.j0 k t264 t283 true a0_0 l0_1 a0_2 a1_0 l1_1 a1_2 t259 t260 t263 t266 t267 t270 t272 t273 t276 t278 t279 t282) = some r := by rw [if_neg (show ¬ (false = true) by decide)] at H; exact H
     clear H; have H := H1; clear H1
     have H' := Aside0.mk H
     clear H; have hnb88 := NB284_245.out; have hnc88 := NB245_284.out; have hnb89 := NB284_246.out; have hnc89 := NB246_284.out; have hnb90 := NB284_265.out; have hnc90 := NB265_284.out; have hnb91 := NB284_271.out; have hnc91 := NB271_284.out; have hnb92 := NB284_277.out; have hnc92 := NB277_284.out
     have hcz93_0 : w66.cell? ⟨gb284, 0, none⟩ = some (.int .i64 0) := bc_ BK284 0
     have hcz93_1 : w66.cell? ⟨gb284, 1, none⟩ = some (.slice none 0 0) := bc_ BK284 1
     have hcz93_2 : w66.cell? ⟨gb284, 2, none⟩ = some (.int .i64 0) := bc_ BK284 2
     have hfz93_0 := blk_frozen BK284.out 0; have hfz93_1 := blk_frozen BK284.out 1; have hfz93_2 := blk_frozen BK284.out 2; have hnb94 := NB265_245.out; have hnc94 := NB245_265.out; have hnb95 := NB265_246.out; have hnc95 := NB246_265.out; have hnb96 := NB265_271.out; have hnc96 := NB271_265.out; have hnb97 := NB265_277.out; have hnc97 := NB277_265.out
     have hcz98_0 : w66.cell? ⟨gb265, 0, none⟩ = some (.int .i64 t259) := bc_ BK265 0
     have hcz98_1 : w66.cell? ⟨gb265, 1, none⟩ = some (.slice Ao42 t260.length co42) := bc_ BK265 1
     have hcz98_2 : w66.cell? ⟨gb265, 2, none⟩ = some (.int .i64 t263) := bc_ BK265 2
     have hfz98_0 := blk_frozen BK265.out 0; have hfz98_1 := blk_frozen BK265.out 1; have hfz98_2 := blk_frozen BK265.out 2
     go_wp2_with (first | ((with_reducible refine gate_callee (f := 15) rfl ?_); refine goesL_ (some 47) rfl rfl Tryd.func15 (by kernel_rfl) rfl #[.agg #[.int .i64 t278, .slice Ao73 t279.length co73, .int .i64 t282], .agg #[.int .i64 t259, .slice Ao42 t260.length co42, .int .i64 t263]] rfl ma_ ?_; (with_reducible refine (laws_eqDyadic.calls k t278 _ _ t279 t282 t259 _ _ t260 t263 false _ ?side1 ?side2 ?side3 ?side4 A74.out).mono ?_); (case side1 => refine (Kd.R_reads' (e := 2) (base := w.heap.size) (ok := fun k_ => (((((True ∧ some k_ ≠ (v251 : Value).ownBlock) ∧ some k_ ≠ (v256 : Value).ownBlock) ∧ some k_ ≠ (.slice Ao42 t260.length co42 : Value).ownBlock) ∧ some k_ ≠ (.slice Ao53 t267.length co53 : Value).ownBlock) ∧ some k_ ≠ (.slice Ao63 t273.length co63 : Value).ownBlock)) (n := t279.length) (c := co73) ?_).2.2; exact (rk_ HO281 BK284)); (case side2 => exact (Kd.R_reads' HO281.out).2.1); (case side3 => refine (Kd.R_reads' (e := 2) (base := w.heap.size) (ok := fun k_ => ((((some k_ ≠ (v251 : Value).ownBlock ∧ some k_ ≠ (v256 : Value).ownBlock) ∧ some k_ ≠ (.slice Ao53 t267.length co53 : Value).ownBlock) ∧ some k_ ≠ (.slice Ao63 t273.length co63 : Value).ownBlock) ∧ some k_ ≠ (.slice Ao73 t279.length co73 : Value).ownBlock)) (n := t260.length) (c := co42) ?_).2.2; exact (rk_ HO262 BK284)); (case side4 => exact (Kd.R_reads' HO262.out).2.1); rintro e w99 ⟨rfl, hb⟩; refine ⟨_, rfl, ?_⟩; replace HO252 := am_ (Kd.R_below (rk_ HO252 BK284) hb); replace HO257 := am_ (Kd.R_below (rk_ HO257 BK284) hb); replace HO262 := am_ (Kd.R_below (rk_ HO262 BK284) hb); replace HO269 := am_ (Kd.R_below (rk_ HO269 BK284) hb); replace HO275 := am_ (Kd.R_below (rk_ HO275 BK284) hb); replace HO281 := am_ (Kd.R_below (rk_ HO281 BK284) hb); replace BK245 := am_ (blk_below (bk_ BK245) hb); replace BK246 := am_ (blk_below (bk_ BK246) hb); replace BK265 := am_ (blk_below (bk_ BK265) hb); replace BK271 := am_ (blk_below (bk_ BK271) hb); replace BK277 := am_ (blk_below (bk_ BK277) hb); replace BK284 := am_ (blk_below (bp3_ BK284) hb); replace HB := am_ (below_step (bl_ HB) hb); (try clear hb); (try clear hb2); (try clear hk); (try clear hi)))
     go_meet
     case rel => exact ⟨_, (true), (by first | rfl | (simp; done) | (simp [*]; done)), H', ⟨by first | omega | exact Nat.le_refl _⟩, ⟨km_ HO262 (fun _ hk => ⟨hk.1.1.2, ⟨hk.1.2, hk.2⟩⟩)⟩, ⟨km_ HO269 (fun _ hk => ⟨hk.1.1.2, ⟨hk.1.2, hk.2⟩⟩)⟩, ⟨km_ HO275 (fun _ hk => ⟨hk.1.1.2, ⟨hk.1.2, hk.2⟩⟩)⟩, ⟨km_ HO281 (fun _ hk => ⟨hk.1.1.2, ⟨hk.1.2, hk.2⟩⟩)⟩, ⟨bk_ BK245⟩, ⟨bk_ BK246⟩, ⟨bk_ BK265⟩, ⟨bk_ BK271⟩, ⟨bk_ BK277⟩, ⟨bk_ BK284⟩, ⟨bl_ HB⟩⟩
   case rest =>
    clear HC25; try clear c1; try clear p2; try clear c3; try clear c4; try clear c5; try clear c6; try clear c7; try clear c8; try clear c9; try clear c13; try clear c15; try clear c30; try clear c31; try clear c45; try clear c49; try clear c50; try clear c51; try clear c54; try clear c58; try clear c59; try clear c60; try clear c61; try clear c67; try clear c68; try clear c69; try clear c70; try clear c71; try clear c75; try clear c76; try clear c77; try clear c78; try clear c79; try clear c80; try clear c82; try clear c83; try clear c84; try clear c85; try clear c88; try clear c89; try clear c90; try clear c91; try clear c92; try clear c94; try clear c95; try clear c96; try clear c97; try clear hcz46_0; try clear hcz46_1; try clear hcz46_2; try clear hcz52_0; try clear hcz52_1; try clear hcz52_2; try clear hcz55_0; try clear hcz55_1; try clear hcz55_2; try clear hcz62_0; try clear hcz62_1; try clear hcz62_2; try clear hcz64_0; try clear hcz64_1; try clear hcz64_2; try clear hcz72_0; try clear hcz72_1; try clear hcz72_2; try clear hcz81_0; try clear hcz81_1; try clear hcz81_2; try clear hcz86_0; try clear hcz86_1; try clear hcz86_2; try clear hcz93_0; try clear hcz93_1; try clear hcz93_2; try clear hcz98_0; try clear hcz98_1; try clear hcz98_2; try clear hfz46_0; try clear hfz46_1; try clear hfz46_2; try clear hfz52_0; try clear hfz52_1; try clear hfz52_2; try clear hfz55_0; try clear hfz55_1; try clear hfz55_2; try clear hfz62_0; try clear hfz62_1; try clear hfz62_2; try clear hfz64_0; try clear hfz64_1; try clear hfz64_2; try clear hfz72_0; try clear hfz72_1; try clear hfz72_2; try clear hfz81_0; try clear hfz81_1; try clear hfz81_2; try clear hfz86_0; try clear hfz86_1; try clear hfz86_2; try clear hfz93_0; try clear hfz93_1; try clear hfz93_2; try clear hfz98_0; try clear hfz98_1; try clear hfz98_2
    obtain ⟨kq, x53_24, rfl, HA, HJ24, HO_266001, HO_272001, HO_278001, HO_285001, BK245, BK246, BK265, BK271, BK277, BK284, HB⟩ := hcut
    cases kq with
    | zero => exact absurd HA.out (by simp [laws_FnExactMultiplyDyadics.j0])
    | succ kj24 =>
     have H := HA.out; clear HA
     simp only [laws_FnExactMultiplyDyadics.j0] at H
     by_cases c100 : x53_24 = true
     ·subst c100
      have H1 : (some false) = some r := by rw [if_pos rfl] at H; exact H
      clear H; have H := H1; clear H1; obtain rfl := Option.some.inj H
      go_wp2
      go_ret
      exact ⟨by first | rfl | (simp [errW_none, errW_some] <;> rfl) | (simp [*, errW_none, errW_some] <;> rfl), bl_ HB⟩
     ·replace c100 := Bool.eq_false_iff.mpr c100
      subst c100
      have H1 : ((laws_toDyadic.f kj24 a0_0 l0_1 a0_2).bind fun bt286 => ((laws_eqDyadic.f kj24 t266 t267 t270 bt286.1 bt286.2.1 bt286.2.2).bind fun t291 => (if t291 = true then ((laws_toDyadic.f kj24 a1_0 l1_1 a1_2).bind fun bt292 => ((laws_eqDyadic.f kj24 t272 t273 t276 bt292.1 bt292.2.1 bt292.2.2).bind fun t297 => (if t297 = true then ((laws_markDyadic.f kj24 t266 t267 t270 1).bind fun bt298 => ((laws_markDyadic.f kj24 t272 t273 t276 bt298.1).bind fun bt300 => (if bt300.1 < 0 then (laws_FnExactMultiplyDyadics.j1 kj24 t264 true a0_0 l0_1 a0_2 a1_0 l1_1 a1_2 t259 t260 t263 t278 t279 t282) else ((laws_eqDyadic.f kj24 t278 t279 t282 t259 t260 t263).bind fun t302 => (if t302 = true then (laws_FnExactMultiplyDyadics.j1 kj24 t264 (t283 != t264) a0_0 l0_1 a0_2 a1_0 l1_1 a1_2 t259 t260 t263 t278 t279 t282) else (laws_FnExactMultiplyDyadics.j1 kj24 t264 true a0_0 l0_1 a0_2 a1_0 l1_1 a1_2 t259 t260 t263 t278 t279 t282)))))) else (some false)))) else (some false)))) = some r := by rw [if_neg (show ¬ (false = true) by decide)] at H; exact H
      clear H; have H := H1; clear H1
      replace H := Option.bind_eq_some_iff.mp H
      obtain ⟨⟨t286, t287, t290⟩, A1010, H⟩ := H
      replace H : ((laws_eqDyadic.f kj24 t266 t267 t270 t286 t287 t290).bind fun t291 => (if t291 = true then ((laws_toDyadic.f kj24 a1_0 l1_1 a1_2).bind fun bt292 => ((laws_eqDyadic.f kj24 t272 t273 t276 bt292.1 bt292.2.1 bt292.2.2).bind fun t297 => (if t297 = true then ((laws_markDyadic.f kj24 t266 t267 t270 1).bind fun bt298 => ((laws_markDyadic.f kj24 t272 t273 t276 bt298.1).bind fun bt300 => (if bt300.1 < 0 then (laws_FnExactMultiplyDyadics.j1 kj24 t264 true a0_0 l0_1 a0_2 a1_0 l1_1 a1_2 t259 t260 t263 t278 t279 t282) else ((laws_eqDyadic.f kj24 t278 t279 t282 t259 t260 t263).bind fun t302 => (if t302 = true then (laws_FnExactMultiplyDyadics.j1 kj24 t264 (t283 != t264) a0_0 l0_1 a0_2 a1_0 l1_1 a1_2 t259 t260 t263 t278 t279 t282) else (laws_FnExactMultiplyDyadics.j1 kj24 t264 true a0_0 l0_1 a0_2 a1_0 l1_1 a1_2 t259 t260 t263 t278 t279 t282)))))) else (some false)))) else (some false))) = some r := H
      have A101 := Aside0.mk A1010; clear A1010
      replace H := Option.bind_eq_some_iff.mp H
      obtain ⟨t291, A1020, H⟩ := H
      replace H : (if t291 = true then ((laws_toDyadic.f kj24 a1_0 l1_1 a1_2).bind fun bt292 => ((laws_eqDyadic.f kj24 t272 t273 t276 bt292.1 bt292.2.1 bt292.2.2).bind fun t297 => (if t297 = true then ((laws_markDyadic.f kj24 t266 t267 t270 1).bind fun bt298 => ((laws_markDyadic.f kj24 t272 t273 t276 bt298.1).bind fun bt300 => (if bt300.1 < 0 then (laws_FnExactMultiplyDyadics.j1 kj24 t264 true a0_0 l0_1 a0_2 a1_0 l1_1 a1_2 t259 t260 t263 t278 t279 t282) else ((laws_eqDyadic.f kj24 t278 t279 t282 t259 t260 t263).bind fun t302 => (if t302 = true then (laws_FnExactMultiplyDyadics.j1 kj24 t264 (t283 != t264) a0_0 l0_1 a0_2 a1_0 l1_1 a1_2 t259 t260 t263 t278 t279 t282) else (laws_FnExactMultiplyDyadics.j1 kj24 t264 true a0_0 l0_1 a0_2 a1_0 l1_1 a1_2 t259 t260 t263 t278 t279 t282)))))) else (some false)))) else (some false)) = some r := H
      have A102 := Aside0.mk A1020; clear A1020
      by_cases c103 : t291 = true
      ·subst c103
       have H1 : ((laws_toDyadic.f kj24 a1_0 l1_1 a1_2).bind fun bt292 => ((laws_eqDyadic.f kj24 t272 t273 t276 bt292.1 bt292.2.1 bt292.2.2).bind fun t297 => (if t297 = true then ((laws_markDyadic.f kj24 t266 t267 t270 1).bind fun bt298 => ((laws_markDyadic.f kj24 t272 t273 t276 bt298.1).bind fun bt300 => (if bt300.1 < 0 then (laws_FnExactMultiplyDyadics.j1 kj24 t264 true a0_0 l0_1 a0_2 a1_0 l1_1 a1_2 t259 t260 t263 t278 t279 t282) else ((laws_eqDyadic.f kj24 t278 t279 t282 t259 t260 t263).bind fun t302 => (if t302 = true then (laws_FnExactMultiplyDyadics.j1 kj24 t264 (t283 != t264) a0_0 l0_1 a0_2 a1_0 l1_1 a1_2 t259 t260 t263 t278 t279 t282) else (laws_FnExactMultiplyDyadics.j1 kj24 t264 true a0_0 l0_1 a0_2 a1_0 l1_1 a1_2 t259 t260 t263 t278 t279 t282)))))) else (some false)))) = some r := by rw [if_pos rfl] at H; exact H
       clear H; have H := H1; clear H1
       replace H := Option.bind_eq_some_iff.mp H
       obtain ⟨⟨t292, t293, t296⟩, A1040, H⟩ := H
       replace H : ((laws_eqDyadic.f kj24 t272 t273 t276 t292 t293 t296).bind fun t297 => (if t297 = true then ((laws_markDyadic.f kj24 t266 t267 t270 1).bind fun bt298 => ((laws_markDyadic.f kj24 t272 t273 t276 bt298.1).bind fun bt300 => (if bt300.1 < 0 then (laws_FnExactMultiplyDyadics.j1 kj24 t264 true a0_0 l0_1 a0_2 a1_0 l1_1 a1_2 t259 t260 t263 t278 t279 t282) else ((laws_eqDyadic.f kj24 t278 t279 t282 t259 t260 t263).bind fun t302 => (if t302 = true then (laws_FnExactMultiplyDyadics.j1 kj24 t264 (t283 != t264) a0_0 l0_1 a0_2 a1_0 l1_1 a1_2 t259 t260 t263 t278 t279 t282) else (laws_FnExactMultiplyDyadics.j1 kj24 t264 true a0_0 l0_1 a0_2 a1_0 l1_1 a1_2 t259 t260 t263 t278 t279 t282)))))) else (some false))) = some r := H
       have A104 := Aside0.mk A1040; clear A1040
       replace H := Option.bind_eq_some_iff.mp H
       obtain ⟨t297, A1050, H⟩ := H
       replace H : (if t297 = true then ((laws_markDyadic.f kj24 t266 t267 t270 1).bind fun bt298 => ((laws_markDyadic.f kj24 t272 t273 t276 bt298.1).bind fun bt300 => (if bt300.1 < 0 then (laws_FnExactMultiplyDyadics.j1 kj24 t264 true a0_0 l0_1 a0_2 a1_0 l1_1 a1_2 t259 t260 t263 t278 t279 t282) else ((laws_eqDyadic.f kj24 t278 t279 t282 t259 t260 t263).bind fun t302 => (if t302 = true then (laws_FnExactMultiplyDyadics.j1 kj24 t264 (t283 != t264) a0_0 l0_1 a0_2 a1_0 l1_1 a1_2 t259 t260 t263 t278 t279 t282) else (laws_FnExactMultiplyDyadics.j1 kj24 t264 true a0_0 l0_1 a0_2 a1_0 l1_1 a1_2 t259 t260 t263 t278 t279 t282)))))) else (some false)) = some r := H
       have A105 := Aside0.mk A1050; clear A1050
       by_cases c106 : t297 = true
       ·subst c106
        have H1 : ((laws_markDyadic.f kj24 t266 t267 t270 1).bind fun bt298 => ((laws_markDyadic.f kj24 t272 t273 t276 bt298.1).bind fun bt300 => (if bt300.1 < 0 then (laws_FnExactMultiplyDyadics.j1 kj24 t264 true a0_0 l0_1 a0_2 a1_0 l1_1 a1_2 t259 t260 t263 t278 t279 t282) else ((laws_eqDyadic.f kj24 t278 t279 t282 t259 t260 t263).bind fun t302 => (if t302 = true then (laws_FnExactMultiplyDyadics.j1 kj24 t264 (t283 != t264) a0_0 l0_1 a0_2 a1_0 l1_1 a1_2 t259 t260 t263 t278 t279 t282) else (laws_FnExactMultiplyDyadics.j1 kj24 t264 true a0_0 l0_1 a0_2 a1_0 l1_1 a1_2 t259 t260 t263 t278 t279 t282)))))) = some r := by rw [if_pos rfl] at H; exact H
        clear H; have H := H1; clear H1
        replace H := Option.bind_eq_some_iff.mp H
        obtain ⟨⟨t298, t299⟩, A1070, H⟩ := H
        replace H : ((laws_markDyadic.f kj24 t272 t273 t276 t298).bind fun bt300 => (if bt300.1 < 0 then (laws_FnExactMultiplyDyadics.j1 kj24 t264 true a0_0 l0_1 a0_2 a1_0 l1_1 a1_2 t259 t260 t263 t278 t279 t282) else ((laws_eqDyadic.f kj24 t278 t279 t282 t259 t260 t263).bind fun t302 => (if t302 = true then (laws_FnExactMultiplyDyadics.j1 kj24 t264 (t283 != t264) a0_0 l0_1 a0_2 a1_0 l1_1 a1_2 t259 t260 t263 t278 t279 t282) else (laws_FnExactMultiplyDyadics.j1 kj24 t264 true a0_0 l0_1 a0_2 a1_0 l1_1 a1_2 t259 t260 t263 t278 t279 t282))))) = some r := H
        have A107 := Aside0.mk A1070; clear A1070
        replace H := Option.bind_eq_some_iff.mp H
        obtain ⟨⟨t300, t301⟩, A1080, H⟩ := H
        replace H : (if t300 < 0 then (laws_FnExactMultiplyDyadics.j1 kj24 t264 true a0_0 l0_1 a0_2 a1_0 l1_1 a1_2 t259 t260 t263 t278 t279 t282) else ((laws_eqDyadic.f kj24 t278 t279 t282 t259 t260 t263).bind fun t302 => (if t302 = true then (laws_FnExactMultiplyDyadics.j1 kj24 t264 (t283 != t264) a0_0 l0_1 a0_2 a1_0 l1_1 a1_2 t259 t260 t263 t278 t279 t282) else (laws_FnExactMultiplyDyadics.j1 kj24 t264 true a0_0 l0_1 a0_2 a1_0 l1_1 a1_2 t259 t260 t263 t278 t279 t282)))) = some r := H
        have A108 := Aside0.mk A1080; clear A1080; have HC109 := Aside0.mk H; clear H
        try go_wp2
        have n0_ := am_ (Kd.R_drew HO_266001.out); have n1_ := am_ (Kd.R_drew HO_272001.out); have n2_ := am_ (Kd.R_drew HO_278001.out); have n3_ := am_ (Kd.R_drew HO_285001.out); have n4_ := am_ (blk_drew BK245.out); have n5_ := am_ (blk_drew BK246.out); have n6_ := am_ (blk_drew BK265.out); have n7_ := am_ (blk_drew BK271.out); have n8_ := am_ (blk_drew BK277.out); have n9_ := am_ (blk_drew BK284.out); have n10_ := am_ (below_drew1 HB.out); clear HO_266001 HO_272001 HO_278001 HO_285001 BK245 BK246 BK265 BK271 BK277 BK284 HB; have HO_266001 := n0_; have HO_272001 := n1_; have HO_278001 := n2_; have HO_285001 := n3_; have BK245 := n4_; have BK246 := n5_; have BK265 := n6_; have BK271 := n7_; have BK277 := n8_; have BK284 := n9_; have HB := n10_; clear n0_ n1_ n2_ n3_ n4_ n5_ n6_ n7_ n8_ n9_ n10_
        refine start_ (n := 5) (S := fun w' => w'.cell? ⟨gb271, 0, none⟩ = some (.int .i64 t266) ∧ w'.cell? ⟨gb271, 1, none⟩ = some (.slice Ao53 t267.length co53) ∧ w'.cell? ⟨gb271, 2, none⟩ = some (.int .i64 t270) ∧ w'.cell? ⟨gb245, 0, none⟩ = some (.int .i64 a0_0) ∧ w'.cell? ⟨gb245, 1, none⟩ = some (.slice A0_1 l0_1.length c0_1) ∧ w'.cell? ⟨gb245, 2, none⟩ = some (.int .i64 a0_2)) (ds := []) #[false, false, false, false, false] (by kernel_rfl) rfl rfl ⟨bc_ BK271 0, bc_ BK271 1, bc_ BK271 2, bc_ BK245 0, bc_ BK245 1, bc_ BK245 2⟩ (fun hHeld => ?_)
        generalize wc.drew = w110 at HO_266001 HO_272001 HO_278001 HO_285001 BK245 BK246 BK265 BK271 BK277 BK284 HB hHeld ⊢
        refine take_ (i := 0) (N := some 54) (v := ?_) (a' := ?_) #[true, false, false, false, false] rfl rfl (by kernel_rfl) (fun _ _ _ h => h) (Or.inl ⟨by rfl, ?_⟩) hHeld ?_ ?_
        rotate_left
        ·rintro w' ⟨s0, s1, s2, s3, s4, s5⟩
         go_simp
         with_reducible rfl
        rotate_left
        ·exact nm_
        refine take_ (i := 1) (N := some 55) (v := ?_) (a' := ?_) #[true, true, false, false, false] rfl rfl (by kernel_rfl) (fun _ _ _ h => h) (Or.inl ⟨by rfl, ?_⟩) hHeld ?_ ?_
        rotate_left
        ·rintro w' ⟨s0, s1, s2, s3, s4, s5⟩
         go_simp
         with_reducible rfl
        rotate_left
        ·exact nm_
        refine one_ (i := 2) (N := some 56) #[true, true, true, false, false] rfl rfl (by kernel_rfl) (by decide) (fun K hK => ?_)
        refine goes_ Tryd.func13 (by kernel_rfl) rfl #[.agg #[.int .i64 a0_0, .slice A0_1 l0_1.length c0_1, .int .i64 a0_2]] (by rfl) rfl rfl ma_ ?_
        with_reducible refine (laws_toDyadic.calls kj24 a0_0 _ _ l0_1 a0_2 t286 t287 t290 _ ?side1 ?side2 A101.out).mono ?_
        (case side1 => exact cb_ HR0_1 HB)
        (case side2 => exact HC0_1.out)
        rintro e w111 ⟨v288, rfl, ho0, hb⟩
        refine ⟨_, rfl, ?_⟩
        have n0_ := am_ (Kd.R_elder' (kr_ HO_266001) (Kd.R_base ho0) hb); have n1_ := am_ (Kd.R_elder' (kr_ HO_272001) (Kd.R_base ho0) hb); have n2_ := am_ (Kd.R_elder' (kr_ HO_278001) (Kd.R_base ho0) hb); have n3_ := am_ (Kd.R_elder' (kr_ HO_285001) (Kd.R_base ho0) hb); have n4_ := am_ (Kd.R_lower (Kd.R_new' (Kd.R_new' (Kd.R_new' (Kd.R_new' ho0 (Kd.R_lt (kr_ HO_266001))) (Kd.R_lt (kr_ HO_272001))) (Kd.R_lt (kr_ HO_278001))) (Kd.R_lt (kr_ HO_285001))) (below_size (bl_ HB))); have n5_ := am_ (blk_below (bk_ BK245) hb); have n6_ := am_ (blk_below (bk_ BK246) hb); have n7_ := am_ (blk_below (bk_ BK265) hb); have n8_ := am_ (blk_below (bk_ BK271) hb); have n9_ := am_ (blk_below (bk_ BK277) hb); have n10_ := am_ (blk_below (bk_ BK284) hb); have n11_ := am_ (below_step (bl_ HB) hb); clear HO_266001 HO_272001 HO_278001 HO_285001 BK245 BK246 BK265 BK271 BK277 BK284 HB; have HO_266001 := n0_; have HO_272001 := n1_; have HO_278001 := n2_; have HO_285001 := n3_; have HO289 := n4_; have BK245 := n5_; have BK246 := n6_; have BK265 := n7_; have BK271 := n8_; have BK277 := n9_; have BK284 := n10_; have HB := n11_; clear n0_ n1_ n2_ n3_ n4_ n5_ n6_ n7_ n8_ n9_ n10_ n11_; (try clear hb); (try clear hb2); (try clear hk); (try clear hi); (try clear ho0)
        obtain ⟨Ao112, co112, eo112⟩ := Kd.R_slice HO289.out
        (first | subst eo112 | (injection eo112 with f1_ f2_ f3_; have f4_ := f1_.symm; have f5_ := f3_.symm; clear f1_ f2_ f3_; subst f4_; subst f5_))
        refine hK.out _ _ ⟨bc_ BK271 0, bc_ BK271 1, bc_ BK271 2, bc_ BK245 0, bc_ BK245 1, bc_ BK245 2⟩ (fun hHeld => ?_)
        clear hK K
        refine norm_ (a' := ?_) ?_ ?_
        rotate_left
        ·show Act.put _ (some 56) _ = _
         exact nm_
        refine one_ (i := 3) (N := some 57) #[true, true, true, true, false] rfl rfl (by kernel_rfl) (by decide) (fun K hK => ?_)
        refine goes_ Tryd.func15 (by kernel_rfl) rfl #[.agg #[.int .i64 t266, .slice Ao53 t267.length co53, .int .i64 t270], .agg #[.int .i64 t286, .slice Ao112 t287.length co112, .int .i64 t290]] (by rfl) rfl rfl ma_ ?_
        with_reducible refine (laws_eqDyadic.calls kj24 t266 _ _ t267 t270 t286 _ _ t287 t290 true _ ?side1 ?side2 ?side3 ?side4 A102.out).mono ?_
        (case side1 => exact cr_ HO_272001)
        (case side2 => exact (Kd.R_reads' HO_272001.out).2.1)
        (case side3 => exact cr_ HO289)
        (case side4 => exact (Kd.R_reads' HO289.out).2.1)
        rintro e w113 ⟨rfl, hb⟩
        refine ⟨_, rfl, ?_⟩
        have n0_ := am_ (Kd.R_below (kr_ HO_266001) hb); have n1_ := am_ (Kd.R_below (kr_ HO_272001) hb); have n2_ := am_ (Kd.R_below (kr_ HO_278001) hb); have n3_ := am_ (Kd.R_below (kr_ HO_285001) hb); have n4_ := am_ (Kd.R_below (kr_ HO289) hb); have n5_ := am_ (blk_below (bk_ BK245) hb); have n6_ := am_ (blk_below (bk_ BK246) hb); have n7_ := am_ (blk_below (bk_ BK265) hb); have n8_ := am_ (blk_below (bk_ BK271) hb); have n9_ := am_ (blk_below (bk_ BK277) hb); have n10_ := am_ (blk_below (bk_ BK284) hb); have n11_ := am_ (below_step (bl_ HB) hb); clear HO_266001 HO_272001 HO_278001 HO_285001 HO289 BK245 BK246 BK265 BK271 BK277 BK284 HB; have HO_266001 := n0_; have HO_272001 := n1_; have HO_278001 := n2_; have HO_285001 := n3_; have HO289 := n4_; have BK245 := n5_; have BK246 := n6_; have BK265 := n7_; have BK271 := n8_; have BK277 := n9_; have BK284 := n10_; have HB := n11_; clear n0_ n1_ n2_ n3_ n4_ n5_ n6_ n7_ n8_ n9_ n10_ n11_; (try clear hb); (try clear hb2); (try clear hk); (try clear hi)
        refine hK.out _ _ ⟨bc_ BK271 0, bc_ BK271 1, bc_ BK271 2, bc_ BK245 0, bc_ BK245 1, bc_ BK245 2⟩ (fun hHeld => ?_)
        clear hK K
        refine norm_ (a' := ?_) ?_ ?_
        rotate_left
        ·show Act.put _ (some 57) _ = _
         exact nm_
        refine pure_ (i := 4) (N := some 58) (v := ?_) (a' := ?_) #[true, true, true, true, true] rfl rfl (by kernel_rfl) (fun _ _ _ h => h) (Or.inl ⟨by rfl, ?_⟩) ?_ ?_
        rotate_left
        ·intro w'
         go_simp
         with_reducible rfl
        rotate_left
        ·exact nm_
        refine done_ (by kernel_rfl) ?_
        try go_wp2
        have n0_ := am_ (Kd.R_drew HO_266001.out); have n1_ := am_ (Kd.R_drew HO_272001.out); have n2_ := am_ (Kd.R_drew HO_278001.out); have n3_ := am_ (Kd.R_drew HO_285001.out); have n4_ := am_ (Kd.R_drew HO289.out); have n5_ := am_ (blk_drew BK245.out); have n6_ := am_ (blk_drew BK246.out); have n7_ := am_ (blk_drew BK265.out); have n8_ := am_ (blk_drew BK271.out); have n9_ := am_ (blk_drew BK277.out); have n10_ := am_ (blk_drew BK284.out); have n11_ := am_ (below_drew1 HB.out); clear HO_266001 HO_272001 HO_278001 HO_285001 HO289 BK245 BK246 BK265 BK271 BK277 BK284 HB; have HO_266001 := n0_; have HO_272001 := n1_; have HO_278001 := n2_; have HO_285001 := n3_; have HO289 := n4_; have BK245 := n5_; have BK246 := n6_; have BK265 := n7_; have BK271 := n8_; have BK277 := n9_; have BK284 := n10_; have HB := n11_; clear n0_ n1_ n2_ n3_ n4_ n5_ n6_ n7_ n8_ n9_ n10_ n11_
        refine start_ (n := 5) (S := fun w' => w'.cell? ⟨gb277, 0, none⟩ = some (.int .i64 t272) ∧ w'.cell? ⟨gb277, 1, none⟩ = some (.slice Ao63 t273.length co63) ∧ w'.cell? ⟨gb277, 2, none⟩ = some (.int .i64 t276) ∧ w'.cell? ⟨gb246, 0, none⟩ = some (.int .i64 a1_0) ∧ w'.cell? ⟨gb246, 1, none⟩ = some (.slice A1_1 l1_1.length c1_1) ∧ w'.cell? ⟨gb246, 2, none⟩ = some (.int .i64 a1_2)) (ds := []) #[false, false, false, false, false] (by kernel_rfl) rfl rfl ⟨bc_ BK277 0, bc_ BK277 1, bc_ BK277 2, bc_ BK246 0, bc_ BK246 1, bc_ BK246 2⟩ (fun hHeld => ?_)
        generalize w113.drew = w114 at HO_266001 HO_272001 HO_278001 HO_285001 HO289 BK245 BK246 BK265 BK271 BK277 BK284 HB hHeld ⊢
        refine take_ (i := 0) (N := some 59) (v := ?_) (a' := ?_) #[true, false, false, false, false] rfl rfl (by kernel_rfl) (fun _ _ _ h => h) (Or.inl ⟨by rfl, ?_⟩) hHeld ?_ ?_
        rotate_left
        ·rintro w' ⟨s0, s1, s2, s3, s4, s5⟩
         go_simp
         with_reducible rfl
        rotate_left
        ·exact nm_
        refine take_ (i := 1) (N := some 60) (v := ?_) (a' := ?_) #[true, true, false, false, false] rfl rfl (by kernel_rfl) (fun _ _ _ h => h) (Or.inl ⟨by rfl, ?_⟩) hHeld ?_ ?_
        rotate_left
        ·rintro w' ⟨s0, s1, s2, s3, s4, s5⟩
         go_simp
         with_reducible rfl
        rotate_left
        ·exact nm_
        refine one_ (i := 2) (N := some 61) #[true, true, true, false, false] rfl rfl (by kernel_rfl) (by decide) (fun K hK => ?_)
        refine goes_ Tryd.func13 (by kernel_rfl) rfl #[.agg #[.int .i64 a1_0, .slice A1_1 l1_1.length c1_1, .int .i64 a1_2]] (by rfl) rfl rfl ma_ ?_
        with_reducible refine (laws_toDyadic.calls kj24 a1_0 _ _ l1_1 a1_2 t292 t293 t296 _ ?side1 ?side2 A104.out).mono ?_
        (case side1 => exact cb_ HR1_1 HB)
        (case side2 => exact HC1_1.out)
        rintro e w115 ⟨v294, rfl, ho0, hb⟩
        refine ⟨_, rfl, ?_⟩
        have n0_ := am_ (Kd.R_elder' (kr_ HO_266001) (Kd.R_base ho0) hb); have n1_ := am_ (Kd.R_elder' (kr_ HO_272001) (Kd.R_base ho0) hb); have n2_ := am_ (Kd.R_elder' (kr_ HO_278001) (Kd.R_base ho0) hb); have n3_ := am_ (Kd.R_elder' (kr_ HO_285001) (Kd.R_base ho0) hb); have n4_ := am_ (Kd.R_elder' (kr_ HO289) (Kd.R_base ho0) hb); have n5_ := am_ (Kd.R_lower (Kd.R_new' (Kd.R_new' (Kd.R_new' (Kd.R_new' (Kd.R_new' ho0 (Kd.R_lt (kr_ HO_266001))) (Kd.R_lt (kr_ HO_272001))) (Kd.R_lt (kr_ HO_278001))) (Kd.R_lt (kr_ HO_285001))) (Kd.R_lt (kr_ HO289))) (below_size (bl_ HB))); have n6_ := am_ (blk_below (bk_ BK245) hb); have n7_ := am_ (blk_below (bk_ BK246) hb); have n8_ := am_ (blk_below (bk_ BK265) hb); have n9_ := am_ (blk_below (bk_ BK271) hb); have n10_ := am_ (blk_below (bk_ BK277) hb); have n11_ := am_ (blk_below (bk_ BK284) hb); have n12_ := am_ (below_step (bl_ HB) hb); clear HO_266001 HO_272001 HO_278001 HO_285001 HO289 BK245 BK246 BK265 BK271 BK277 BK284 HB; have HO_266001 := n0_; have HO_272001 := n1_; have HO_278001 := n2_; have HO_285001 := n3_; have HO289 := n4_; have HO295 := n5_; have BK245 := n6_; have BK246 := n7_; have BK265 := n8_; have BK271 := n9_; have BK277 := n10_; have BK284 := n11_; have HB := n12_; clear n0_ n1_ n2_ n3_ n4_ n5_ n6_ n7_ n8_ n9_ n10_ n11_ n12_; (try clear hb); (try clear hb2); (try clear hk); (try clear hi); (try clear ho0)
        obtain ⟨Ao116, co116, eo116⟩ := Kd.R_slice HO295.out
        (first | subst eo116 | (injection eo116 with f1_ f2_ f3_; have f4_ := f1_.symm; have f5_ := f3_.symm; clear f1_ f2_ f3_; subst f4_; subst f5_))
        refine hK.out _ _ ⟨bc_ BK277 0, bc_ BK277 1, bc_ BK277 2, bc_ BK246 0, bc_ BK246 1, bc_ BK246 2⟩ (fun hHeld => ?_)
        clear hK K
        refine norm_ (a' := ?_) ?_ ?_
        rotate_left
        ·show Act.put _ (some 61) _ = _
         exact nm_
        refine one_ (i := 3) (N := some 62) #[true, true, true, true, false] rfl rfl (by kernel_rfl) (by decide) (fun K hK => ?_)
        refine goes_ Tryd.func15 (by kernel_rfl) rfl #[.agg #[.int .i64 t272, .slice Ao63 t273.length co63, .int .i64 t276], .agg #[.int .i64 t292, .slice Ao116 t293.length co116, .int .i64 t296]] (by rfl) rfl rfl ma_ ?_
        with_reducible refine (laws_eqDyadic.calls kj24 t272 _ _ t273 t276 t292 _ _ t293 t296 true _ ?side1 ?side2 ?side3 ?side4 A105.out).mono ?_
        (case side1 => exact cr_ HO_278001)
        (case side2 => exact (Kd.R_reads' HO_278001.out).2.1)
        (case side3 => exact cr_ HO295)
        (case side4 => exact (Kd.R_reads' HO295.out).2.1)
        rintro e w117 ⟨rfl, hb⟩
        refine ⟨_, rfl, ?_⟩
        have n0_ := am_ (Kd.R_below (kr_ HO_266001) hb); have n1_ := am_ (Kd.R_below (kr_ HO_272001) hb); have n2_ := am_ (Kd.R_below (kr_ HO_278001) hb); have n3_ := am_ (Kd.R_below (kr_ HO_285001) hb); have n4_ := am_ (Kd.R_below (kr_ HO289) hb); have n5_ := am_ (Kd.R_below (kr_ HO295) hb); have n6_ := am_ (blk_below (bk_ BK245) hb); have n7_ := am_ (blk_below (bk_ BK246) hb); have n8_ := am_ (blk_below (bk_ BK265) hb); have n9_ := am_ (blk_below (bk_ BK271) hb); have n10_ := am_ (blk_below (bk_ BK277) hb); have n11_ := am_ (blk_below (bk_ BK284) hb); have n12_ := am_ (below_step (bl_ HB) hb); clear HO_266001 HO_272001 HO_278001 HO_285001 HO289 HO295 BK245 BK246 BK265 BK271 BK277 BK284 HB; have HO_266001 := n0_; have HO_272001 := n1_; have HO_278001 := n2_; have HO_285001 := n3_; have HO289 := n4_; have HO295 := n5_; have BK245 := n6_; have BK246 := n7_; have BK265 := n8_; have BK271 := n9_; have BK277 := n10_; have BK284 := n11_; have HB := n12_; clear n0_ n1_ n2_ n3_ n4_ n5_ n6_ n7_ n8_ n9_ n10_ n11_ n12_; (try clear hb); (try clear hb2); (try clear hk); (try clear hi)
        refine hK.out _ _ ⟨bc_ BK277 0, bc_ BK277 1, bc_ BK277 2, bc_ BK246 0, bc_ BK246 1, bc_ BK246 2⟩ (fun hHeld => ?_)
        clear hK K
        refine norm_ (a' := ?_) ?_ ?_
        rotate_left
        ·show Act.put _ (some 62) _ = _
         exact nm_
        refine pure_ (i := 4) (N := some 63) (v := ?_) (a' := ?_) #[true, true, true, true, true] rfl rfl (by kernel_rfl) (fun _ _ _ h => h) (Or.inl ⟨by rfl, ?_⟩) ?_ ?_
        rotate_left
        ·intro w'
         go_simp
         with_reducible rfl
        rotate_left
        ·exact nm_
        refine done_ (by kernel_rfl) ?_
        have hnb118 := NB271_245.out; have hnc118 := NB245_271.out; have hnb119 := NB271_246.out; have hnc119 := NB246_271.out; have hnb120 := NB271_265.out; have hnc120 := NB265_271.out; have hnb121 := NB271_277.out; have hnc121 := NB277_271.out; have hnb122 := NB271_284.out; have hnc122 := NB284_271.out
        have hcz123_0 : w117.cell? ⟨gb271, 0, none⟩ = some (.int .i64 t266) := bc_ BK271 0
        have hcz123_1 : w117.cell? ⟨gb271, 1, none⟩ = some (.slice Ao53 t267.length co53) := bc_ BK271 1
        have hcz123_2 : w117.cell? ⟨gb271, 2, none⟩ = some (.int .i64 t270) := bc_ BK271 2
        have hfz123_0 := blk_frozen BK271.out 0; have hfz123_1 := blk_frozen BK271.out 1; have hfz123_2 := blk_frozen BK271.out 2
        go_upto_region 21 with (first | ((with_reducible refine gate_callee (f := 16) rfl ?_); refine goesL_ (some 66) rfl rfl Tryd.func16 (by kernel_rfl) rfl #[.agg #[.int .i64 t266, .slice Ao53 t267.length co53, .int .i64 t270], .int .i64 1] rfl ma_ ?_; (with_reducible refine (laws_markDyadic.calls kj24 t266 (fun k_ => some k_ = (.slice Ao53 t267.length co53 : Value).ownBlock) (.slice Ao53 t267.length co53) t267 t270 1 t298 t299 w _ ?side1 ?side2 A107.out).mono ?_); (case side1 => exact bl_ HB); (case side2 => exact Kd.R_tight rfl HO_272001.out); rintro e w124 ⟨rfl, hy0, hb, hkp⟩; refine ⟨_, rfl, ?_⟩; have n0_ := am_ (Kd.R_mono (ok' := fun k_ => some k_ ≠ (.slice Ao53 t267.length co53 : Value).ownBlock ∧ some k_ ≠ (.slice Ao63 t273.length co63 : Value).ownBlock ∧ some k_ ≠ (.slice Ao73 t279.length co73 : Value).ownBlock ∧ some k_ ≠ (.slice Ao112 t287.length co112 : Value).ownBlock ∧ some k_ ≠ (.slice Ao116 t293.length co116 : Value).ownBlock) (Kd.R_keptB (HO_266001.out) hkp (fun k_ hk_ hs_ => (hk_.1.1.1) hs_)) (fun k_ hk_ => ⟨hk_.1.1.1.1, hk_.1.1.1.2.1, hk_.1.1.1.2.2, hk_.1.1.2, hk_.1.2⟩)); have n1_ := am_ (Kd.R_reok rfl hy0 (fun k_ e_ => HO_272001.out.1 k_ e_)); have n2_ := am_ (Kd.R_mono (ok' := fun k_ => some k_ ≠ (.slice Ao42 t260.length co42 : Value).ownBlock ∧ some k_ ≠ (.slice Ao53 t267.length co53 : Value).ownBlock ∧ some k_ ≠ (.slice Ao73 t279.length co73 : Value).ownBlock ∧ some k_ ≠ (.slice Ao112 t287.length co112 : Value).ownBlock ∧ some k_ ≠ (.slice Ao116 t293.length co116 : Value).ownBlock) (Kd.R_keptB (HO_278001.out) hkp (fun k_ hk_ hs_ => (hk_.1.1.2.1) hs_)) (fun k_ hk_ => ⟨hk_.1.1.1.1, hk_.1.1.1.2.1, hk_.1.1.1.2.2, hk_.1.1.2, hk_.1.2⟩)); have n3_ := am_ (Kd.R_mono (ok' := fun k_ => some k_ ≠ (.slice Ao42 t260.length co42 : Value).ownBlock ∧ some k_ ≠ (.slice Ao53 t267.length co53 : Value).ownBlock ∧ some k_ ≠ (.slice Ao63 t273.length co63 : Value).ownBlock ∧ some k_ ≠ (.slice Ao112 t287.length co112 : Value).ownBlock ∧ some k_ ≠ (.slice Ao116 t293.length co116 : Value).ownBlock) (Kd.R_keptB (HO_285001.out) hkp (fun k_ hk_ hs_ => (hk_.1.1.2.1) hs_)) (fun k_ hk_ => ⟨hk_.1.1.1.1, hk_.1.1.1.2.1, hk_.1.1.1.2.2, hk_.1.1.2, hk_.1.2⟩)); have n4_ := am_ (blk_kept (bk_ BK245) hkp (fun hs_ => (fun e_ => (Kd.R_ne HO_272001.out BK245.out (by decide)) e_) hs_)); have n5_ := am_ (blk_kept (bk_ BK246) hkp (fun hs_ => (fun e_ => (Kd.R_ne HO_272001.out BK246.out (by decide)) e_) hs_)); have n6_ := am_ (blk_kept (bk_ BK265) hkp (fun hs_ => (fun e_ => (Kd.R_ne HO_272001.out BK265.out (by decide)) e_) hs_)); have n7_ := am_ (blk_kept (bk_ BK271) hkp (fun hs_ => (fun e_ => (Kd.R_ne HO_272001.out BK271.out (by decide)) e_) hs_)); have n8_ := am_ (blk_kept (bk_ BK277) hkp (fun hs_ => (fun e_ => (Kd.R_ne HO_272001.out BK277.out (by decide)) e_) hs_)); have n9_ := am_ (blk_kept (bk_ BK284) hkp (fun hs_ => (fun e_ => (Kd.R_ne HO_272001.out BK284.out (by decide)) e_) hs_)); have n10_ := am_ (Kd.R_mono (ok' := fun k_ => some k_ ≠ (.slice Ao42 t260.length co42 : Value).ownBlock ∧ some k_ ≠ (.slice Ao53 t267.length co53 : Value).ownBlock ∧ some k_ ≠ (.slice Ao63 t273.length co63 : Value).ownBlock ∧ some k_ ≠ (.slice Ao73 t279.length co73 : Value).ownBlock ∧ some k_ ≠ (.slice Ao116 t293.length co116 : Value).ownBlock) (Kd.R_keptB (HO289.out) hkp (fun k_ hk_ hs_ => (hk_.1.1.1.2) hs_)) (fun k_ hk_ => ⟨hk_.1.1.1.1.1.2, hk_.1.1.1.1.2, hk_.1.1.1.2, hk_.1.1.2, hk_.1.2⟩)); have n11_ := am_ (Kd.R_mono (ok' := fun k_ => some k_ ≠ (.slice Ao42 t260.length co42 : Value).ownBlock ∧ some k_ ≠ (.slice Ao53 t267.length co53 : Value).ownBlock ∧ some k_ ≠ (.slice Ao63 t273.length co63 : Value).ownBlock ∧ some k_ ≠ (.slice Ao73 t279.length co73 : Value).ownBlock ∧ some k_ ≠ (.slice Ao112 t287.length co112 : Value).ownBlock) (Kd.R_keptB (HO295.out) hkp (fun k_ hk_ hs_ => (hk_.1.1.1.2) hs_)) (fun k_ hk_ => ⟨hk_.1.1.1.1.1.2, hk_.1.1.1.1.2, hk_.1.1.1.2, hk_.1.1.2, hk_.1.2⟩)); have n12_ := am_ (hb); clear HO_266001; clear HO_272001; clear HO_278001; clear HO_285001; clear BK245; clear BK246; clear BK265; clear BK271; clear BK277; clear BK284; clear HO289; clear HO295; clear HB; have HO_266001 := n0_; have HO_272001 := n1_; have HO_278001 := n2_; have HO_285001 := n3_; have BK245 := n4_; have BK246 := n5_; have BK265 := n6_; have BK271 := n7_; have BK277 := n8_; have BK284 := n9_; have HO289 := n10_; have HO295 := n11_; have HB := n12_; clear n0_ n1_ n2_ n3_ n4_ n5_ n6_ n7_ n8_ n9_ n10_ n11_ n12_; (try clear hb); (try clear hkp); (try clear hy0); have hnb125 := NB277_245.out; have hnc125 := NB245_277.out; have hnb126 := NB277_246.out; have hnc126 := NB246_277.out; have hnb127 := NB277_265.out; have hnc127 := NB265_277.out; have hnb128 := NB277_284.out; have hnc128 := NB284_277.out; have hcz129_0 : w124.cell? ⟨gb277, 0, none⟩ = some (.int .i64 t272) := bc_ BK277 0; have hcz129_1 : w124.cell? ⟨gb277, 1, none⟩ = some (.slice Ao63 t273.length co63) := bc_ BK277 1; have hcz129_2 : w124.cell? ⟨gb277, 2, none⟩ = some (.int .i64 t276) := bc_ BK277 2; have hfz129_0 := blk_frozen BK277.out 0; have hfz129_1 := blk_frozen BK277.out 1; have hfz129_2 := blk_frozen BK277.out 2) | ((with_reducible refine gate_callee (f := 16) rfl ?_); refine goesL_ (some 69) rfl rfl Tryd.func16 (by kernel_rfl) rfl #[.agg #[.int .i64 t272, .slice Ao63 t273.length co63, .int .i64 t276], .int .i64 t298] rfl ma_ ?_; (with_reducible refine (laws_markDyadic.calls kj24 t272 (fun k_ => some k_ = (.slice Ao63 t273.length co63 : Value).ownBlock) (.slice Ao63 t273.length co63) t273 t276 t298 t300 t301 w _ ?side1 ?side2 A108.out).mono ?_); (case side1 => exact bl_ HB); (case side2 => exact Kd.R_tight rfl HO_278001.out); rintro e w130 ⟨rfl, hy0, hb, hkp⟩; refine ⟨_, rfl, ?_⟩; have n0_ := am_ (Kd.R_mono (ok' := fun k_ => some k_ ≠ (.slice Ao53 t267.length co53 : Value).ownBlock ∧ some k_ ≠ (.slice Ao63 t273.length co63 : Value).ownBlock ∧ some k_ ≠ (.slice Ao73 t279.length co73 : Value).ownBlock ∧ some k_ ≠ (.slice Ao112 t287.length co112 : Value).ownBlock ∧ some k_ ≠ (.slice Ao116 t293.length co116 : Value).ownBlock) (Kd.R_keptB (HO_266001.out) hkp (fun k_ hk_ hs_ => (hk_.2.1) hs_)) (fun k_ hk_ => ⟨hk_.1.1, hk_.1.2.1, hk_.1.2.2.1, hk_.1.2.2.2.1, hk_.1.2.2.2.2⟩)); have n1_ := am_ (Kd.R_mono (ok' := fun k_ => some k_ ≠ (.slice Ao42 t260.length co42 : Value).ownBlock ∧ some k_ ≠ (.slice Ao63 t273.length co63 : Value).ownBlock ∧ some k_ ≠ (.slice Ao73 t279.length co73 : Value).ownBlock ∧ some k_ ≠ (.slice Ao112 t287.length co112 : Value).ownBlock ∧ some k_ ≠ (.slice Ao116 t293.length co116 : Value).ownBlock) (Kd.R_keptB (HO_272001.out) hkp (fun k_ hk_ hs_ => (hk_.1.1.2.1) hs_)) (fun k_ hk_ => ⟨hk_.1.1.1.1, hk_.1.1.1.2.1, hk_.1.1.1.2.2, hk_.1.1.2, hk_.1.2⟩)); have n2_ := am_ (Kd.R_reok rfl hy0 (fun k_ e_ => HO_278001.out.1 k_ e_)); have n3_ := am_ (Kd.R_mono (ok' := fun k_ => some k_ ≠ (.slice Ao42 t260.length co42 : Value).ownBlock ∧ some k_ ≠ (.slice Ao53 t267.length co53 : Value).ownBlock ∧ some k_ ≠ (.slice Ao63 t273.length co63 : Value).ownBlock ∧ some k_ ≠ (.slice Ao112 t287.length co112 : Value).ownBlock ∧ some k_ ≠ (.slice Ao116 t293.length co116 : Value).ownBlock) (Kd.R_keptB (HO_285001.out) hkp (fun k_ hk_ hs_ => (hk_.2.2.1) hs_)) (fun k_ hk_ => ⟨hk_.1.1, hk_.1.2.1, hk_.1.2.2.1, hk_.1.2.2.2.1, hk_.1.2.2.2.2⟩)); have n4_ := am_ (blk_kept (bk_ BK245) hkp (fun hs_ => (fun e_ => (Kd.R_ne HO_278001.out BK245.out (by decide)) e_) hs_)); have n5_ := am_ (blk_kept (bk_ BK246) hkp (fun hs_ => (fun e_ => (Kd.R_ne HO_278001.out BK246.out (by decide)) e_) hs_)); have n6_ := am_ (blk_kept (bk_ BK265) hkp (fun hs_ => (fun e_ => (Kd.R_ne HO_278001.out BK265.out (by decide)) e_) hs_)); have n7_ := am_ (blk_kept (bk_ BK271) hkp (fun hs_ => (fun e_ => (Kd.R_ne HO_278001.out BK271.out (by decide)) e_) hs_)); have n8_ := am_ (blk_kept (bk_ BK277) hkp (fun hs_ => (fun e_ => (Kd.R_ne HO_278001.out BK277.out (by decide)) e_) hs_)); have n9_ := am_ (blk_kept (bk_ BK284) hkp (fun hs_ => (fun e_ => (Kd.R_ne HO_278001.out BK284.out (by decide)) e_) hs_)); have n10_ := am_ (Kd.R_mono (ok' := fun k_ => some k_ ≠ (.slice Ao42 t260.length co42 : Value).ownBlock ∧ some k_ ≠ (.slice Ao53 t267.length co53 : Value).ownBlock ∧ some k_ ≠ (.slice Ao63 t273.length co63 : Value).ownBlock ∧ some k_ ≠ (.slice Ao73 t279.length co73 : Value).ownBlock ∧ some k_ ≠ (.slice Ao116 t293.length co116 : Value).ownBlock) (Kd.R_keptB (HO289.out) hkp (fun k_ hk_ hs_ => (hk_.2.2.1) hs_)) (fun k_ hk_ => ⟨hk_.1.1, hk_.1.2.1, hk_.1.2.2.1, hk_.1.2.2.2.1, hk_.1.2.2.2.2⟩)); have n11_ := am_ (Kd.R_mono (ok' := fun k_ => some k_ ≠ (.slice Ao42 t260.length co42 : Value).ownBlock ∧ some k_ ≠ (.slice Ao53 t267.length co53 : Value).ownBlock ∧ some k_ ≠ (.slice Ao63 t273.length co63 : Value).ownBlock ∧ some k_ ≠ (.slice Ao73 t279.length co73 : Value).ownBlock ∧ some k_ ≠ (.slice Ao112 t287.length co112 : Value).ownBlock) (Kd.R_keptB (HO295.out) hkp (fun k_ hk_ hs_ => (hk_.2.2.1) hs_)) (fun k_ hk_ => ⟨hk_.1.1, hk_.1.2.1, hk_.1.2.2.1, hk_.1.2.2.2.1, hk_.1.2.2.2.2⟩)); have n12_ := am_ (hb); clear HO_266001; clear HO_272001; clear HO_278001; clear HO_285001; clear BK245; clear BK246; clear BK265; clear BK271; clear BK277; clear BK284; clear HO289; clear HO295; clear HB; have HO_266001 := n0_; have HO_272001 := n1_; have HO_278001 := n2_; have HO_285001 := n3_; have BK245 := n4_; have BK246 := n5_; have BK265 := n6_; have BK271 := n7_; have BK277 := n8_; have BK284 := n9_; have HO289 := n10_; have HO295 := n11_; have HB := n12_; clear n0_ n1_ n2_ n3_ n4_ n5_ n6_ n7_ n8_ n9_ n10_ n11_ n12_; (try clear hb); (try clear hkp); (try clear hy0)))
        (try simp only [Act.put, List.setIfInBounds_toArray, List.set_cons_zero, List.set_cons_succ])
        go_cut [82] (fun v82 wc => ∃ (kq : Nat) (x82_108 : Bool), v82 = .bool x82_108 ∧ Aside0 (laws_FnExactMultiplyDyadics.j1 kq t264 x82_108 a0_0 l0_1 a0_2 a1_0 l1_1 a1_2 t259 t260 t263 t278 t279 t282 = some r) ∧ Aside0 (kq ≤ kj24) ∧ Aside0 (Kd.R (Kd.int .i64) 2 wc w.heap.size (fun k_ => some k_ ≠ ((.slice Ao53 t267.length co53) : Value).ownBlock ∧ some k_ ≠ ((.slice Ao63 t273.length co63) : Value).ownBlock ∧ some k_ ≠ ((.slice Ao73 t279.length co73) : Value).ownBlock) (.slice Ao42 t260.length co42) t260) ∧ Aside0 (Kd.R (Kd.int .i64) 2 wc w.heap.size (fun k_ => some k_ ≠ ((.slice Ao42 t260.length co42) : Value).ownBlock ∧ some k_ ≠ ((.slice Ao63 t273.length co63) : Value).ownBlock ∧ some k_ ≠ ((.slice Ao73 t279.length co73) : Value).ownBlock) (.slice Ao53 t267.length co53) t299) ∧ Aside0 (Kd.R (Kd.int .i64) 2 wc w.heap.size (fun k_ => some k_ ≠ ((.slice Ao42 t260.length co42) : Value).ownBlock ∧ some k_ ≠ ((.slice Ao53 t267.length co53) : Value).ownBlock ∧ some k_ ≠ ((.slice Ao73 t279.length co73) : Value).ownBlock) (.slice Ao63 t273.length co63) t301) ∧ Aside0 (Kd.R (Kd.int .i64) 2 wc w.heap.size (fun k_ => some k_ ≠ ((.slice Ao42 t260.length co42) : Value).ownBlock ∧ some k_ ≠ ((.slice Ao53 t267.length co53) : Value).ownBlock ∧ some k_ ≠ ((.slice Ao63 t273.length co63) : Value).ownBlock) (.slice Ao73 t279.length co73) t279) ∧ Aside0 (wc.heap[gb245]? = some (.cells #[.int .i64 a0_0, (.slice A0_1 l0_1.length c0_1), .int .i64 a0_2] 26 (0, 0))) ∧ Aside0 (wc.heap[gb246]? = some (.cells #[.int .i64 a1_0, (.slice A1_1 l1_1.length c1_1), .int .i64 a1_2] 26 (0, 0))) ∧ Aside0 (wc.heap[gb265]? = some (.cells #[.int .i64 t259, (.slice Ao42 t260.length co42), .int .i64 t263] 30 (0, 0))) ∧ Aside0 (wc.heap[gb271]? = some (.cells #[.int .i64 t266, (.slice Ao53 t267.length co53), .int .i64 t270] 30 (0, 0))) ∧ Aside0 (wc.heap[gb277]? = some (.cells #[.int .i64 t272, (.slice Ao63 t273.length co63), .int .i64 t276] 30 (0, 0))) ∧ Aside0 (wc.heap[gb284]? = some (.cells #[.int .i64 t278, (.slice Ao73 t279.length co73), .int .i64 t282] 30 (0, 0))) ∧ Aside0 (Below w.heap.size w wc))
        case first =>
         have H := HC109.out; clear HC109
         by_cases c131 : t300 < 0
         ·rw [if_pos c131] at H
          have c131b0 : decide (t300 < 0) = true := decide_eq_true c131
          clear c131
          (first | rw [c131b0] | (simp only [i64_w, i32_w]; rw [c131b0]) | skip)
          have H' := Aside0.mk H
          clear H
          go_wp2
          go_meet
          case rel => exact ⟨_, (true), (by first | rfl | (simp; done) | (simp [*]; done)), H', ⟨by have := HJ24.out; first | omega | exact Nat.le_refl _⟩, ⟨km_ HO_266001 (fun _ hk => ⟨hk.1, ⟨hk.2.1, hk.2.2.1⟩⟩)⟩, ⟨km_ HO_272001 (fun _ hk => ⟨hk.1, ⟨hk.2.1, hk.2.2.1⟩⟩)⟩, ⟨km_ HO_278001 (fun _ hk => ⟨hk.1, ⟨hk.2.1, hk.2.2.1⟩⟩)⟩, ⟨km_ HO_285001 (fun _ hk => ⟨hk.1, ⟨hk.2.1, hk.2.2.1⟩⟩)⟩, ⟨bk_ BK245⟩, ⟨bk_ BK246⟩, ⟨bk_ BK265⟩, ⟨bk_ BK271⟩, ⟨bk_ BK277⟩, ⟨bk_ BK284⟩, ⟨bl_ HB⟩⟩
         ·rw [if_neg c131] at H
          have c131b0 : decide (t300 < 0) = false := decide_eq_false c131
          clear c131
          (first | rw [c131b0] | (simp only [i64_w, i32_w]; rw [c131b0]) | skip)
          replace H := Option.bind_eq_some_iff.mp H
          obtain ⟨t302, A1320, H⟩ := H
          replace H : (if t302 = true then (laws_FnExactMultiplyDyadics.j1 kj24 t264 (t283 != t264) a0_0 l0_1 a0_2 a1_0 l1_1 a1_2 t259 t260 t263 t278 t279 t282) else (laws_FnExactMultiplyDyadics.j1 kj24 t264 true a0_0 l0_1 a0_2 a1_0 l1_1 a1_2 t259 t260 t263 t278 t279 t282)) = some r := H
          have A132 := Aside0.mk A1320; clear A1320
          by_cases c133 : t302 = true
          ·subst c133
           have H1 : (laws_FnExactMultiplyDyadics.j1 kj24 t264 (t283 != t264) a0_0 l0_1 a0_2 a1_0 l1_1 a1_2 t259 t260 t263 t278 t279 t282) = some r := by rw [if_pos rfl] at H; exact H
           clear H; have H := H1; clear H1
           have H' := Aside0.mk H
           clear H; have hnb134 := NB284_245.out; have hnc134 := NB245_284.out; have hnb135 := NB284_246.out; have hnc135 := NB246_284.out; have hnb136 := NB284_265.out; have hnc136 := NB265_284.out; have hnb137 := NB284_271.out; have hnc137 := NB271_284.out; have hnb138 := NB284_277.out; have hnc138 := NB277_284.out
           have hcz139_0 : w130.cell? ⟨gb284, 0, none⟩ = some (.int .i64 t278) := bc_ BK284 0
           have hcz139_1 : w130.cell? ⟨gb284, 1, none⟩ = some (.slice Ao73 t279.length co73) := bc_ BK284 1
           have hcz139_2 : w130.cell? ⟨gb284, 2, none⟩ = some (.int .i64 t282) := bc_ BK284 2
           have hfz139_0 := blk_frozen BK284.out 0; have hfz139_1 := blk_frozen BK284.out 1; have hfz139_2 := blk_frozen BK284.out 2; have hnb140 := NB265_245.out; have hnc140 := NB245_265.out; have hnb141 := NB265_246.out; have hnc141 := NB246_265.out; have hnb142 := NB265_271.out; have hnc142 := NB271_265.out; have hnb143 := NB265_277.out; have hnc143 := NB277_265.out
           have hcz144_0 : w130.cell? ⟨gb265, 0, none⟩ = some (.int .i64 t259) := bc_ BK265 0
           have hcz144_1 : w130.cell? ⟨gb265, 1, none⟩ = some (.slice Ao42 t260.length co42) := bc_ BK265 1
           have hcz144_2 : w130.cell? ⟨gb265, 2, none⟩ = some (.int .i64 t263) := bc_ BK265 2
           have hfz144_0 := blk_frozen BK265.out 0; have hfz144_1 := blk_frozen BK265.out 1; have hfz144_2 := blk_frozen BK265.out 2
           go_wp2_with (first | (go_at_call 15; (with_reducible refine (laws_eqDyadic.calls kj24 t278 _ _ t279 t282 t259 _ _ t260 t263 true _ ?side1 ?side2 ?side3 ?side4 A132.out).mono ?_); (case side1 => exact cr_ HO_285001); (case side2 => exact (Kd.R_reads' HO_285001.out).2.1); (case side3 => exact cr_ HO_266001); (case side4 => exact (Kd.R_reads' HO_266001.out).2.1); rintro e w145 ⟨rfl, hb⟩; replace HO_266001 := am_ (Kd.R_below (kr_ HO_266001) hb); replace HO_272001 := am_ (Kd.R_below (kr_ HO_272001) hb); replace HO_278001 := am_ (Kd.R_below (kr_ HO_278001) hb); replace HO_285001 := am_ (Kd.R_below (kr_ HO_285001) hb); replace HO289 := am_ (Kd.R_below (kr_ HO289) hb); replace HO295 := am_ (Kd.R_below (kr_ HO295) hb); replace BK245 := am_ (blk_below (bk_ BK245) hb); replace BK246 := am_ (blk_below (bk_ BK246) hb); replace BK265 := am_ (blk_below (bk_ BK265) hb); replace BK271 := am_ (blk_below (bk_ BK271) hb); replace BK277 := am_ (blk_below (bk_ BK277) hb); replace BK284 := am_ (blk_below (bk_ BK284) hb); replace HB := am_ (below_step (bl_ HB) hb); (try clear hb); (try clear hb2); (try clear hk); (try clear hi)))
           go_meet
           case rel => exact ⟨_, ((t283 != t264)), (by first | rfl | (simp; done) | (simp [*]; done)), H', ⟨by have := HJ24.out; first | omega | exact Nat.le_refl _⟩, ⟨km_ HO_266001 (fun _ hk => ⟨hk.1, ⟨hk.2.1, hk.2.2.1⟩⟩)⟩, ⟨km_ HO_272001 (fun _ hk => ⟨hk.1, ⟨hk.2.1, hk.2.2.1⟩⟩)⟩, ⟨km_ HO_278001 (fun _ hk => ⟨hk.1, ⟨hk.2.1, hk.2.2.1⟩⟩)⟩, ⟨km_ HO_285001 (fun _ hk => ⟨hk.1, ⟨hk.2.1, hk.2.2.1⟩⟩)⟩, ⟨bk_ BK245⟩, ⟨bk_ BK246⟩, ⟨bk_ BK265⟩, ⟨bk_ BK271⟩, ⟨bk_ BK277⟩, ⟨bk_ BK284⟩, ⟨bl_ HB⟩⟩
          ·replace c133 := Bool.eq_false_iff.mpr c133
           subst c133
           have H1 : (laws_FnExactMultiplyDyadics.j1 kj24 t264 true a0_0 l0_1 a0_2 a1_0 l1_1 a1_2 t259 t260 t263 t278 t279 t282) = some r := by rw [if_neg (show ¬ (false = true) by decide)] at H; exact H
           clear H; have H := H1; clear H1
           have H' := Aside0.mk H
           clear H; have hnb146 := NB284_245.out; have hnc146 := NB245_284.out; have hnb147 := NB284_246.out; have hnc147 := NB246_284.out; have hnb148 := NB284_265.out; have hnc148 := NB265_284.out; have hnb149 := NB284_271.out; have hnc149 := NB271_284.out; have hnb150 := NB284_277.out; have hnc150 := NB277_284.out
           have hcz151_0 : w130.cell? ⟨gb284, 0, none⟩ = some (.int .i64 t278) := bc_ BK284 0
           have hcz151_1 : w130.cell? ⟨gb284, 1, none⟩ = some (.slice Ao73 t279.length co73) := bc_ BK284 1
           have hcz151_2 : w130.cell? ⟨gb284, 2, none⟩ = some (.int .i64 t282) := bc_ BK284 2
           have hfz151_0 := blk_frozen BK284.out 0; have hfz151_1 := blk_frozen BK284.out 1; have hfz151_2 := blk_frozen BK284.out 2; have hnb152 := NB265_245.out; have hnc152 := NB245_265.out; have hnb153 := NB265_246.out; have hnc153 := NB246_265.out; have hnb154 := NB265_271.out; have hnc154 := NB271_265.out; have hnb155 := NB265_277.out; have hnc155 := NB277_265.out
           have hcz156_0 : w130.cell? ⟨gb265, 0, none⟩ = some (.int .i64 t259) := bc_ BK265 0
           have hcz156_1 : w130.cell? ⟨gb265, 1, none⟩ = some (.slice Ao42 t260.length co42) := bc_ BK265 1
           have hcz156_2 : w130.cell? ⟨gb265, 2, none⟩ = some (.int .i64 t263) := bc_ BK265 2
           have hfz156_0 := blk_frozen BK265.out 0; have hfz156_1 := blk_frozen BK265.out 1; have hfz156_2 := blk_frozen BK265.out 2
           go_wp2_with (first | (go_at_call 15; (with_reducible refine (laws_eqDyadic.calls kj24 t278 _ _ t279 t282 t259 _ _ t260 t263 false _ ?side1 ?side2 ?side3 ?side4 A132.out).mono ?_); (case side1 => exact cr_ HO_285001); (case side2 => exact (Kd.R_reads' HO_285001.out).2.1); (case side3 => exact cr_ HO_266001); (case side4 => exact (Kd.R_reads' HO_266001.out).2.1); rintro e w157 ⟨rfl, hb⟩; replace HO_266001 := am_ (Kd.R_below (kr_ HO_266001) hb); replace HO_272001 := am_ (Kd.R_below (kr_ HO_272001) hb); replace HO_278001 := am_ (Kd.R_below (kr_ HO_278001) hb); replace HO_285001 := am_ (Kd.R_below (kr_ HO_285001) hb); replace HO289 := am_ (Kd.R_below (kr_ HO289) hb); replace HO295 := am_ (Kd.R_below (kr_ HO295) hb); replace BK245 := am_ (blk_below (bk_ BK245) hb); replace BK246 := am_ (blk_below (bk_ BK246) hb); replace BK265 := am_ (blk_below (bk_ BK265) hb); replace BK271 := am_ (blk_below (bk_ BK271) hb); replace BK277 := am_ (blk_below (bk_ BK277) hb); replace BK284 := am_ (blk_below (bk_ BK284) hb); replace HB := am_ (below_step (bl_ HB) hb); (try clear hb); (try clear hb2); (try clear hk); (try clear hi)))
           go_meet
           case rel => exact ⟨_, (true), (by first | rfl | (simp; done) | (simp [*]; done)), H', ⟨by have := HJ24.out; first | omega | exact Nat.le_refl _⟩, ⟨km_ HO_266001 (fun _ hk => ⟨hk.1, ⟨hk.2.1, hk.2.2.1⟩⟩)⟩, ⟨km_ HO_272001 (fun _ hk => ⟨hk.1, ⟨hk.2.1, hk.2.2.1⟩⟩)⟩, ⟨km_ HO_278001 (fun _ hk => ⟨hk.1, ⟨hk.2.1, hk.2.2.1⟩⟩)⟩, ⟨km_ HO_285001 (fun _ hk => ⟨hk.1, ⟨hk.2.1, hk.2.2.1⟩⟩)⟩, ⟨bk_ BK245⟩, ⟨bk_ BK246⟩, ⟨bk_ BK265⟩, ⟨bk_ BK271⟩, ⟨bk_ BK277⟩, ⟨bk_ BK284⟩, ⟨bl_ HB⟩⟩
        case rest =>
         clear HC109; try clear c1; try clear p2; try clear c10; try clear c11; try clear c12; try clear c13; try clear c14; try clear c15; try clear c16; try clear c100; try clear c103; try clear c106; try clear c118; try clear c119; try clear c120; try clear c121; try clear c122; try clear c125; try clear c126; try clear c127; try clear c128; try clear c131; try clear c131b0; try clear c133; try clear c134; try clear c135; try clear c136; try clear c137; try clear c138; try clear c140; try clear c141; try clear c142; try clear c143; try clear c146; try clear c147; try clear c148; try clear c149; try clear c150; try clear c152; try clear c153; try clear c154; try clear c155; try clear hcz123_0; try clear hcz123_1; try clear hcz123_2; try clear hcz129_0; try clear hcz129_1; try clear hcz129_2; try clear hcz139_0; try clear hcz139_1; try clear hcz139_2; try clear hcz144_0; try clear hcz144_1; try clear hcz144_2; try clear hcz151_0; try clear hcz151_1; try clear hcz151_2; try clear hcz156_0; try clear hcz156_1; try clear hcz156_2; try clear hcz64_1; try clear hcz64_2; try clear hcz72_0; try clear hcz72_1; try clear hcz72_2; try clear hcz81_0; try clear hcz81_1; try clear hcz81_2; try clear hcz86_0; try clear hcz86_1; try clear hcz86_2; try clear hcz93_0; try clear hcz93_1; try clear hcz93_2; try clear hcz98_0; try clear hcz98_1; try clear hcz98_2; try clear hfz123_0; try clear hfz123_1; try clear hfz123_2; try clear hfz129_0; try clear hfz129_1; try clear hfz129_2; try clear hfz139_0; try clear hfz139_1; try clear hfz139_2; try clear hfz144_0; try clear hfz144_1; try clear hfz144_2; try clear hfz151_0; try clear hfz151_1; try clear hfz151_2; try clear hfz156_0; try clear hfz156_1; try clear hfz156_2; try clear hfz46_0; try clear hfz46_1; try clear hfz46_2; try clear hfz52_0; try clear hfz52_1; try clear hfz52_2; try clear hfz55_0; try clear hfz55_1; try clear hfz55_2; try clear hfz62_0; try clear hfz62_1; try clear hfz62_2; try clear hfz64_0; try clear hfz64_1; try clear hfz64_2
         try clear hfz72_0; try clear hfz72_1; try clear hfz72_2; try clear hfz81_0; try clear hfz81_1; try clear hfz81_2; try clear hfz86_0; try clear hfz86_1; try clear hfz86_2; try clear hfz93_0; try clear hfz93_1; try clear hfz93_2; try clear hfz98_0; try clear hfz98_1; try clear hfz98_2
         obtain ⟨kq, x82_108, rfl, HA, HJ108, HO_266001, HO_272001, HO_278001, HO_285001, BK245, BK246, BK265, BK271, BK277, BK284, HB⟩ := hcut
         have hl272001_108 := (Kd.R_reads' HO_272001.out).1
         rw [hl272001_108] at HO_272001
         (try simp only [hl272001_108])
         (try simp only [hl272001_108] at BK245)
         (try simp only [hl272001_108] at BK246)
         (try simp only [hl272001_108] at BK265)
         (try simp only [hl272001_108] at BK271)
         (try simp only [hl272001_108] at BK277)
         (try simp only [hl272001_108] at BK284)
         (try simp only [hl272001_108] at HO_266001)
         (try simp only [hl272001_108] at HO_278001)
         (try simp only [hl272001_108] at HO_285001)
         have hl278001_108 := (Kd.R_reads' HO_278001.out).1
         rw [hl278001_108] at HO_278001
         (try simp only [hl278001_108])
         (try simp only [hl278001_108] at BK245)
         (try simp only [hl278001_108] at BK246)
         (try simp only [hl278001_108] at BK265)
         (try simp only [hl278001_108] at BK271)
         (try simp only [hl278001_108] at BK277)
         (try simp only [hl278001_108] at BK284)
         (try simp only [hl278001_108] at HO_266001)
         (try simp only [hl278001_108] at HO_272001)
         (try simp only [hl278001_108] at HO_285001)
         cases kq with
         | zero => exact absurd HA.out (by simp [laws_FnExactMultiplyDyadics.j1])
         | succ kj108 =>
          have H := HA.out; clear HA
          simp only [laws_FnExactMultiplyDyadics.j1] at H
          by_cases c158 : x82_108 = true
          ·subst c158
           have H1 : (some false) = some r := by rw [if_pos rfl] at H; exact H
           clear H; have H := H1; clear H1; obtain rfl := Option.some.inj H
           go_wp2
           go_ret
           exact ⟨by first | rfl | (simp [errW_none, errW_some] <;> rfl) | (simp [*, errW_none, errW_some] <;> rfl), bl_ HB⟩
          ·replace c158 := Bool.eq_false_iff.mpr c158
           subst c158
           have H1 : ((laws_markDyadic.f kj108 t278 t279 t282 1).bind fun bt303 => ((laws_heldDyadic.f kj108 t278 bt303.2 t282 1).bind fun t305 => (if t305 < 0 then (some false) else (if t305 = bt303.1 then ((laws_toDyadic.f kj108 a0_0 l0_1 a0_2).bind fun bt306 => ((laws_toDyadic.f kj108 a1_0 l1_1 a1_2).bind fun bt311 => ((impl_MultiplyDyadics.f bt306.1 bt306.2.1 bt306.2.2 bt311.1 bt311.2.1 bt311.2.2).bind fun bt316 => ((laws_eqDyadic.f kj108 bt316.1 bt316.2.1 bt316.2.2.1 t259 t260 t263).bind fun t323 => (if t323 = true then (laws_FnExactMultiplyDyadics.j2 kj108 bt303.1 (bt316.2.2.2 != t264) t278 bt303.2 t282) else (laws_FnExactMultiplyDyadics.j2 kj108 bt303.1 true t278 bt303.2 t282)))))) else (some false))))) = some r := by rw [if_neg (show ¬ (false = true) by decide)] at H; exact H
           clear H; have H := H1; clear H1
           replace H := Option.bind_eq_some_iff.mp H
           obtain ⟨⟨t303, t304⟩, A1590, H⟩ := H
           replace H : ((laws_heldDyadic.f kj108 t278 t304 t282 1).bind fun t305 => (if t305 < 0 then (some false) else (if t305 = t303 then ((laws_toDyadic.f kj108 a0_0 l0_1 a0_2).bind fun bt306 => ((laws_toDyadic.f kj108 a1_0 l1_1 a1_2).bind fun bt311 => ((impl_MultiplyDyadics.f bt306.1 bt306.2.1 bt306.2.2 bt311.1 bt311.2.1 bt311.2.2).bind fun bt316 => ((laws_eqDyadic.f kj108 bt316.1 bt316.2.1 bt316.2.2.1 t259 t260 t263).bind fun t323 => (if t323 = true then (laws_FnExactMultiplyDyadics.j2 kj108 t303 (bt316.2.2.2 != t264) t278 t304 t282) else (laws_FnExactMultiplyDyadics.j2 kj108 t303 true t278 t304 t282)))))) else (some false)))) = some r := H
           have A159 := Aside0.mk A1590; clear A1590
           replace H := Option.bind_eq_some_iff.mp H
           obtain ⟨t305, A1600, H⟩ := H
           replace H : (if t305 < 0 then (some false) else (if t305 = t303 then ((laws_toDyadic.f kj108 a0_0 l0_1 a0_2).bind fun bt306 => ((laws_toDyadic.f kj108 a1_0 l1_1 a1_2).bind fun bt311 => ((impl_MultiplyDyadics.f bt306.1 bt306.2.1 bt306.2.2 bt311.1 bt311.2.1 bt311.2.2).bind fun bt316 => ((laws_eqDyadic.f kj108 bt316.1 bt316.2.1 bt316.2.2.1 t259 t260 t263).bind fun t323 => (if t323 = true then (laws_FnExactMultiplyDyadics.j2 kj108 t303 (bt316.2.2.2 != t264) t278 t304 t282) else (laws_FnExactMultiplyDyadics.j2 kj108 t303 true t278 t304 t282)))))) else (some false))) = some r := H
           have A160 := Aside0.mk A1600; clear A1600
           by_cases c161 : t305 < 0
           ·rw [if_pos c161] at H
            have c161b0 : decide (t305 < 0) = true := decide_eq_true c161
            clear c161; obtain rfl := Option.some.inj H; have hnb162 := NB284_245.out; have hnc162 := NB245_284.out; have hnb163 := NB284_246.out; have hnc163 := NB246_284.out; have hnb164 := NB284_265.out; have hnc164 := NB265_284.out; have hnb165 := NB284_271.out; have hnc165 := NB271_284.out; have hnb166 := NB284_277.out; have hnc166 := NB277_284.out
            have hcz167_0 : wc.cell? ⟨gb284, 0, none⟩ = some (.int .i64 t278) := bc_ BK284 0
            have hcz167_1 : wc.cell? ⟨gb284, 1, none⟩ = some (.slice Ao73 t279.length co73) := bc_ BK284 1
            have hcz167_2 : wc.cell? ⟨gb284, 2, none⟩ = some (.int .i64 t282) := bc_ BK284 2
            have hfz167_0 := blk_frozen BK284.out 0; have hfz167_1 := blk_frozen BK284.out 1; have hfz167_2 := blk_frozen BK284.out 2
            go_wp2_with (first | ((with_reducible refine gate_callee (f := 16) rfl ?_); refine goesL_ (some 85) rfl rfl Tryd.func16 (by kernel_rfl) rfl #[.agg #[.int .i64 t278, .slice Ao73 t279.length co73, .int .i64 t282], .int .i64 1] rfl ma_ ?_; (with_reducible refine (laws_markDyadic.calls kj108 t278 (fun k_ => some k_ = (.slice Ao73 t279.length co73 : Value).ownBlock) (.slice Ao73 t279.length co73) t279 t282 1 t303 t304 w _ ?side1 ?side2 A159.out).mono ?_); (case side1 => exact bl_ HB); (case side2 => exact Kd.R_tight rfl HO_285001.out); rintro e w168 ⟨rfl, hy0, hb, hkp⟩; refine ⟨_, rfl, ?_⟩; have n0_ := am_ (Kd.R_mono (ok' := fun k_ => some k_ ≠ (.slice Ao53 t299.length co53 : Value).ownBlock ∧ some k_ ≠ (.slice Ao63 t301.length co63 : Value).ownBlock ∧ some k_ ≠ (.slice Ao73 t279.length co73 : Value).ownBlock) (Kd.R_keptB (HO_266001.out) hkp (fun k_ hk_ hs_ => (hk_.2.2) hs_)) (fun k_ hk_ => ⟨hk_.1.1, hk_.1.2.1, hk_.1.2.2⟩)); have n1_ := am_ (Kd.R_mono (ok' := fun k_ => some k_ ≠ (.slice Ao42 t260.length co42 : Value).ownBlock ∧ some k_ ≠ (.slice Ao63 t301.length co63 : Value).ownBlock ∧ some k_ ≠ (.slice Ao73 t279.length co73 : Value).ownBlock) (Kd.R_keptB (HO_272001.out) hkp (fun k_ hk_ hs_ => (hk_.2.2) hs_)) (fun k_ hk_ => ⟨hk_.1.1, hk_.1.2.1, hk_.1.2.2⟩)); have n2_ := am_ (Kd.R_mono (ok' := fun k_ => some k_ ≠ (.slice Ao42 t260.length co42 : Value).ownBlock ∧ some k_ ≠ (.slice Ao53 t299.length co53 : Value).ownBlock ∧ some k_ ≠ (.slice Ao73 t279.length co73 : Value).ownBlock) (Kd.R_keptB (HO_278001.out) hkp (fun k_ hk_ hs_ => (hk_.2.2) hs_)) (fun k_ hk_ => ⟨hk_.1.1, hk_.1.2.1, hk_.1.2.2⟩)); have n3_ := am_ (Kd.R_reok rfl hy0 (fun k_ e_ => HO_285001.out.1 k_ e_)); have n4_ := am_ (blk_kept (bk_ BK245) hkp (fun hs_ => (fun e_ => (Kd.R_ne HO_285001.out BK245.out (by decide)) e_) hs_)); have n5_ := am_ (blk_kept (bk_ BK246) hkp (fun hs_ => (fun e_ => (Kd.R_ne HO_285001.out BK246.out (by decide)) e_) hs_)); have n6_ := am_ (blk_kept (bk_ BK265) hkp (fun hs_ => (fun e_ => (Kd.R_ne HO_285001.out BK265.out (by decide)) e_) hs_)); have n7_ := am_ (blk_kept (bk_ BK271) hkp (fun hs_ => (fun e_ => (Kd.R_ne HO_285001.out BK271.out (by decide)) e_) hs_)); have n8_ := am_ (blk_kept (bk_ BK277) hkp (fun hs_ => (fun e_ => (Kd.R_ne HO_285001.out BK277.out (by decide)) e_) hs_)); have n9_ := am_ (blk_kept (bk_ BK284) hkp (fun hs_ => (fun e_ => (Kd.R_ne HO_285001.out BK284.out (by decide)) e_) hs_)); have n10_ := am_ (hb); clear HO_266001; clear HO_272001; clear HO_278001; clear HO_285001; clear BK245; clear BK246; clear BK265; clear BK271; clear BK277; clear BK284; clear HB; have HO_266001 := n0_; have HO_272001 := n1_; have HO_278001 := n2_; have HO_285001 := n3_; have BK245 := n4_; have BK246 := n5_; have BK265 := n6_; have BK271 := n7_; have BK277 := n8_; have BK284 := n9_; have HB := n10_; clear n0_ n1_ n2_ n3_ n4_ n5_ n6_ n7_ n8_ n9_ n10_; (try clear hb); (try clear hkp); (try clear hy0); have hcz169_0 : w168.cell? ⟨gb284, 0, none⟩ = some (.int .i64 t278) := bc_ BK284 0; have hcz169_1 : w168.cell? ⟨gb284, 1, none⟩ = some (.slice Ao73 t279.length co73) := bc_ BK284 1; have hcz169_2 : w168.cell? ⟨gb284, 2, none⟩ = some (.int .i64 t282) := bc_ BK284 2; have hfz169_0 := blk_frozen BK284.out 0; have hfz169_1 := blk_frozen BK284.out 1; have hfz169_2 := blk_frozen BK284.out 2) | ((with_reducible refine gate_callee (f := 17) rfl ?_); refine goesL_ (some 88) rfl rfl Tryd.func17 (by kernel_rfl) rfl #[.agg #[.int .i64 t278, .slice Ao73 t304.length co73, .int .i64 t282], .int .i64 1] rfl (by (try simp only [List.map_toArray, List.map_cons, List.map_nil]); first | done | (rw [show t304.length = t279.length from (Kd.R_reads' HO_285001.out).1.symm] <;> rfl) | rfl | (simp only [List.length_drop, List.length_take]; rfl)) ?_; (with_reducible refine (laws_heldDyadic.calls kj108 t278 _ _ t304 t282 1 t305 _ ?side1 ?side2 A160.out).mono ?_); (case side1 => exact cr_ HO_285001); (case side2 => rw [show t304.length = t279.length from (Kd.R_reads' HO_285001.out).1.symm]; exact (Kd.R_reads' HO_285001.out).2.1); rintro e w170 ⟨rfl, hb⟩; refine ⟨_, rfl, ?_⟩; replace HO_266001 := am_ (Kd.R_below (kr_ HO_266001) hb); replace HO_272001 := am_ (Kd.R_below (kr_ HO_272001) hb); replace HO_278001 := am_ (Kd.R_below (kr_ HO_278001) hb); replace HO_285001 := am_ (Kd.R_below (kr_ HO_285001) hb); replace BK245 := am_ (blk_below (bk_ BK245) hb); replace BK246 := am_ (blk_below (bk_ BK246) hb); replace BK265 := am_ (blk_below (bk_ BK265) hb); replace BK271 := am_ (blk_below (bk_ BK271) hb); replace BK277 := am_ (blk_below (bk_ BK277) hb); replace BK284 := am_ (blk_below (bk_ BK284) hb); replace HB := am_ (below_step (bl_ HB) hb); (try clear hb); (try clear hb2); (try clear hk); (try clear hi)))
            go_ret
            exact ⟨by first | rfl | (simp [errW_none, errW_some] <;> rfl) | (simp [*, errW_none, errW_some] <;> rfl), bl_ HB⟩
           ·rw [if_neg c161] at H
            have c161b0 : decide (t305 < 0) = false := decide_eq_false c161
            clear c161
            by_cases c171 : t305 = t303
            ·rw [if_pos c171] at H
             have c171b0 : (t305 == t303) = true := beq_iff_eq.mpr c171
             have c171b1 : (t305 != t303) = false := bne_eq_false_iff_eq.mpr c171
             clear c171
             replace H := Option.bind_eq_some_iff.mp H
             obtain ⟨⟨t306, t307, t310⟩, A1720, H⟩ := H
             replace H : ((laws_toDyadic.f kj108 a1_0 l1_1 a1_2).bind fun bt311 => ((impl_MultiplyDyadics.f t306 t307 t310 bt311.1 bt311.2.1 bt311.2.2).bind fun bt316 => ((laws_eqDyadic.f kj108 bt316.1 bt316.2.1 bt316.2.2.1 t259 t260 t263).bind fun t323 => (if t323 = true then (laws_FnExactMultiplyDyadics.j2 kj108 t303 (bt316.2.2.2 != t264) t278 t304 t282) else (laws_FnExactMultiplyDyadics.j2 kj108 t303 true t278 t304 t282))))) = some r := H
             have A172 := Aside0.mk A1720; clear A1720
             replace H := Option.bind_eq_some_iff.mp H
             obtain ⟨⟨t311, t312, t315⟩, A1730, H⟩ := H
             replace H : ((impl_MultiplyDyadics.f t306 t307 t310 t311 t312 t315).bind fun bt316 => ((laws_eqDyadic.f kj108 bt316.1 bt316.2.1 bt316.2.2.1 t259 t260 t263).bind fun t323 => (if t323 = true then (laws_FnExactMultiplyDyadics.j2 kj108 t303 (bt316.2.2.2 != t264) t278 t304 t282) else (laws_FnExactMultiplyDyadics.j2 kj108 t303 true t278 t304 t282)))) = some r := H
             have A173 := Aside0.mk A1730; clear A1730
             replace H := Option.bind_eq_some_iff.mp H
             obtain ⟨⟨t316, t317, t320, t321⟩, A1740, H⟩ := H
             replace H : ((laws_eqDyadic.f kj108 t316 t317 t320 t259 t260 t263).bind fun t323 => (if t323 = true then (laws_FnExactMultiplyDyadics.j2 kj108 t303 (t321 != t264) t278 t304 t282) else (laws_FnExactMultiplyDyadics.j2 kj108 t303 true t278 t304 t282))) = some r := H
             have A174 := Aside0.mk A1740; clear A1740; have HC175 := Aside0.mk H; clear H; have hnb176 := NB284_245.out; have hnc176 := NB245_284.out; have hnb177 := NB284_246.out; have hnc177 := NB246_284.out; have hnb178 := NB284_265.out; have hnc178 := NB265_284.out; have hnb179 := NB284_271.out; have hnc179 := NB271_284.out; have hnb180 := NB284_277.out; have hnc180 := NB277_284.out
             have hcz181_0 : wc.cell? ⟨gb284, 0, none⟩ = some (.int .i64 t278) := bc_ BK284 0
             have hcz181_1 : wc.cell? ⟨gb284, 1, none⟩ = some (.slice Ao73 t279.length co73) := bc_ BK284 1
             have hcz181_2 : wc.cell? ⟨gb284, 2, none⟩ = some (.int .i64 t282) := bc_ BK284 2
             have hfz181_0 := blk_frozen BK284.out 0; have hfz181_1 := blk_frozen BK284.out 1; have hfz181_2 := blk_frozen BK284.out 2
             try go_wp2_with (first | ((with_reducible refine gate_callee (f := 16) rfl ?_); refine goesL_ (some 85) rfl rfl Tryd.func16 (by kernel_rfl) rfl #[.agg #[.int .i64 t278, .slice Ao73 t279.length co73, .int .i64 t282], .int .i64 1] rfl ma_ ?_; (with_reducible refine (laws_markDyadic.calls kj108 t278 (fun k_ => some k_ = (.slice Ao73 t279.length co73 : Value).ownBlock) (.slice Ao73 t279.length co73) t279 t282 1 t303 t304 w _ ?side1 ?side2 A159.out).mono ?_); (case side1 => exact bl_ HB); (case side2 => exact Kd.R_tight rfl HO_285001.out); rintro e w182 ⟨rfl, hy0, hb, hkp⟩; refine ⟨_, rfl, ?_⟩; have n0_ := am_ (Kd.R_mono (ok' := fun k_ => some k_ ≠ (.slice Ao53 t299.length co53 : Value).ownBlock ∧ some k_ ≠ (.slice Ao63 t301.length co63 : Value).ownBlock ∧ some k_ ≠ (.slice Ao73 t279.length co73 : Value).ownBlock) (Kd.R_keptB (HO_266001.out) hkp (fun k_ hk_ hs_ => (hk_.2.2) hs_)) (fun k_ hk_ => ⟨hk_.1.1, hk_.1.2.1, hk_.1.2.2⟩)); have n1_ := am_ (Kd.R_mono (ok' := fun k_ => some k_ ≠ (.slice Ao42 t260.length co42 : Value).ownBlock ∧ some k_ ≠ (.slice Ao63 t301.length co63 : Value).ownBlock ∧ some k_ ≠ (.slice Ao73 t279.length co73 : Value).ownBlock) (Kd.R_keptB (HO_272001.out) hkp (fun k_ hk_ hs_ => (hk_.2.2) hs_)) (fun k_ hk_ => ⟨hk_.1.1, hk_.1.2.1, hk_.1.2.2⟩)); have n2_ := am_ (Kd.R_mono (ok' := fun k_ => some k_ ≠ (.slice Ao42 t260.length co42 : Value).ownBlock ∧ some k_ ≠ (.slice Ao53 t299.length co53 : Value).ownBlock ∧ some k_ ≠ (.slice Ao73 t279.length co73 : Value).ownBlock) (Kd.R_keptB (HO_278001.out) hkp (fun k_ hk_ hs_ => (hk_.2.2) hs_)) (fun k_ hk_ => ⟨hk_.1.1, hk_.1.2.1, hk_.1.2.2⟩)); have n3_ := am_ (Kd.R_reok rfl hy0 (fun k_ e_ => HO_285001.out.1 k_ e_)); have n4_ := am_ (blk_kept (bk_ BK245) hkp (fun hs_ => (fun e_ => (Kd.R_ne HO_285001.out BK245.out (by decide)) e_) hs_)); have n5_ := am_ (blk_kept (bk_ BK246) hkp (fun hs_ => (fun e_ => (Kd.R_ne HO_285001.out BK246.out (by decide)) e_) hs_)); have n6_ := am_ (blk_kept (bk_ BK265) hkp (fun hs_ => (fun e_ => (Kd.R_ne HO_285001.out BK265.out (by decide)) e_) hs_)); have n7_ := am_ (blk_kept (bk_ BK271) hkp (fun hs_ => (fun e_ => (Kd.R_ne HO_285001.out BK271.out (by decide)) e_) hs_)); have n8_ := am_ (blk_kept (bk_ BK277) hkp (fun hs_ => (fun e_ => (Kd.R_ne HO_285001.out BK277.out (by decide)) e_) hs_)); have n9_ := am_ (blk_kept (bk_ BK284) hkp (fun hs_ => (fun e_ => (Kd.R_ne HO_285001.out BK284.out (by decide)) e_) hs_)); have n10_ := am_ (hb); clear HO_266001; clear HO_272001; clear HO_278001; clear HO_285001; clear BK245; clear BK246; clear BK265; clear BK271; clear BK277; clear BK284; clear HB; have HO_266001 := n0_; have HO_272001 := n1_; have HO_278001 := n2_; have HO_285001 := n3_; have BK245 := n4_; have BK246 := n5_; have BK265 := n6_; have BK271 := n7_; have BK277 := n8_; have BK284 := n9_; have HB := n10_; clear n0_ n1_ n2_ n3_ n4_ n5_ n6_ n7_ n8_ n9_ n10_; (try clear hb); (try clear hkp); (try clear hy0); have hcz183_0 : w182.cell? ⟨gb284, 0, none⟩ = some (.int .i64 t278) := bc_ BK284 0; have hcz183_1 : w182.cell? ⟨gb284, 1, none⟩ = some (.slice Ao73 t279.length co73) := bc_ BK284 1; have hcz183_2 : w182.cell? ⟨gb284, 2, none⟩ = some (.int .i64 t282) := bc_ BK284 2; have hfz183_0 := blk_frozen BK284.out 0; have hfz183_1 := blk_frozen BK284.out 1; have hfz183_2 := blk_frozen BK284.out 2) | ((with_reducible refine gate_callee (f := 17) rfl ?_); refine goesL_ (some 88) rfl rfl Tryd.func17 (by kernel_rfl) rfl #[.agg #[.int .i64 t278, .slice Ao73 t304.length co73, .int .i64 t282], .int .i64 1] rfl (by (try simp only [List.map_toArray, List.map_cons, List.map_nil]); first | done | (rw [show t304.length = t279.length from (Kd.R_reads' HO_285001.out).1.symm] <;> rfl) | rfl | (simp only [List.length_drop, List.length_take]; rfl)) ?_; (with_reducible refine (laws_heldDyadic.calls kj108 t278 _ _ t304 t282 1 t305 _ ?side1 ?side2 A160.out).mono ?_); (case side1 => exact cr_ HO_285001); (case side2 => rw [show t304.length = t279.length from (Kd.R_reads' HO_285001.out).1.symm]; exact (Kd.R_reads' HO_285001.out).2.1); rintro e w184 ⟨rfl, hb⟩; refine ⟨_, rfl, ?_⟩; replace HO_266001 := am_ (Kd.R_below (kr_ HO_266001) hb); replace HO_272001 := am_ (Kd.R_below (kr_ HO_272001) hb); replace HO_278001 := am_ (Kd.R_below (kr_ HO_278001) hb); replace HO_285001 := am_ (Kd.R_below (kr_ HO_285001) hb); replace BK245 := am_ (blk_below (bk_ BK245) hb); replace BK246 := am_ (blk_below (bk_ BK246) hb); replace BK265 := am_ (blk_below (bk_ BK265) hb); replace BK271 := am_ (blk_below (bk_ BK271) hb); replace BK277 := am_ (blk_below (bk_ BK277) hb); replace BK284 := am_ (blk_below (bk_ BK284) hb); replace HB := am_ (below_step (bl_ HB) hb); (try clear hb); (try clear hb2); (try clear hk); (try clear hi)))
             have n0_ := am_ (Kd.R_drew HO_266001.out); have n1_ := am_ (Kd.R_drew HO_272001.out); have n2_ := am_ (Kd.R_drew HO_278001.out); have n3_ := am_ (Kd.R_drew HO_285001.out); have n4_ := am_ (blk_drew BK245.out); have n5_ := am_ (blk_drew BK246.out); have n6_ := am_ (blk_drew BK265.out); have n7_ := am_ (blk_drew BK271.out); have n8_ := am_ (blk_drew BK277.out); have n9_ := am_ (blk_drew BK284.out); have n10_ := am_ (below_drew1 HB.out); clear HO_266001 HO_272001 HO_278001 HO_285001 BK245 BK246 BK265 BK271 BK277 BK284 HB; have HO_266001 := n0_; have HO_272001 := n1_; have HO_278001 := n2_; have HO_285001 := n3_; have BK245 := n4_; have BK246 := n5_; have BK265 := n6_; have BK271 := n7_; have BK277 := n8_; have BK284 := n9_; have HB := n10_; clear n0_ n1_ n2_ n3_ n4_ n5_ n6_ n7_ n8_ n9_ n10_
             refine start_ (n := 11) (S := fun w' => w'.cell? ⟨gb245, 0, none⟩ = some (.int .i64 a0_0) ∧ w'.cell? ⟨gb245, 1, none⟩ = some (.slice A0_1 l0_1.length c0_1) ∧ w'.cell? ⟨gb245, 2, none⟩ = some (.int .i64 a0_2) ∧ w'.cell? ⟨gb246, 0, none⟩ = some (.int .i64 a1_0) ∧ w'.cell? ⟨gb246, 1, none⟩ = some (.slice A1_1 l1_1.length c1_1) ∧ w'.cell? ⟨gb246, 2, none⟩ = some (.int .i64 a1_2)) (ds := []) #[false, false, false, false, false, false, false, false, false, false, false] (by kernel_rfl) rfl rfl ⟨bc_ BK245 0, bc_ BK245 1, bc_ BK245 2, bc_ BK246 0, bc_ BK246 1, bc_ BK246 2⟩ (fun hHeld => ?_); refine with_tabW laws_FnExactMultiplyDyadics.tab31 laws_FnExactMultiplyDyadics.bits31 (fun HT_ HW_ => ?_)
             generalize w184.drew = w185 at HO_266001 HO_272001 HO_278001 HO_285001 BK245 BK246 BK265 BK271 BK277 BK284 HB hHeld ⊢
             refine take_ (i := 0) (N := some 95) (v := ?_) (a' := ?_) #[true, false, false, false, false, false, false, false, false, false, false] rfl rfl (take_ofW HT_.out HW_.out (by kernel_rfl)) (fun _ _ _ h => h) (Or.inl ⟨by rfl, ?_⟩) hHeld ?_ ?_
             rotate_left
             ·rintro w' ⟨s0, s1, s2, s3, s4, s5⟩
              go_simp
              with_reducible rfl
             rotate_left
             ·exact nm_
             refine take_ (i := 2) (N := some 97) (v := ?_) (a' := ?_) #[true, false, true, false, false, false, false, false, false, false, false] rfl rfl (take_ofW HT_.out HW_.out (by kernel_rfl)) (fun _ _ _ h => h) (Or.inl ⟨by rfl, ?_⟩) hHeld ?_ ?_
             rotate_left
             ·rintro w' ⟨s0, s1, s2, s3, s4, s5⟩
              go_simp
              with_reducible rfl
             rotate_left
             ·exact nm_
             refine join_ (σ := Value × Value × Value × Nat) 2 #[true, true, true, true, true, true, true, true, true, false, false] (fun s_ => [(96, .agg #[.int .i64 t306, s_.1, .int .i64 t310]), (98, .agg #[.int .i64 t311, s_.2.1, .int .i64 t315]), (99, .tuple #[.agg #[.int .i64 t316, s_.2.2.1, .int .i64 t320], .int .i64 t321]), (15, .pointer (some ⟨s_.2.2.2, 0, none⟩)), (94, .tuple #[.agg #[.int .i64 t316, s_.2.2.1, .int .i64 t320], .int .i64 t321]), (100, .agg #[.int .i64 t316, s_.2.2.1, .int .i64 t320]), (101, .int .i64 t321)]) (fun s_ w' => (w'.cell? ⟨gb245, 0, none⟩ = some (.int .i64 a0_0) ∧ w'.cell? ⟨gb245, 1, none⟩ = some (.slice A0_1 l0_1.length c0_1) ∧ w'.cell? ⟨gb245, 2, none⟩ = some (.int .i64 a0_2) ∧ w'.cell? ⟨gb246, 0, none⟩ = some (.int .i64 a1_0) ∧ w'.cell? ⟨gb246, 1, none⟩ = some (.slice A1_1 l1_1.length c1_1) ∧ w'.cell? ⟨gb246, 2, none⟩ = some (.int .i64 a1_2)) ∧ (Kd.R (Kd.int .i64) 2 w' w.heap.size (fun k_ => some k_ ≠ (s_.2.1 : Value).ownBlock ∧ some k_ ≠ (s_.2.2.1 : Value).ownBlock ∧ some k_ ≠ (.slice Ao42 t260.length co42 : Value).ownBlock ∧ some k_ ≠ (.slice Ao53 t299.length co53 : Value).ownBlock ∧ some k_ ≠ (.slice Ao63 t301.length co63 : Value).ownBlock ∧ some k_ ≠ (.slice Ao73 t279.length co73 : Value).ownBlock) s_.1 t307) ∧ (Kd.R (Kd.int .i64) 2 w' w.heap.size (fun k_ => some k_ ≠ (s_.1 : Value).ownBlock ∧ some k_ ≠ (s_.2.2.1 : Value).ownBlock ∧ some k_ ≠ (.slice Ao42 t260.length co42 : Value).ownBlock ∧ some k_ ≠ (.slice Ao53 t299.length co53 : Value).ownBlock ∧ some k_ ≠ (.slice Ao63 t301.length co63 : Value).ownBlock ∧ some k_ ≠ (.slice Ao73 t279.length co73 : Value).ownBlock) s_.2.1 t312) ∧ (Kd.R (Kd.int .i64) 2 w' w.heap.size (fun k_ => some k_ ≠ (s_.1 : Value).ownBlock ∧ some k_ ≠ (s_.2.1 : Value).ownBlock ∧ some k_ ≠ (.slice Ao42 t260.length co42 : Value).ownBlock ∧ some k_ ≠ (.slice Ao53 t299.length co53 : Value).ownBlock ∧ some k_ ≠ (.slice Ao63 t301.length co63 : Value).ownBlock ∧ some k_ ≠ (.slice Ao73 t279.length co73 : Value).ownBlock) s_.2.2.1 t317) ∧ (Kd.R (Kd.int .i64) 2 w' w.heap.size (fun k_ => some k_ ≠ (s_.1 : Value).ownBlock ∧ some k_ ≠ (s_.2.1 : Value).ownBlock ∧ some k_ ≠ (s_.2.2.1 : Value).ownBlock ∧ some k_ ≠ (.slice Ao53 t299.length co53 : Value).ownBlock ∧ some k_ ≠ (.slice Ao63 t301.length co63 : Value).ownBlock ∧ some k_ ≠ (.slice Ao73 t279.length co73 : Value).ownBlock) (.slice Ao42 t260.length co42) t260) ∧ (Kd.R (Kd.int .i64) 2 w' w.heap.size (fun k_ => some k_ ≠ (s_.1 : Value).ownBlock ∧ some k_ ≠ (s_.2.1 : Value).ownBlock ∧ some k_ ≠ (s_.2.2.1 : Value).ownBlock ∧ some k_ ≠ (.slice Ao42 t260.length co42 : Value).ownBlock ∧ some k_ ≠ (.slice Ao63 t301.length co63 : Value).ownBlock ∧ some k_ ≠ (.slice Ao73 t279.length co73 : Value).ownBlock) (.slice Ao53 t299.length co53) t299) ∧ (Kd.R (Kd.int .i64) 2 w' w.heap.size (fun k_ => some k_ ≠ (s_.1 : Value).ownBlock ∧ some k_ ≠ (s_.2.1 : Value).ownBlock ∧ some k_ ≠ (s_.2.2.1 : Value).ownBlock ∧ some k_ ≠ (.slice Ao42 t260.length co42 : Value).ownBlock ∧ some k_ ≠ (.slice Ao53 t299.length co53 : Value).ownBlock ∧ some k_ ≠ (.slice Ao73 t279.length co73 : Value).ownBlock) (.slice Ao63 t301.length co63) t301) ∧ (Kd.R (Kd.int .i64) 2 w' w.heap.size (fun k_ => some k_ ≠ (s_.1 : Value).ownBlock ∧ some k_ ≠ (s_.2.1 : Value).ownBlock ∧ some k_ ≠ (s_.2.2.1 : Value).ownBlock ∧ some k_ ≠ (.slice Ao42 t260.length co42 : Value).ownBlock ∧ some k_ ≠ (.slice Ao53 t299.length co53 : Value).ownBlock ∧ some k_ ≠ (.slice Ao63 t301.length co63 : Value).ownBlock) (.slice Ao73 t279.length co73) t304) ∧ (w'.heap[gb245]? = some (.cells #[.int .i64 a0_0, .slice A0_1 l0_1.length c0_1, .int .i64 a0_2] 26 (0, 0))) ∧ (w'.heap[gb246]? = some (.cells #[.int .i64 a1_0, .slice A1_1 l1_1.length c1_1, .int .i64 a1_2] 26 (0, 0))) ∧ (w'.heap[gb265]? = some (.cells #[.int .i64 t259, .slice Ao42 t260.length co42, .int .i64 t263] 30 (0, 0))) ∧ (w'.heap[gb271]? = some (.cells #[.int .i64 t266, .slice Ao53 t299.length co53, .int .i64 t270] 30 (0, 0))) ∧ (w'.heap[gb277]? = some (.cells #[.int .i64 t272, .slice Ao63 t301.length co63, .int .i64 t276] 30 (0, 0))) ∧ (w'.heap[gb284]? = some (.cells #[.int .i64 t278, .slice Ao73 t279.length co73, .int .i64 t282] 30 (0, 0))) ∧ (w'.heap[s_.2.2.2]? = some (.cells #[.int .i64 0, .slice none 0 0, .int .i64 0] 30 (0, 0))) ∧ (w.heap.size ≤ s_.2.2.2) ∧ (w.heap.size ≤ s_.2.2.2) ∧ (gb245 ≠ s_.2.2.2) ∧ (s_.2.2.2 ≠ gb245) ∧ (gb246 ≠ s_.2.2.2) ∧ (s_.2.2.2 ≠ gb246) ∧ (gb265 ≠ s_.2.2.2) ∧ (s_.2.2.2 ≠ gb265) ∧ (gb271 ≠ s_.2.2.2) ∧ (s_.2.2.2 ≠ gb271) ∧ (gb277 ≠ s_.2.2.2) ∧ (s_.2.2.2 ≠ gb277) ∧ (gb284 ≠ s_.2.2.2) ∧ (s_.2.2.2 ≠ gb284) ∧ (Below w.heap.size w w')) ?_ ?_
             rotate_left
             ·intro hCont
              refine two_ (i := 1) (j := 8) (Ni := some 96) (Nj := some 15) #[true, true, true, false, false, false, false, false, false, false, false] #[true, false, true, false, false, false, false, false, true, false, false] rfl rfl rfl rfl (two_of HT_.out (by kernel_rfl)) (by decide) (by decide) (fun K hK => ?_) (fun K hK => ?_)
              ·skip
               refine goes_ Tryd.func13 (by kernel_rfl) rfl #[.agg #[.int .i64 a0_0, .slice A0_1 l0_1.length c0_1, .int .i64 a0_2]] (by rfl) rfl rfl ma_ ?_
               with_reducible refine (laws_toDyadic.calls kj108 a0_0 _ _ l0_1 a0_2 t306 t307 t310 _ ?side1 ?side2 A172.out).mono ?_
               (case side1 => exact cb_ HR0_1 HB)
               (case side2 => exact HC0_1.out)
               rintro e w186 ⟨v308, rfl, ho0, hb⟩
               refine ⟨_, rfl, ?_⟩
               have n0_ := am_ (Kd.R_elder' (kr_ HO_266001) (Kd.R_base ho0) hb); have n1_ := am_ (Kd.R_elder' (kr_ HO_272001) (Kd.R_base ho0) hb); have n2_ := am_ (Kd.R_elder' (kr_ HO_278001) (Kd.R_base ho0) hb); have n3_ := am_ (Kd.R_elder' (kr_ HO_285001) (Kd.R_base ho0) hb); have n4_ := am_ (Kd.R_lower (Kd.R_new' (Kd.R_new' (Kd.R_new' (Kd.R_new' ho0 (Kd.R_lt (kr_ HO_266001))) (Kd.R_lt (kr_ HO_272001))) (Kd.R_lt (kr_ HO_278001))) (Kd.R_lt (kr_ HO_285001))) (below_size (bl_ HB))); have n5_ := am_ (blk_below (bk_ BK245) hb); have n6_ := am_ (blk_below (bk_ BK246) hb); have n7_ := am_ (blk_below (bk_ BK265) hb); have n8_ := am_ (blk_below (bk_ BK271) hb); have n9_ := am_ (blk_below (bk_ BK277) hb); have n10_ := am_ (blk_below (bk_ BK284) hb); have n11_ := am_ (below_step (bl_ HB) hb); clear HO_266001 HO_272001 HO_278001 HO_285001 BK245 BK246 BK265 BK271 BK277 BK284 HB; have HO_266001 := n0_; have HO_272001 := n1_; have HO_278001 := n2_; have HO_285001 := n3_; have HO309 := n4_; have BK245 := n5_; have BK246 := n6_; have BK265 := n7_; have BK271 := n8_; have BK277 := n9_; have BK284 := n10_; have HB := n11_; clear n0_ n1_ n2_ n3_ n4_ n5_ n6_ n7_ n8_ n9_ n10_ n11_; (try clear hb); (try clear hb2); (try clear hk); (try clear hi); (try clear ho0)
               refine hK.out _ _ ⟨bc_ BK245 0, bc_ BK245 1, bc_ BK245 2, bc_ BK246 0, bc_ BK246 1, bc_ BK246 2⟩ (fun hHeld => ?_)
               clear hK K
               refine norm_ (a' := ?_) ?_ ?_
               rotate_left
               ·show Act.put _ (some 96) _ = _
                exact nm_
               refine two_ (i := 3) (j := 8) (Ni := some 98) (Nj := some 15) #[true, true, true, true, false, false, false, false, false, false, false] #[true, true, true, false, false, false, false, false, true, false, false] rfl rfl rfl rfl (two_of HT_.out (by kernel_rfl)) (by decide) (by decide) (fun K hK => ?_) (fun K hK => ?_)
               ·skip
                refine goes_ Tryd.func13 (by kernel_rfl) rfl #[.agg #[.int .i64 a1_0, .slice A1_1 l1_1.length c1_1, .int .i64 a1_2]] (by rfl) rfl rfl ma_ ?_
                with_reducible refine (laws_toDyadic.calls kj108 a1_0 _ _ l1_1 a1_2 t311 t312 t315 _ ?side1 ?side2 A173.out).mono ?_
                (case side1 => exact cb_ HR1_1 HB)
                (case side2 => exact HC1_1.out)
                rintro e w187 ⟨v313, rfl, ho0, hb⟩
                refine ⟨_, rfl, ?_⟩
                have n0_ := am_ (Kd.R_elder' (kr_ HO_266001) (Kd.R_base ho0) hb); have n1_ := am_ (Kd.R_elder' (kr_ HO_272001) (Kd.R_base ho0) hb); have n2_ := am_ (Kd.R_elder' (kr_ HO_278001) (Kd.R_base ho0) hb); have n3_ := am_ (Kd.R_elder' (kr_ HO_285001) (Kd.R_base ho0) hb); have n4_ := am_ (Kd.R_elder' (kr_ HO309) (Kd.R_base ho0) hb); have n5_ := am_ (Kd.R_lower (Kd.R_new' (Kd.R_new' (Kd.R_new' (Kd.R_new' (Kd.R_new' ho0 (Kd.R_lt (kr_ HO_266001))) (Kd.R_lt (kr_ HO_272001))) (Kd.R_lt (kr_ HO_278001))) (Kd.R_lt (kr_ HO_285001))) (Kd.R_lt (kr_ HO309))) (below_size (bl_ HB))); have n6_ := am_ (blk_below (bk_ BK245) hb); have n7_ := am_ (blk_below (bk_ BK246) hb); have n8_ := am_ (blk_below (bk_ BK265) hb); have n9_ := am_ (blk_below (bk_ BK271) hb); have n10_ := am_ (blk_below (bk_ BK277) hb); have n11_ := am_ (blk_below (bk_ BK284) hb); have n12_ := am_ (below_step (bl_ HB) hb); clear HO_266001 HO_272001 HO_278001 HO_285001 HO309 BK245 BK246 BK265 BK271 BK277 BK284 HB; have HO_266001 := n0_; have HO_272001 := n1_; have HO_278001 := n2_; have HO_285001 := n3_; have HO309 := n4_; have HO314 := n5_; have BK245 := n6_; have BK246 := n7_; have BK265 := n8_; have BK271 := n9_; have BK277 := n10_; have BK284 := n11_; have HB := n12_; clear n0_ n1_ n2_ n3_ n4_ n5_ n6_ n7_ n8_ n9_ n10_ n11_ n12_; (try clear hb); (try clear hb2); (try clear hk); (try clear hi); (try clear ho0)
                obtain ⟨Ao188, co188, eo188⟩ := Kd.R_slice HO309.out
                (first | subst eo188 | (injection eo188 with f1_ f2_ f3_; have f4_ := f1_.symm; have f5_ := f3_.symm; clear f1_ f2_ f3_; subst f4_; subst f5_))
                obtain ⟨Ao189, co189, eo189⟩ := Kd.R_slice HO314.out
                (first | subst eo189 | (injection eo189 with f1_ f2_ f3_; have f4_ := f1_.symm; have f5_ := f3_.symm; clear f1_ f2_ f3_; subst f4_; subst f5_))
                refine hK.out _ _ ⟨bc_ BK245 0, bc_ BK245 1, bc_ BK245 2, bc_ BK246 0, bc_ BK246 1, bc_ BK246 2⟩ (fun hHeld => ?_)
                clear hK K
                refine norm_ (a' := ?_) ?_ ?_
                rotate_left
                ·show Act.put _ (some 98) _ = _
                 exact nm_
                refine two_ (i := 4) (j := 8) (Ni := some 99) (Nj := some 15) #[true, true, true, true, true, false, false, false, false, false, false] #[true, true, true, true, false, false, false, false, true, false, false] rfl rfl rfl rfl (two_of HT_.out (by kernel_rfl)) (by decide) (by decide) (fun K hK => ?_) (fun K hK => ?_)
                ·skip
                 refine goes_ Tryd.func31 (by kernel_rfl) rfl #[.agg #[.int .i64 t306, .slice Ao188 t307.length co188, .int .i64 t310], .agg #[.int .i64 t311, .slice Ao189 t312.length co189, .int .i64 t315]] (by rfl) rfl rfl ma_ ?_
                 with_reducible refine (impl_MultiplyDyadics.calls t306 _ _ t307 t310 t311 _ _ t312 t315 t316 t317 t320 t321 _ ?side1 ?side2 ?side3 ?side4 ?sideT A174.out).mono ?_
                 (case sideT => exact Go.Proofs.YthddlechoibdkaaDoor.Big.Tab.below HTab.out (bl_ HB))
                 (case side1 => exact cr_ HO309)
                 (case side2 => exact (Kd.R_reads' HO309.out).2.1)
                 (case side3 => exact cr_ HO314)
                 (case side4 => exact (Kd.R_reads' HO314.out).2.1)
                 rintro e w190 ⟨v318, rfl, ho0, hb⟩
                 refine ⟨_, rfl, ?_⟩
                 have n0_ := am_ (Kd.R_elder' (kr_ HO_266001) (Kd.R_base ho0) hb); have n1_ := am_ (Kd.R_elder' (kr_ HO_272001) (Kd.R_base ho0) hb); have n2_ := am_ (Kd.R_elder' (kr_ HO_278001) (Kd.R_base ho0) hb); have n3_ := am_ (Kd.R_elder' (kr_ HO_285001) (Kd.R_base ho0) hb); have n4_ := am_ (Kd.R_elder' (kr_ HO309) (Kd.R_base ho0) hb); have n5_ := am_ (Kd.R_elder' (kr_ HO314) (Kd.R_base ho0) hb); have n6_ := am_ (Kd.R_lower (Kd.R_new' (Kd.R_new' (Kd.R_new' (Kd.R_new' (Kd.R_new' (Kd.R_new' ho0 (Kd.R_lt (kr_ HO_266001))) (Kd.R_lt (kr_ HO_272001))) (Kd.R_lt (kr_ HO_278001))) (Kd.R_lt (kr_ HO_285001))) (Kd.R_lt (kr_ HO309))) (Kd.R_lt (kr_ HO314))) (below_size (bl_ HB))); have n7_ := am_ (blk_below (bk_ BK245) hb); have n8_ := am_ (blk_below (bk_ BK246) hb); have n9_ := am_ (blk_below (bk_ BK265) hb); have n10_ := am_ (blk_below (bk_ BK271) hb); have n11_ := am_ (blk_below (bk_ BK277) hb); have n12_ := am_ (blk_below (bk_ BK284) hb); have n13_ := am_ (below_step (bl_ HB) hb); clear HO_266001 HO_272001 HO_278001 HO_285001 HO309 HO314 BK245 BK246 BK265 BK271 BK277 BK284 HB; have HO_266001 := n0_; have HO_272001 := n1_; have HO_278001 := n2_; have HO_285001 := n3_; have HO309 := n4_; have HO314 := n5_; have HO319 := n6_; have BK245 := n7_; have BK246 := n8_; have BK265 := n9_; have BK271 := n10_; have BK277 := n11_; have BK284 := n12_; have HB := n13_; clear n0_ n1_ n2_ n3_ n4_ n5_ n6_ n7_ n8_ n9_ n10_ n11_ n12_ n13_; (try clear hb); (try clear hb2); (try clear hk); (try clear hi); (try clear ho0)
                 refine hK.out _ _ ⟨bc_ BK245 0, bc_ BK245 1, bc_ BK245 2, bc_ BK246 0, bc_ BK246 1, bc_ BK246 2⟩ (fun hHeld => ?_)
                 clear hK K
                 refine norm_ (a' := ?_) ?_ ?_
                 rotate_left
                 ·show Act.put _ (some 99) _ = _
                  exact nm_
                 refine pure_ (i := 5) (N := some 94) (v := ?_) (a' := ?_) #[true, true, true, true, true, true, false, false, false, false, false] rfl rfl (any_of HT_.out (by kernel_rfl)) (fun _ _ _ h => h) (Or.inl ⟨by rfl, ?_⟩) ?_ ?_
                 rotate_left
                 ·intro w'
                  go_simp
                  with_reducible rfl
                 rotate_left
                 ·exact nm_
                 refine pure_ (i := 6) (N := some 100) (v := ?_) (a' := ?_) #[true, true, true, true, true, true, true, false, false, false, false] rfl rfl (any_of HT_.out (by kernel_rfl)) (fun _ _ _ h => h) (Or.inl ⟨by rfl, ?_⟩) ?_ ?_
                 rotate_left
                 ·intro w'
                  go_simp
                  with_reducible rfl
                 rotate_left
                 ·exact nm_
                 refine pure_ (i := 7) (N := some 101) (v := ?_) (a' := ?_) #[true, true, true, true, true, true, true, true, false, false, false] rfl rfl (any_of HT_.out (by kernel_rfl)) (fun _ _ _ h => h) (Or.inl ⟨by rfl, ?_⟩) ?_ ?_
                 rotate_left
                 ·intro w'
                  go_simp
                  with_reducible rfl
                 rotate_left
                 ·exact nm_
                 refine one_ (i := 8) (N := some 15) #[true, true, true, true, true, true, true, true, true, false, false] rfl rfl (one_of HT_.out (by kernel_rfl)) (by decide) (fun K hK => ?_)
                 refine box_step ?hg (N := 15) ?hd (cs := #[.int .i64 0, .slice none 0 0, .int .i64 0]) (t := 30) ?hr ?_; (case hd => rfl); (case hg => rfl); (case hr => first | (go_simp; done) | (go_simp; rfl))
                 intro gb322 hg w191 hbox hb
                 have n0_ := am_ (Kd.R_below (kr_ HO_266001) hb); have n1_ := am_ (Kd.R_below (kr_ HO_272001) hb); have n2_ := am_ (Kd.R_below (kr_ HO_278001) hb); have n3_ := am_ (Kd.R_below (kr_ HO_285001) hb); have n4_ := am_ (Kd.R_below (kr_ HO309) hb); have n5_ := am_ (Kd.R_below (kr_ HO314) hb); have n6_ := am_ (Kd.R_below (kr_ HO319) hb); have n7_ := am_ (blk_below (bk_ BK245) hb); have n8_ := am_ (blk_below (bk_ BK246) hb); have n9_ := am_ (blk_below (bk_ BK265) hb); have n10_ := am_ (blk_below (bk_ BK271) hb); have n11_ := am_ (blk_below (bk_ BK277) hb); have n12_ := am_ (blk_below (bk_ BK284) hb); have n13_ := am_ (below_step (bl_ HB) hb); have n14_ := am_ (hbox); have n15_ := am_ (gs_ hg HB); have n16_ := am_ (gs_ hg HB); have n17_ := am_ (nl_ hg BK245); have n18_ := am_ (ng_ hg BK245); have n19_ := am_ (nl_ hg BK246); have n20_ := am_ (ng_ hg BK246); have n21_ := am_ (nl_ hg BK265); have n22_ := am_ (ng_ hg BK265); have n23_ := am_ (nl_ hg BK271); have n24_ := am_ (ng_ hg BK271); have n25_ := am_ (nl_ hg BK277); have n26_ := am_ (ng_ hg BK277); have n27_ := am_ (nl_ hg BK284); have n28_ := am_ (ng_ hg BK284); clear HO_266001 HO_272001 HO_278001 HO_285001 HO309 HO314 HO319 BK245 BK246 BK265 BK271 BK277 BK284 HB; have HO_266001 := n0_; have HO_272001 := n1_; have HO_278001 := n2_; have HO_285001 := n3_; have HO309 := n4_; have HO314 := n5_; have HO319 := n6_; have BK245 := n7_; have BK246 := n8_; have BK265 := n9_; have BK271 := n10_; have BK277 := n11_; have BK284 := n12_; have HB := n13_; have BK322 := n14_; have GW322 := n15_; have GE322 := n16_; have NB245_322 := n17_; have NB322_245 := n18_; have NB246_322 := n19_; have NB322_246 := n20_; have NB265_322 := n21_; have NB322_265 := n22_; have NB271_322 := n23_; have NB322_271 := n24_; have NB277_322 := n25_; have NB322_277 := n26_; have NB284_322 := n27_; have NB322_284 := n28_; clear n0_ n1_ n2_ n3_ n4_ n5_ n6_ n7_ n8_ n9_ n10_ n11_ n12_ n13_ n14_ n15_ n16_ n17_ n18_ n19_ n20_ n21_ n22_ n23_ n24_ n25_ n26_ n27_ n28_ hb hbox hg
                 refine hK.out _ _ ⟨bc_ BK245 0, bc_ BK245 1, bc_ BK245 2, bc_ BK246 0, bc_ BK246 1, bc_ BK246 2⟩ (fun hHeld => ?_)
                 clear hK K
                 refine norm_ (a' := ?_) ?_ ?_
                 rotate_left
                 ·show Act.put _ (some 15) _ = _
                  exact nm_
                 exact norm_ (by simp only [putAll, Act.put, List.setIfInBounds_toArray, List.set_cons_zero, List.set_cons_succ]) (hCont (.slice Ao188 t307.length co188, .slice Ao189 t312.length co189, v318, gb322) _ ⟨hHeld, (km_ HO309 (fun _ hk => ⟨hk.1.2, ⟨hk.2, ⟨hk.1.1.1.1.1.2, ⟨hk.1.1.1.1.2, ⟨hk.1.1.1.2, hk.1.1.2⟩⟩⟩⟩⟩)), (km_ HO314 (fun _ hk => ⟨hk.1.2, ⟨hk.2, ⟨hk.1.1.1.1.1.2, ⟨hk.1.1.1.1.2, ⟨hk.1.1.1.2, hk.1.1.2⟩⟩⟩⟩⟩)), (km_ HO319 (fun _ hk => ⟨hk.1.2, ⟨hk.2, ⟨hk.1.1.1.1.1.2, ⟨hk.1.1.1.1.2, ⟨hk.1.1.1.2, hk.1.1.2⟩⟩⟩⟩⟩)), (km_ HO_266001 (fun _ hk => ⟨hk.1.1.2, ⟨hk.1.2, ⟨hk.2, ⟨hk.1.1.1.1, ⟨hk.1.1.1.2.1, hk.1.1.1.2.2⟩⟩⟩⟩⟩)), (km_ HO_272001 (fun _ hk => ⟨hk.1.1.2, ⟨hk.1.2, ⟨hk.2, ⟨hk.1.1.1.1, ⟨hk.1.1.1.2.1, hk.1.1.1.2.2⟩⟩⟩⟩⟩)), (km_ HO_278001 (fun _ hk => ⟨hk.1.1.2, ⟨hk.1.2, ⟨hk.2, ⟨hk.1.1.1.1, ⟨hk.1.1.1.2.1, hk.1.1.1.2.2⟩⟩⟩⟩⟩)), (km_ HO_285001 (fun _ hk => ⟨hk.1.1.2, ⟨hk.1.2, ⟨hk.2, ⟨hk.1.1.1.1, ⟨hk.1.1.1.2.1, hk.1.1.1.2.2⟩⟩⟩⟩⟩)), (bk_ BK245), (bk_ BK246), (bk_ BK265), (bk_ BK271), (bk_ BK277), (bk_ BK284), (bk_ BK322), GW322.out, GE322.out, NB245_322.out, NB322_245.out, NB246_322.out, NB322_246.out, NB265_322.out, NB322_265.out, NB271_322.out, NB322_271.out, NB277_322.out, NB322_277.out, NB284_322.out, NB322_284.out, (bl_ HB)⟩)
                ·skip
                 refine box_step ?hg (N := 15) ?hd (cs := #[.int .i64 0, .slice none 0 0, .int .i64 0]) (t := 30) ?hr ?_; (case hd => rfl); (case hg => rfl); (case hr => first | (go_simp; done) | (go_simp; rfl))
                 intro gb322 hg w188 hbox hb
                 have n0_ := am_ (Kd.R_below (kr_ HO_266001) hb); have n1_ := am_ (Kd.R_below (kr_ HO_272001) hb); have n2_ := am_ (Kd.R_below (kr_ HO_278001) hb); have n3_ := am_ (Kd.R_below (kr_ HO_285001) hb); have n4_ := am_ (Kd.R_below (kr_ HO309) hb); have n5_ := am_ (Kd.R_below (kr_ HO314) hb); have n6_ := am_ (blk_below (bk_ BK245) hb); have n7_ := am_ (blk_below (bk_ BK246) hb); have n8_ := am_ (blk_below (bk_ BK265) hb); have n9_ := am_ (blk_below (bk_ BK271) hb); have n10_ := am_ (blk_below (bk_ BK277) hb); have n11_ := am_ (blk_below (bk_ BK284) hb); have n12_ := am_ (below_step (bl_ HB) hb); have n13_ := am_ (hbox); have n14_ := am_ (gs_ hg HB); have n15_ := am_ (gs_ hg HB); have n16_ := am_ (nl_ hg BK245); have n17_ := am_ (ng_ hg BK245); have n18_ := am_ (nl_ hg BK246); have n19_ := am_ (ng_ hg BK246); have n20_ := am_ (nl_ hg BK265); have n21_ := am_ (ng_ hg BK265); have n22_ := am_ (nl_ hg BK271); have n23_ := am_ (ng_ hg BK271); have n24_ := am_ (nl_ hg BK277); have n25_ := am_ (ng_ hg BK277); have n26_ := am_ (nl_ hg BK284); have n27_ := am_ (ng_ hg BK284); clear HO_266001 HO_272001 HO_278001 HO_285001 HO309 HO314 BK245 BK246 BK265 BK271 BK277 BK284 HB; have HO_266001 := n0_; have HO_272001 := n1_; have HO_278001 := n2_; have HO_285001 := n3_; have HO309 := n4_; have HO314 := n5_; have BK245 := n6_; have BK246 := n7_; have BK265 := n8_; have BK271 := n9_; have BK277 := n10_; have BK284 := n11_; have HB := n12_; have BK322 := n13_; have GW322 := n14_; have GE322 := n15_; have NB245_322 := n16_; have NB322_245 := n17_; have NB246_322 := n18_; have NB322_246 := n19_; have NB265_322 := n20_; have NB322_265 := n21_; have NB271_322 := n22_; have NB322_271 := n23_; have NB277_322 := n24_; have NB322_277 := n25_; have NB284_322 := n26_; have NB322_284 := n27_; clear n0_ n1_ n2_ n3_ n4_ n5_ n6_ n7_ n8_ n9_ n10_ n11_ n12_ n13_ n14_ n15_ n16_ n17_ n18_ n19_ n20_ n21_ n22_ n23_ n24_ n25_ n26_ n27_ hb hbox hg
                 obtain ⟨Ao189, co189, eo189⟩ := Kd.R_slice HO309.out
                 (first | subst eo189 | (injection eo189 with f1_ f2_ f3_; have f4_ := f1_.symm; have f5_ := f3_.symm; clear f1_ f2_ f3_; subst f4_; subst f5_))
                 obtain ⟨Ao190, co190, eo190⟩ := Kd.R_slice HO314.out
                 (first | subst eo190 | (injection eo190 with f1_ f2_ f3_; have f4_ := f1_.symm; have f5_ := f3_.symm; clear f1_ f2_ f3_; subst f4_; subst f5_))
                 refine hK.out _ _ ⟨bc_ BK245 0, bc_ BK245 1, bc_ BK245 2, bc_ BK246 0, bc_ BK246 1, bc_ BK246 2⟩ (fun hHeld => ?_)
                 clear hK K
                 refine norm_ (a' := ?_) ?_ ?_
                 rotate_left
                 ·show Act.put _ (some 15) _ = _
                  exact nm_
                 refine one_ (i := 4) (N := some 99) #[true, true, true, true, true, false, false, false, true, false, false] rfl rfl (one_of HT_.out (by kernel_rfl)) (by decide) (fun K hK => ?_)
                 refine goes_ Tryd.func31 (by kernel_rfl) rfl #[.agg #[.int .i64 t306, .slice Ao189 t307.length co189, .int .i64 t310], .agg #[.int .i64 t311, .slice Ao190 t312.length co190, .int .i64 t315]] (by rfl) rfl rfl ma_ ?_
                 with_reducible refine (impl_MultiplyDyadics.calls t306 _ _ t307 t310 t311 _ _ t312 t315 t316 t317 t320 t321 _ ?side1 ?side2 ?side3 ?side4 ?sideT A174.out).mono ?_
                 (case sideT => exact Go.Proofs.YthddlechoibdkaaDoor.Big.Tab.below HTab.out (bl_ HB))
                 (case side1 => exact cr_ HO309)
                 (case side2 => exact (Kd.R_reads' HO309.out).2.1)
                 (case side3 => exact cr_ HO314)
                 (case side4 => exact (Kd.R_reads' HO314.out).2.1)
                 rintro e w191 ⟨v318, rfl, ho0, hb⟩
                 refine ⟨_, rfl, ?_⟩
                 have n0_ := am_ (Kd.R_elder' (kr_ HO_266001) (Kd.R_base ho0) hb); have n1_ := am_ (Kd.R_elder' (kr_ HO_272001) (Kd.R_base ho0) hb); have n2_ := am_ (Kd.R_elder' (kr_ HO_278001) (Kd.R_base ho0) hb); have n3_ := am_ (Kd.R_elder' (kr_ HO_285001) (Kd.R_base ho0) hb); have n4_ := am_ (Kd.R_elder' (kr_ HO309) (Kd.R_base ho0) hb); have n5_ := am_ (Kd.R_elder' (kr_ HO314) (Kd.R_base ho0) hb); have n6_ := am_ (Kd.R_lower (Kd.R_new' (Kd.R_new' (Kd.R_new' (Kd.R_new' (Kd.R_new' (Kd.R_new' ho0 (Kd.R_lt (kr_ HO_266001))) (Kd.R_lt (kr_ HO_272001))) (Kd.R_lt (kr_ HO_278001))) (Kd.R_lt (kr_ HO_285001))) (Kd.R_lt (kr_ HO309))) (Kd.R_lt (kr_ HO314))) (below_size (bl_ HB))); have n7_ := am_ (blk_below (bk_ BK245) hb); have n8_ := am_ (blk_below (bk_ BK246) hb); have n9_ := am_ (blk_below (bk_ BK265) hb); have n10_ := am_ (blk_below (bk_ BK271) hb); have n11_ := am_ (blk_below (bk_ BK277) hb); have n12_ := am_ (blk_below (bk_ BK284) hb); have n13_ := am_ (blk_below (bk_ BK322) hb); have n14_ := am_ (below_step (bl_ HB) hb); clear HO_266001 HO_272001 HO_278001 HO_285001 HO309 HO314 BK245 BK246 BK265 BK271 BK277 BK284 BK322 HB; have HO_266001 := n0_; have HO_272001 := n1_; have HO_278001 := n2_; have HO_285001 := n3_; have HO309 := n4_; have HO314 := n5_; have HO319 := n6_; have BK245 := n7_; have BK246 := n8_; have BK265 := n9_; have BK271 := n10_; have BK277 := n11_; have BK284 := n12_; have BK322 := n13_; have HB := n14_; clear n0_ n1_ n2_ n3_ n4_ n5_ n6_ n7_ n8_ n9_ n10_ n11_ n12_ n13_ n14_; (try clear hb); (try clear hb2); (try clear hk); (try clear hi); (try clear ho0)
                 refine hK.out _ _ ⟨bc_ BK245 0, bc_ BK245 1, bc_ BK245 2, bc_ BK246 0, bc_ BK246 1, bc_ BK246 2⟩ (fun hHeld => ?_)
                 clear hK K
                 refine norm_ (a' := ?_) ?_ ?_
                 rotate_left
                 ·show Act.put _ (some 99) _ = _
                  exact nm_
                 refine pure_ (i := 5) (N := some 94) (v := ?_) (a' := ?_) #[true, true, true, true, true, true, false, false, true, false, false] rfl rfl (any_of HT_.out (by kernel_rfl)) (fun _ _ _ h => h) (Or.inl ⟨by rfl, ?_⟩) ?_ ?_
                 rotate_left
                 ·intro w'
                  go_simp
                  with_reducible rfl
                 rotate_left
                 ·exact nm_
                 refine pure_ (i := 6) (N := some 100) (v := ?_) (a' := ?_) #[true, true, true, true, true, true, true, false, true, false, false] rfl rfl (any_of HT_.out (by kernel_rfl)) (fun _ _ _ h => h) (Or.inl ⟨by rfl, ?_⟩) ?_ ?_
                 rotate_left
                 ·intro w'
                  go_simp
                  with_reducible rfl
                 rotate_left
                 ·exact nm_
                 refine pure_ (i := 7) (N := some 101) (v := ?_) (a' := ?_) #[true, true, true, true, true, true, true, true, true, false, false] rfl rfl (any_of HT_.out (by kernel_rfl)) (fun _ _ _ h => h) (Or.inl ⟨by rfl, ?_⟩) ?_ ?_
                 rotate_left
                 ·intro w'
                  go_simp
                  with_reducible rfl
                 rotate_left
                 ·exact nm_
                 exact norm_ (by simp only [putAll, Act.put, List.setIfInBounds_toArray, List.set_cons_zero, List.set_cons_succ]) (hCont (.slice Ao189 t307.length co189, .slice Ao190 t312.length co190, v318, gb322) _ ⟨hHeld, (km_ HO309 (fun _ hk => ⟨hk.1.2, ⟨hk.2, ⟨hk.1.1.1.1.1.2, ⟨hk.1.1.1.1.2, ⟨hk.1.1.1.2, hk.1.1.2⟩⟩⟩⟩⟩)), (km_ HO314 (fun _ hk => ⟨hk.1.2, ⟨hk.2, ⟨hk.1.1.1.1.1.2, ⟨hk.1.1.1.1.2, ⟨hk.1.1.1.2, hk.1.1.2⟩⟩⟩⟩⟩)), (km_ HO319 (fun _ hk => ⟨hk.1.2, ⟨hk.2, ⟨hk.1.1.1.1.1.2, ⟨hk.1.1.1.1.2, ⟨hk.1.1.1.2, hk.1.1.2⟩⟩⟩⟩⟩)), (km_ HO_266001 (fun _ hk => ⟨hk.1.1.2, ⟨hk.1.2, ⟨hk.2, ⟨hk.1.1.1.1, ⟨hk.1.1.1.2.1, hk.1.1.1.2.2⟩⟩⟩⟩⟩)), (km_ HO_272001 (fun _ hk => ⟨hk.1.1.2, ⟨hk.1.2, ⟨hk.2, ⟨hk.1.1.1.1, ⟨hk.1.1.1.2.1, hk.1.1.1.2.2⟩⟩⟩⟩⟩)), (km_ HO_278001 (fun _ hk => ⟨hk.1.1.2, ⟨hk.1.2, ⟨hk.2, ⟨hk.1.1.1.1, ⟨hk.1.1.1.2.1, hk.1.1.1.2.2⟩⟩⟩⟩⟩)), (km_ HO_285001 (fun _ hk => ⟨hk.1.1.2, ⟨hk.1.2, ⟨hk.2, ⟨hk.1.1.1.1, ⟨hk.1.1.1.2.1, hk.1.1.1.2.2⟩⟩⟩⟩⟩)), (bk_ BK245), (bk_ BK246), (bk_ BK265), (bk_ BK271), (bk_ BK277), (bk_ BK284), (bk_ BK322), GW322.out, GE322.out, NB245_322.out, NB322_245.out, NB246_322.out, NB322_246.out, NB265_322.out, NB322_265.out, NB271_322.out, NB322_271.out, NB277_322.out, NB322_277.out, NB284_322.out, NB322_284.out, (bl_ HB)⟩)
               ·skip
                refine box_step ?hg (N := 15) ?hd (cs := #[.int .i64 0, .slice none 0 0, .int .i64 0]) (t := 30) ?hr ?_; (case hd => rfl); (case hg => rfl); (case hr => first | (go_simp; done) | (go_simp; rfl))
                intro gb322 hg w187 hbox hb
                have n0_ := am_ (Kd.R_below (kr_ HO_266001) hb); have n1_ := am_ (Kd.R_below (kr_ HO_272001) hb); have n2_ := am_ (Kd.R_below (kr_ HO_278001) hb); have n3_ := am_ (Kd.R_below (kr_ HO_285001) hb); have n4_ := am_ (Kd.R_below (kr_ HO309) hb); have n5_ := am_ (blk_below (bk_ BK245) hb); have n6_ := am_ (blk_below (bk_ BK246) hb); have n7_ := am_ (blk_below (bk_ BK265) hb); have n8_ := am_ (blk_below (bk_ BK271) hb); have n9_ := am_ (blk_below (bk_ BK277) hb); have n10_ := am_ (blk_below (bk_ BK284) hb); have n11_ := am_ (below_step (bl_ HB) hb); have n12_ := am_ (hbox); have n13_ := am_ (gs_ hg HB); have n14_ := am_ (gs_ hg HB); have n15_ := am_ (nl_ hg BK245); have n16_ := am_ (ng_ hg BK245); have n17_ := am_ (nl_ hg BK246); have n18_ := am_ (ng_ hg BK246); have n19_ := am_ (nl_ hg BK265); have n20_ := am_ (ng_ hg BK265); have n21_ := am_ (nl_ hg BK271); have n22_ := am_ (ng_ hg BK271); have n23_ := am_ (nl_ hg BK277); have n24_ := am_ (ng_ hg BK277); have n25_ := am_ (nl_ hg BK284); have n26_ := am_ (ng_ hg BK284); clear HO_266001 HO_272001 HO_278001 HO_285001 HO309 BK245 BK246 BK265 BK271 BK277 BK284 HB; have HO_266001 := n0_; have HO_272001 := n1_; have HO_278001 := n2_; have HO_285001 := n3_; have HO309 := n4_; have BK245 := n5_; have BK246 := n6_; have BK265 := n7_; have BK271 := n8_; have BK277 := n9_; have BK284 := n10_; have HB := n11_; have BK322 := n12_; have GW322 := n13_; have GE322 := n14_; have NB245_322 := n15_; have NB322_245 := n16_; have NB246_322 := n17_; have NB322_246 := n18_; have NB265_322 := n19_; have NB322_265 := n20_; have NB271_322 := n21_; have NB322_271 := n22_; have NB277_322 := n23_; have NB322_277 := n24_; have NB284_322 := n25_; have NB322_284 := n26_; clear n0_ n1_ n2_ n3_ n4_ n5_ n6_ n7_ n8_ n9_ n10_ n11_ n12_ n13_ n14_ n15_ n16_ n17_ n18_ n19_ n20_ n21_ n22_ n23_ n24_ n25_ n26_ hb hbox hg
                refine hK.out _ _ ⟨bc_ BK245 0, bc_ BK245 1, bc_ BK245 2, bc_ BK246 0, bc_ BK246 1, bc_ BK246 2⟩ (fun hHeld => ?_)
                clear hK K
                refine norm_ (a' := ?_) ?_ ?_
                rotate_left
                ·show Act.put _ (some 15) _ = _
                 exact nm_
                refine one_ (i := 3) (N := some 98) #[true, true, true, true, false, false, false, false, true, false, false] rfl rfl (one_of HT_.out (by kernel_rfl)) (by decide) (fun K hK => ?_)
                refine goes_ Tryd.func13 (by kernel_rfl) rfl #[.agg #[.int .i64 a1_0, .slice A1_1 l1_1.length c1_1, .int .i64 a1_2]] (by rfl) rfl rfl ma_ ?_
                with_reducible refine (laws_toDyadic.calls kj108 a1_0 _ _ l1_1 a1_2 t311 t312 t315 _ ?side1 ?side2 A173.out).mono ?_
                (case side1 => exact cb_ HR1_1 HB)
                (case side2 => exact HC1_1.out)
                rintro e w188 ⟨v313, rfl, ho0, hb⟩
                refine ⟨_, rfl, ?_⟩
                have n0_ := am_ (Kd.R_elder' (kr_ HO_266001) (Kd.R_base ho0) hb); have n1_ := am_ (Kd.R_elder' (kr_ HO_272001) (Kd.R_base ho0) hb); have n2_ := am_ (Kd.R_elder' (kr_ HO_278001) (Kd.R_base ho0) hb); have n3_ := am_ (Kd.R_elder' (kr_ HO_285001) (Kd.R_base ho0) hb); have n4_ := am_ (Kd.R_elder' (kr_ HO309) (Kd.R_base ho0) hb); have n5_ := am_ (Kd.R_lower (Kd.R_new' (Kd.R_new' (Kd.R_new' (Kd.R_new' (Kd.R_new' ho0 (Kd.R_lt (kr_ HO_266001))) (Kd.R_lt (kr_ HO_272001))) (Kd.R_lt (kr_ HO_278001))) (Kd.R_lt (kr_ HO_285001))) (Kd.R_lt (kr_ HO309))) (below_size (bl_ HB))); have n6_ := am_ (blk_below (bk_ BK245) hb); have n7_ := am_ (blk_below (bk_ BK246) hb); have n8_ := am_ (blk_below (bk_ BK265) hb); have n9_ := am_ (blk_below (bk_ BK271) hb); have n10_ := am_ (blk_below (bk_ BK277) hb); have n11_ := am_ (blk_below (bk_ BK284) hb); have n12_ := am_ (blk_below (bk_ BK322) hb); have n13_ := am_ (below_step (bl_ HB) hb); clear HO_266001 HO_272001 HO_278001 HO_285001 HO309 BK245 BK246 BK265 BK271 BK277 BK284 BK322 HB; have HO_266001 := n0_; have HO_272001 := n1_; have HO_278001 := n2_; have HO_285001 := n3_; have HO309 := n4_; have HO314 := n5_; have BK245 := n6_; have BK246 := n7_; have BK265 := n8_; have BK271 := n9_; have BK277 := n10_; have BK284 := n11_; have BK322 := n12_; have HB := n13_; clear n0_ n1_ n2_ n3_ n4_ n5_ n6_ n7_ n8_ n9_ n10_ n11_ n12_ n13_; (try clear hb); (try clear hb2); (try clear hk); (try clear hi); (try clear ho0)
                obtain ⟨Ao189, co189, eo189⟩ := Kd.R_slice HO309.out
                (first | subst eo189 | (injection eo189 with f1_ f2_ f3_; have f4_ := f1_.symm; have f5_ := f3_.symm; clear f1_ f2_ f3_; subst f4_; subst f5_))
                obtain ⟨Ao190, co190, eo190⟩ := Kd.R_slice HO314.out
                (first | subst eo190 | (injection eo190 with f1_ f2_ f3_; have f4_ := f1_.symm; have f5_ := f3_.symm; clear f1_ f2_ f3_; subst f4_; subst f5_))
                refine hK.out _ _ ⟨bc_ BK245 0, bc_ BK245 1, bc_ BK245 2, bc_ BK246 0, bc_ BK246 1, bc_ BK246 2⟩ (fun hHeld => ?_)
                clear hK K
                refine norm_ (a' := ?_) ?_ ?_
                rotate_left
                ·show Act.put _ (some 98) _ = _
                 exact nm_
                refine one_ (i := 4) (N := some 99) #[true, true, true, true, true, false, false, false, true, false, false] rfl rfl (one_of HT_.out (by kernel_rfl)) (by decide) (fun K hK => ?_)
                refine goes_ Tryd.func31 (by kernel_rfl) rfl #[.agg #[.int .i64 t306, .slice Ao189 t307.length co189, .int .i64 t310], .agg #[.int .i64 t311, .slice Ao190 t312.length co190, .int .i64 t315]] (by rfl) rfl rfl ma_ ?_
                with_reducible refine (impl_MultiplyDyadics.calls t306 _ _ t307 t310 t311 _ _ t312 t315 t316 t317 t320 t321 _ ?side1 ?side2 ?side3 ?side4 ?sideT A174.out).mono ?_
                (case sideT => exact Go.Proofs.YthddlechoibdkaaDoor.Big.Tab.below HTab.out (bl_ HB))
                (case side1 => exact cr_ HO309)
                (case side2 => exact (Kd.R_reads' HO309.out).2.1)
                (case side3 => exact cr_ HO314)
                (case side4 => exact (Kd.R_reads' HO314.out).2.1)
                rintro e w191 ⟨v318, rfl, ho0, hb⟩
                refine ⟨_, rfl, ?_⟩
                have n0_ := am_ (Kd.R_elder' (kr_ HO_266001) (Kd.R_base ho0) hb); have n1_ := am_ (Kd.R_elder' (kr_ HO_272001) (Kd.R_base ho0) hb); have n2_ := am_ (Kd.R_elder' (kr_ HO_278001) (Kd.R_base ho0) hb); have n3_ := am_ (Kd.R_elder' (kr_ HO_285001) (Kd.R_base ho0) hb); have n4_ := am_ (Kd.R_elder' (kr_ HO309) (Kd.R_base ho0) hb); have n5_ := am_ (Kd.R_elder' (kr_ HO314) (Kd.R_base ho0) hb); have n6_ := am_ (Kd.R_lower (Kd.R_new' (Kd.R_new' (Kd.R_new' (Kd.R_new' (Kd.R_new' (Kd.R_new' ho0 (Kd.R_lt (kr_ HO_266001))) (Kd.R_lt (kr_ HO_272001))) (Kd.R_lt (kr_ HO_278001))) (Kd.R_lt (kr_ HO_285001))) (Kd.R_lt (kr_ HO309))) (Kd.R_lt (kr_ HO314))) (below_size (bl_ HB))); have n7_ := am_ (blk_below (bk_ BK245) hb); have n8_ := am_ (blk_below (bk_ BK246) hb); have n9_ := am_ (blk_below (bk_ BK265) hb); have n10_ := am_ (blk_below (bk_ BK271) hb); have n11_ := am_ (blk_below (bk_ BK277) hb); have n12_ := am_ (blk_below (bk_ BK284) hb); have n13_ := am_ (blk_below (bk_ BK322) hb); have n14_ := am_ (below_step (bl_ HB) hb); clear HO_266001 HO_272001 HO_278001 HO_285001 HO309 HO314 BK245 BK246 BK265 BK271 BK277 BK284 BK322 HB; have HO_266001 := n0_; have HO_272001 := n1_; have HO_278001 := n2_; have HO_285001 := n3_; have HO309 := n4_; have HO314 := n5_; have HO319 := n6_; have BK245 := n7_; have BK246 := n8_; have BK265 := n9_; have BK271 := n10_; have BK277 := n11_; have BK284 := n12_; have BK322 := n13_; have HB := n14_; clear n0_ n1_ n2_ n3_ n4_ n5_ n6_ n7_ n8_ n9_ n10_ n11_ n12_ n13_ n14_; (try clear hb); (try clear hb2); (try clear hk); (try clear hi); (try clear ho0)
                refine hK.out _ _ ⟨bc_ BK245 0, bc_ BK245 1, bc_ BK245 2, bc_ BK246 0, bc_ BK246 1, bc_ BK246 2⟩ (fun hHeld => ?_)
                clear hK K
                refine norm_ (a' := ?_) ?_ ?_
                rotate_left
                ·show Act.put _ (some 99) _ = _
                 exact nm_
                refine pure_ (i := 5) (N := some 94) (v := ?_) (a' := ?_) #[true, true, true, true, true, true, false, false, true, false, false] rfl rfl (any_of HT_.out (by kernel_rfl)) (fun _ _ _ h => h) (Or.inl ⟨by rfl, ?_⟩) ?_ ?_
                rotate_left
                ·intro w'
                 go_simp
                 with_reducible rfl
                rotate_left
                ·exact nm_
                refine pure_ (i := 6) (N := some 100) (v := ?_) (a' := ?_) #[true, true, true, true, true, true, true, false, true, false, false] rfl rfl (any_of HT_.out (by kernel_rfl)) (fun _ _ _ h => h) (Or.inl ⟨by rfl, ?_⟩) ?_ ?_
                rotate_left
                ·intro w'
                 go_simp
                 with_reducible rfl
                rotate_left
                ·exact nm_
                refine pure_ (i := 7) (N := some 101) (v := ?_) (a' := ?_) #[true, true, true, true, true, true, true, true, true, false, false] rfl rfl (any_of HT_.out (by kernel_rfl)) (fun _ _ _ h => h) (Or.inl ⟨by rfl, ?_⟩) ?_ ?_
                rotate_left
                ·intro w'
                 go_simp
                 with_reducible rfl
                rotate_left
                ·exact nm_
                exact norm_ (by simp only [putAll, Act.put, List.setIfInBounds_toArray, List.set_cons_zero, List.set_cons_succ]) (hCont (.slice Ao189 t307.length co189, .slice Ao190 t312.length co190, v318, gb322) _ ⟨hHeld, (km_ HO309 (fun _ hk => ⟨hk.1.2, ⟨hk.2, ⟨hk.1.1.1.1.1.2, ⟨hk.1.1.1.1.2, ⟨hk.1.1.1.2, hk.1.1.2⟩⟩⟩⟩⟩)), (km_ HO314 (fun _ hk => ⟨hk.1.2, ⟨hk.2, ⟨hk.1.1.1.1.1.2, ⟨hk.1.1.1.1.2, ⟨hk.1.1.1.2, hk.1.1.2⟩⟩⟩⟩⟩)), (km_ HO319 (fun _ hk => ⟨hk.1.2, ⟨hk.2, ⟨hk.1.1.1.1.1.2, ⟨hk.1.1.1.1.2, ⟨hk.1.1.1.2, hk.1.1.2⟩⟩⟩⟩⟩)), (km_ HO_266001 (fun _ hk => ⟨hk.1.1.2, ⟨hk.1.2, ⟨hk.2, ⟨hk.1.1.1.1, ⟨hk.1.1.1.2.1, hk.1.1.1.2.2⟩⟩⟩⟩⟩)), (km_ HO_272001 (fun _ hk => ⟨hk.1.1.2, ⟨hk.1.2, ⟨hk.2, ⟨hk.1.1.1.1, ⟨hk.1.1.1.2.1, hk.1.1.1.2.2⟩⟩⟩⟩⟩)), (km_ HO_278001 (fun _ hk => ⟨hk.1.1.2, ⟨hk.1.2, ⟨hk.2, ⟨hk.1.1.1.1, ⟨hk.1.1.1.2.1, hk.1.1.1.2.2⟩⟩⟩⟩⟩)), (km_ HO_285001 (fun _ hk => ⟨hk.1.1.2, ⟨hk.1.2, ⟨hk.2, ⟨hk.1.1.1.1, ⟨hk.1.1.1.2.1, hk.1.1.1.2.2⟩⟩⟩⟩⟩)), (bk_ BK245), (bk_ BK246), (bk_ BK265), (bk_ BK271), (bk_ BK277), (bk_ BK284), (bk_ BK322), GW322.out, GE322.out, NB245_322.out, NB322_245.out, NB246_322.out, NB322_246.out, NB265_322.out, NB322_265.out, NB271_322.out, NB322_271.out, NB277_322.out, NB322_277.out, NB284_322.out, NB322_284.out, (bl_ HB)⟩)
              ·skip
               refine box_step ?hg (N := 15) ?hd (cs := #[.int .i64 0, .slice none 0 0, .int .i64 0]) (t := 30) ?hr ?_; (case hd => rfl); (case hg => rfl); (case hr => first | (go_simp; done) | (go_simp; rfl))
               intro gb322 hg w186 hbox hb
               have n0_ := am_ (Kd.R_below (kr_ HO_266001) hb); have n1_ := am_ (Kd.R_below (kr_ HO_272001) hb); have n2_ := am_ (Kd.R_below (kr_ HO_278001) hb); have n3_ := am_ (Kd.R_below (kr_ HO_285001) hb); have n4_ := am_ (blk_below (bk_ BK245) hb); have n5_ := am_ (blk_below (bk_ BK246) hb); have n6_ := am_ (blk_below (bk_ BK265) hb); have n7_ := am_ (blk_below (bk_ BK271) hb); have n8_ := am_ (blk_below (bk_ BK277) hb); have n9_ := am_ (blk_below (bk_ BK284) hb); have n10_ := am_ (below_step (bl_ HB) hb); have n11_ := am_ (hbox); have n12_ := am_ (gs_ hg HB); have n13_ := am_ (gs_ hg HB); have n14_ := am_ (nl_ hg BK245); have n15_ := am_ (ng_ hg BK245); have n16_ := am_ (nl_ hg BK246); have n17_ := am_ (ng_ hg BK246); have n18_ := am_ (nl_ hg BK265); have n19_ := am_ (ng_ hg BK265); have n20_ := am_ (nl_ hg BK271); have n21_ := am_ (ng_ hg BK271); have n22_ := am_ (nl_ hg BK277); have n23_ := am_ (ng_ hg BK277); have n24_ := am_ (nl_ hg BK284); have n25_ := am_ (ng_ hg BK284); clear HO_266001 HO_272001 HO_278001 HO_285001 BK245 BK246 BK265 BK271 BK277 BK284 HB; have HO_266001 := n0_; have HO_272001 := n1_; have HO_278001 := n2_; have HO_285001 := n3_; have BK245 := n4_; have BK246 := n5_; have BK265 := n6_; have BK271 := n7_; have BK277 := n8_; have BK284 := n9_; have HB := n10_; have BK322 := n11_; have GW322 := n12_; have GE322 := n13_; have NB245_322 := n14_; have NB322_245 := n15_; have NB246_322 := n16_; have NB322_246 := n17_; have NB265_322 := n18_; have NB322_265 := n19_; have NB271_322 := n20_; have NB322_271 := n21_; have NB277_322 := n22_; have NB322_277 := n23_; have NB284_322 := n24_; have NB322_284 := n25_; clear n0_ n1_ n2_ n3_ n4_ n5_ n6_ n7_ n8_ n9_ n10_ n11_ n12_ n13_ n14_ n15_ n16_ n17_ n18_ n19_ n20_ n21_ n22_ n23_ n24_ n25_ hb hbox hg
               refine hK.out _ _ ⟨bc_ BK245 0, bc_ BK245 1, bc_ BK245 2, bc_ BK246 0, bc_ BK246 1, bc_ BK246 2⟩ (fun hHeld => ?_)
               clear hK K
               refine norm_ (a' := ?_) ?_ ?_
               rotate_left
               ·show Act.put _ (some 15) _ = _
                exact nm_
               refine one_ (i := 1) (N := some 96) #[true, true, true, false, false, false, false, false, true, false, false] rfl rfl (one_of HT_.out (by kernel_rfl)) (by decide) (fun K hK => ?_)
               refine goes_ Tryd.func13 (by kernel_rfl) rfl #[.agg #[.int .i64 a0_0, .slice A0_1 l0_1.length c0_1, .int .i64 a0_2]] (by rfl) rfl rfl ma_ ?_
               with_reducible refine (laws_toDyadic.calls kj108 a0_0 _ _ l0_1 a0_2 t306 t307 t310 _ ?side1 ?side2 A172.out).mono ?_
               (case side1 => exact cb_ HR0_1 HB)
               (case side2 => exact HC0_1.out)
               rintro e w187 ⟨v308, rfl, ho0, hb⟩
               refine ⟨_, rfl, ?_⟩
               have n0_ := am_ (Kd.R_elder' (kr_ HO_266001) (Kd.R_base ho0) hb); have n1_ := am_ (Kd.R_elder' (kr_ HO_272001) (Kd.R_base ho0) hb); have n2_ := am_ (Kd.R_elder' (kr_ HO_278001) (Kd.R_base ho0) hb); have n3_ := am_ (Kd.R_elder' (kr_ HO_285001) (Kd.R_base ho0) hb); have n4_ := am_ (Kd.R_lower (Kd.R_new' (Kd.R_new' (Kd.R_new' (Kd.R_new' ho0 (Kd.R_lt (kr_ HO_266001))) (Kd.R_lt (kr_ HO_272001))) (Kd.R_lt (kr_ HO_278001))) (Kd.R_lt (kr_ HO_285001))) (below_size (bl_ HB))); have n5_ := am_ (blk_below (bk_ BK245) hb); have n6_ := am_ (blk_below (bk_ BK246) hb); have n7_ := am_ (blk_below (bk_ BK265) hb); have n8_ := am_ (blk_below (bk_ BK271) hb); have n9_ := am_ (blk_below (bk_ BK277) hb); have n10_ := am_ (blk_below (bk_ BK284) hb); have n11_ := am_ (blk_below (bk_ BK322) hb); have n12_ := am_ (below_step (bl_ HB) hb); clear HO_266001 HO_272001 HO_278001 HO_285001 BK245 BK246 BK265 BK271 BK277 BK284 BK322 HB; have HO_266001 := n0_; have HO_272001 := n1_; have HO_278001 := n2_; have HO_285001 := n3_; have HO309 := n4_; have BK245 := n5_; have BK246 := n6_; have BK265 := n7_; have BK271 := n8_; have BK277 := n9_; have BK284 := n10_; have BK322 := n11_; have HB := n12_; clear n0_ n1_ n2_ n3_ n4_ n5_ n6_ n7_ n8_ n9_ n10_ n11_ n12_; (try clear hb); (try clear hb2); (try clear hk); (try clear hi); (try clear ho0)
               refine hK.out _ _ ⟨bc_ BK245 0, bc_ BK245 1, bc_ BK245 2, bc_ BK246 0, bc_ BK246 1, bc_ BK246 2⟩ (fun hHeld => ?_)
               clear hK K
               refine norm_ (a' := ?_) ?_ ?_
               rotate_left
               ·show Act.put _ (some 96) _ = _
                exact nm_
               refine one_ (i := 3) (N := some 98) #[true, true, true, true, false, false, false, false, true, false, false] rfl rfl (one_of HT_.out (by kernel_rfl)) (by decide) (fun K hK => ?_)
               refine goes_ Tryd.func13 (by kernel_rfl) rfl #[.agg #[.int .i64 a1_0, .slice A1_1 l1_1.length c1_1, .int .i64 a1_2]] (by rfl) rfl rfl ma_ ?_
               with_reducible refine (laws_toDyadic.calls kj108 a1_0 _ _ l1_1 a1_2 t311 t312 t315 _ ?side1 ?side2 A173.out).mono ?_
               (case side1 => exact cb_ HR1_1 HB)
               (case side2 => exact HC1_1.out)
               rintro e w188 ⟨v313, rfl, ho0, hb⟩
               refine ⟨_, rfl, ?_⟩
               have n0_ := am_ (Kd.R_elder' (kr_ HO_266001) (Kd.R_base ho0) hb); have n1_ := am_ (Kd.R_elder' (kr_ HO_272001) (Kd.R_base ho0) hb); have n2_ := am_ (Kd.R_elder' (kr_ HO_278001) (Kd.R_base ho0) hb); have n3_ := am_ (Kd.R_elder' (kr_ HO_285001) (Kd.R_base ho0) hb); have n4_ := am_ (Kd.R_elder' (kr_ HO309) (Kd.R_base ho0) hb); have n5_ := am_ (Kd.R_lower (Kd.R_new' (Kd.R_new' (Kd.R_new' (Kd.R_new' (Kd.R_new' ho0 (Kd.R_lt (kr_ HO_266001))) (Kd.R_lt (kr_ HO_272001))) (Kd.R_lt (kr_ HO_278001))) (Kd.R_lt (kr_ HO_285001))) (Kd.R_lt (kr_ HO309))) (below_size (bl_ HB))); have n6_ := am_ (blk_below (bk_ BK245) hb); have n7_ := am_ (blk_below (bk_ BK246) hb); have n8_ := am_ (blk_below (bk_ BK265) hb); have n9_ := am_ (blk_below (bk_ BK271) hb); have n10_ := am_ (blk_below (bk_ BK277) hb); have n11_ := am_ (blk_below (bk_ BK284) hb); have n12_ := am_ (blk_below (bk_ BK322) hb); have n13_ := am_ (below_step (bl_ HB) hb); clear HO_266001 HO_272001 HO_278001 HO_285001 HO309 BK245 BK246 BK265 BK271 BK277 BK284 BK322 HB; have HO_266001 := n0_; have HO_272001 := n1_; have HO_278001 := n2_; have HO_285001 := n3_; have HO309 := n4_; have HO314 := n5_; have BK245 := n6_; have BK246 := n7_; have BK265 := n8_; have BK271 := n9_; have BK277 := n10_; have BK284 := n11_; have BK322 := n12_; have HB := n13_; clear n0_ n1_ n2_ n3_ n4_ n5_ n6_ n7_ n8_ n9_ n10_ n11_ n12_ n13_; (try clear hb); (try clear hb2); (try clear hk); (try clear hi); (try clear ho0)
               obtain ⟨Ao189, co189, eo189⟩ := Kd.R_slice HO309.out
               (first | subst eo189 | (injection eo189 with f1_ f2_ f3_; have f4_ := f1_.symm; have f5_ := f3_.symm; clear f1_ f2_ f3_; subst f4_; subst f5_))
               obtain ⟨Ao190, co190, eo190⟩ := Kd.R_slice HO314.out
               (first | subst eo190 | (injection eo190 with f1_ f2_ f3_; have f4_ := f1_.symm; have f5_ := f3_.symm; clear f1_ f2_ f3_; subst f4_; subst f5_))
               refine hK.out _ _ ⟨bc_ BK245 0, bc_ BK245 1, bc_ BK245 2, bc_ BK246 0, bc_ BK246 1, bc_ BK246 2⟩ (fun hHeld => ?_)
               clear hK K
               refine norm_ (a' := ?_) ?_ ?_
               rotate_left
               ·show Act.put _ (some 98) _ = _
                exact nm_
               refine one_ (i := 4) (N := some 99) #[true, true, true, true, true, false, false, false, true, false, false] rfl rfl (one_of HT_.out (by kernel_rfl)) (by decide) (fun K hK => ?_)
               refine goes_ Tryd.func31 (by kernel_rfl) rfl #[.agg #[.int .i64 t306, .slice Ao189 t307.length co189, .int .i64 t310], .agg #[.int .i64 t311, .slice Ao190 t312.length co190, .int .i64 t315]] (by rfl) rfl rfl ma_ ?_
               with_reducible refine (impl_MultiplyDyadics.calls t306 _ _ t307 t310 t311 _ _ t312 t315 t316 t317 t320 t321 _ ?side1 ?side2 ?side3 ?side4 ?sideT A174.out).mono ?_
               (case sideT => exact Go.Proofs.YthddlechoibdkaaDoor.Big.Tab.below HTab.out (bl_ HB))
               (case side1 => exact cr_ HO309)
               (case side2 => exact (Kd.R_reads' HO309.out).2.1)
               (case side3 => exact cr_ HO314)
               (case side4 => exact (Kd.R_reads' HO314.out).2.1)
               rintro e w191 ⟨v318, rfl, ho0, hb⟩
               refine ⟨_, rfl, ?_⟩
               have n0_ := am_ (Kd.R_elder' (kr_ HO_266001) (Kd.R_base ho0) hb); have n1_ := am_ (Kd.R_elder' (kr_ HO_272001) (Kd.R_base ho0) hb); have n2_ := am_ (Kd.R_elder' (kr_ HO_278001) (Kd.R_base ho0) hb); have n3_ := am_ (Kd.R_elder' (kr_ HO_285001) (Kd.R_base ho0) hb); have n4_ := am_ (Kd.R_elder' (kr_ HO309) (Kd.R_base ho0) hb); have n5_ := am_ (Kd.R_elder' (kr_ HO314) (Kd.R_base ho0) hb); have n6_ := am_ (Kd.R_lower (Kd.R_new' (Kd.R_new' (Kd.R_new' (Kd.R_new' (Kd.R_new' (Kd.R_new' ho0 (Kd.R_lt (kr_ HO_266001))) (Kd.R_lt (kr_ HO_272001))) (Kd.R_lt (kr_ HO_278001))) (Kd.R_lt (kr_ HO_285001))) (Kd.R_lt (kr_ HO309))) (Kd.R_lt (kr_ HO314))) (below_size (bl_ HB))); have n7_ := am_ (blk_below (bk_ BK245) hb); have n8_ := am_ (blk_below (bk_ BK246) hb); have n9_ := am_ (blk_below (bk_ BK265) hb); have n10_ := am_ (blk_below (bk_ BK271) hb); have n11_ := am_ (blk_below (bk_ BK277) hb); have n12_ := am_ (blk_below (bk_ BK284) hb); have n13_ := am_ (blk_below (bk_ BK322) hb); have n14_ := am_ (below_step (bl_ HB) hb); clear HO_266001 HO_272001 HO_278001 HO_285001 HO309 HO314 BK245 BK246 BK265 BK271 BK277 BK284 BK322 HB; have HO_266001 := n0_; have HO_272001 := n1_; have HO_278001 := n2_; have HO_285001 := n3_; have HO309 := n4_; have HO314 := n5_; have HO319 := n6_; have BK245 := n7_; have BK246 := n8_; have BK265 := n9_; have BK271 := n10_; have BK277 := n11_; have BK284 := n12_; have BK322 := n13_; have HB := n14_; clear n0_ n1_ n2_ n3_ n4_ n5_ n6_ n7_ n8_ n9_ n10_ n11_ n12_ n13_ n14_; (try clear hb); (try clear hb2); (try clear hk); (try clear hi); (try clear ho0)
               refine hK.out _ _ ⟨bc_ BK245 0, bc_ BK245 1, bc_ BK245 2, bc_ BK246 0, bc_ BK246 1, bc_ BK246 2⟩ (fun hHeld => ?_)
               clear hK K
               refine norm_ (a' := ?_) ?_ ?_
               rotate_left
               ·show Act.put _ (some 99) _ = _
                exact nm_
               refine pure_ (i := 5) (N := some 94) (v := ?_) (a' := ?_) #[true, true, true, true, true, true, false, false, true, false, false] rfl rfl (any_of HT_.out (by kernel_rfl)) (fun _ _ _ h => h) (Or.inl ⟨by rfl, ?_⟩) ?_ ?_
               rotate_left
               ·intro w'
                go_simp
                with_reducible rfl
               rotate_left
               ·exact nm_
               refine pure_ (i := 6) (N := some 100) (v := ?_) (a' := ?_) #[true, true, true, true, true, true, true, false, true, false, false] rfl rfl (any_of HT_.out (by kernel_rfl)) (fun _ _ _ h => h) (Or.inl ⟨by rfl, ?_⟩) ?_ ?_
               rotate_left
               ·intro w'
                go_simp
                with_reducible rfl
               rotate_left
               ·exact nm_
               refine pure_ (i := 7) (N := some 101) (v := ?_) (a' := ?_) #[true, true, true, true, true, true, true, true, true, false, false] rfl rfl (any_of HT_.out (by kernel_rfl)) (fun _ _ _ h => h) (Or.inl ⟨by rfl, ?_⟩) ?_ ?_
               rotate_left
               ·intro w'
                go_simp
                with_reducible rfl
               rotate_left
               ·exact nm_
               exact norm_ (by simp only [putAll, Act.put, List.setIfInBounds_toArray, List.set_cons_zero, List.set_cons_succ]) (hCont (.slice Ao189 t307.length co189, .slice Ao190 t312.length co190, v318, gb322) _ ⟨hHeld, (km_ HO309 (fun _ hk => ⟨hk.1.2, ⟨hk.2, ⟨hk.1.1.1.1.1.2, ⟨hk.1.1.1.1.2, ⟨hk.1.1.1.2, hk.1.1.2⟩⟩⟩⟩⟩)), (km_ HO314 (fun _ hk => ⟨hk.1.2, ⟨hk.2, ⟨hk.1.1.1.1.1.2, ⟨hk.1.1.1.1.2, ⟨hk.1.1.1.2, hk.1.1.2⟩⟩⟩⟩⟩)), (km_ HO319 (fun _ hk => ⟨hk.1.2, ⟨hk.2, ⟨hk.1.1.1.1.1.2, ⟨hk.1.1.1.1.2, ⟨hk.1.1.1.2, hk.1.1.2⟩⟩⟩⟩⟩)), (km_ HO_266001 (fun _ hk => ⟨hk.1.1.2, ⟨hk.1.2, ⟨hk.2, ⟨hk.1.1.1.1, ⟨hk.1.1.1.2.1, hk.1.1.1.2.2⟩⟩⟩⟩⟩)), (km_ HO_272001 (fun _ hk => ⟨hk.1.1.2, ⟨hk.1.2, ⟨hk.2, ⟨hk.1.1.1.1, ⟨hk.1.1.1.2.1, hk.1.1.1.2.2⟩⟩⟩⟩⟩)), (km_ HO_278001 (fun _ hk => ⟨hk.1.1.2, ⟨hk.1.2, ⟨hk.2, ⟨hk.1.1.1.1, ⟨hk.1.1.1.2.1, hk.1.1.1.2.2⟩⟩⟩⟩⟩)), (km_ HO_285001 (fun _ hk => ⟨hk.1.1.2, ⟨hk.1.2, ⟨hk.2, ⟨hk.1.1.1.1, ⟨hk.1.1.1.2.1, hk.1.1.1.2.2⟩⟩⟩⟩⟩)), (bk_ BK245), (bk_ BK246), (bk_ BK265), (bk_ BK271), (bk_ BK277), (bk_ BK284), (bk_ BK322), GW322.out, GE322.out, NB245_322.out, NB322_245.out, NB246_322.out, NB322_246.out, NB265_322.out, NB322_265.out, NB271_322.out, NB322_271.out, NB277_322.out, NB322_277.out, NB284_322.out, NB322_284.out, (bl_ HB)⟩)
             rintro ⟨v308, v313, v318, gb322⟩ w192 ⟨hS_, h0_, h1_, h2_, h3_, h4_, h5_, h6_, h7_, h8_, h9_, h10_, h11_, h12_, h13_, h14_, h15_, h16_, h17_, h18_, h19_, h20_, h21_, h22_, h23_, h24_, h25_, h26_, h27_, h28_⟩
             have n0_ : Aside0 (Kd.R (Kd.int .i64) 2 w192 w.heap.size (fun k_ => some k_ ≠ (v313 : Value).ownBlock ∧ some k_ ≠ (v318 : Value).ownBlock ∧ some k_ ≠ (.slice Ao42 t260.length co42 : Value).ownBlock ∧ some k_ ≠ (.slice Ao53 t299.length co53 : Value).ownBlock ∧ some k_ ≠ (.slice Ao63 t301.length co63 : Value).ownBlock ∧ some k_ ≠ (.slice Ao73 t279.length co73 : Value).ownBlock) v308 t307) := ⟨h0_⟩
             have n1_ : Aside0 (Kd.R (Kd.int .i64) 2 w192 w.heap.size (fun k_ => some k_ ≠ (v308 : Value).ownBlock ∧ some k_ ≠ (v318 : Value).ownBlock ∧ some k_ ≠ (.slice Ao42 t260.length co42 : Value).ownBlock ∧ some k_ ≠ (.slice Ao53 t299.length co53 : Value).ownBlock ∧ some k_ ≠ (.slice Ao63 t301.length co63 : Value).ownBlock ∧ some k_ ≠ (.slice Ao73 t279.length co73 : Value).ownBlock) v313 t312) := ⟨h1_⟩
             have n2_ : Aside0 (Kd.R (Kd.int .i64) 2 w192 w.heap.size (fun k_ => some k_ ≠ (v308 : Value).ownBlock ∧ some k_ ≠ (v313 : Value).ownBlock ∧ some k_ ≠ (.slice Ao42 t260.length co42 : Value).ownBlock ∧ some k_ ≠ (.slice Ao53 t299.length co53 : Value).ownBlock ∧ some k_ ≠ (.slice Ao63 t301.length co63 : Value).ownBlock ∧ some k_ ≠ (.slice Ao73 t279.length co73 : Value).ownBlock) v318 t317) := ⟨h2_⟩
             have n3_ : Aside0 (Kd.R (Kd.int .i64) 2 w192 w.heap.size (fun k_ => some k_ ≠ (v308 : Value).ownBlock ∧ some k_ ≠ (v313 : Value).ownBlock ∧ some k_ ≠ (v318 : Value).ownBlock ∧ some k_ ≠ (.slice Ao53 t299.length co53 : Value).ownBlock ∧ some k_ ≠ (.slice Ao63 t301.length co63 : Value).ownBlock ∧ some k_ ≠ (.slice Ao73 t279.length co73 : Value).ownBlock) (.slice Ao42 t260.length co42) t260) := ⟨h3_⟩
             have n4_ : Aside0 (Kd.R (Kd.int .i64) 2 w192 w.heap.size (fun k_ => some k_ ≠ (v308 : Value).ownBlock ∧ some k_ ≠ (v313 : Value).ownBlock ∧ some k_ ≠ (v318 : Value).ownBlock ∧ some k_ ≠ (.slice Ao42 t260.length co42 : Value).ownBlock ∧ some k_ ≠ (.slice Ao63 t301.length co63 : Value).ownBlock ∧ some k_ ≠ (.slice Ao73 t279.length co73 : Value).ownBlock) (.slice Ao53 t299.length co53) t299) := ⟨h4_⟩
             have n5_ : Aside0 (Kd.R (Kd.int .i64) 2 w192 w.heap.size (fun k_ => some k_ ≠ (v308 : Value).ownBlock ∧ some k_ ≠ (v313 : Value).ownBlock ∧ some k_ ≠ (v318 : Value).ownBlock ∧ some k_ ≠ (.slice Ao42 t260.length co42 : Value).ownBlock ∧ some k_ ≠ (.slice Ao53 t299.length co53 : Value).ownBlock ∧ some k_ ≠ (.slice Ao73 t279.length co73 : Value).ownBlock) (.slice Ao63 t301.length co63) t301) := ⟨h5_⟩
             have n6_ : Aside0 (Kd.R (Kd.int .i64) 2 w192 w.heap.size (fun k_ => some k_ ≠ (v308 : Value).ownBlock ∧ some k_ ≠ (v313 : Value).ownBlock ∧ some k_ ≠ (v318 : Value).ownBlock ∧ some k_ ≠ (.slice Ao42 t260.length co42 : Value).ownBlock ∧ some k_ ≠ (.slice Ao53 t299.length co53 : Value).ownBlock ∧ some k_ ≠ (.slice Ao63 t301.length co63 : Value).ownBlock) (.slice Ao73 t279.length co73) t304) := ⟨h6_⟩
             have n7_ : Aside0 (w192.heap[gb245]? = some (.cells #[.int .i64 a0_0, .slice A0_1 l0_1.length c0_1, .int .i64 a0_2] 26 (0, 0))) := ⟨h7_⟩
             have n8_ : Aside0 (w192.heap[gb246]? = some (.cells #[.int .i64 a1_0, .slice A1_1 l1_1.length c1_1, .int .i64 a1_2] 26 (0, 0))) := ⟨h8_⟩
             have n9_ : Aside0 (w192.heap[gb265]? = some (.cells #[.int .i64 t259, .slice Ao42 t260.length co42, .int .i64 t263] 30 (0, 0))) := ⟨h9_⟩
             have n10_ : Aside0 (w192.heap[gb271]? = some (.cells #[.int .i64 t266, .slice Ao53 t299.length co53, .int .i64 t270] 30 (0, 0))) := ⟨h10_⟩
             have n11_ : Aside0 (w192.heap[gb277]? = some (.cells #[.int .i64 t272, .slice Ao63 t301.length co63, .int .i64 t276] 30 (0, 0))) := ⟨h11_⟩
             have n12_ : Aside0 (w192.heap[gb284]? = some (.cells #[.int .i64 t278, .slice Ao73 t279.length co73, .int .i64 t282] 30 (0, 0))) := ⟨h12_⟩
             have n13_ : Aside0 (w192.heap[gb322]? = some (.cells #[.int .i64 0, .slice none 0 0, .int .i64 0] 30 (0, 0))) := ⟨h13_⟩
             have n14_ : Aside0 (w.heap.size ≤ gb322) := ⟨h14_⟩
             have n15_ : Aside0 (w.heap.size ≤ gb322) := ⟨h15_⟩
             have n16_ : Aside0 (gb245 ≠ gb322) := ⟨h16_⟩
             have n17_ : Aside0 (gb322 ≠ gb245) := ⟨h17_⟩
             have n18_ : Aside0 (gb246 ≠ gb322) := ⟨h18_⟩
             have n19_ : Aside0 (gb322 ≠ gb246) := ⟨h19_⟩
             have n20_ : Aside0 (gb265 ≠ gb322) := ⟨h20_⟩
             have n21_ : Aside0 (gb322 ≠ gb265) := ⟨h21_⟩
             have n22_ : Aside0 (gb271 ≠ gb322) := ⟨h22_⟩
             have n23_ : Aside0 (gb322 ≠ gb271) := ⟨h23_⟩
             have n24_ : Aside0 (gb277 ≠ gb322) := ⟨h24_⟩
             have n25_ : Aside0 (gb322 ≠ gb277) := ⟨h25_⟩
             have n26_ : Aside0 (gb284 ≠ gb322) := ⟨h26_⟩
             have n27_ : Aside0 (gb322 ≠ gb284) := ⟨h27_⟩
             have n28_ : Aside0 (Below w.heap.size w w192) := ⟨h28_⟩
             clear HO_266001 HO_272001 HO_278001 HO_285001 BK245 BK246 BK265 BK271 BK277 BK284 HB h0_ h1_ h2_ h3_ h4_ h5_ h6_ h7_ h8_ h9_ h10_ h11_ h12_ h13_ h14_ h15_ h16_ h17_ h18_ h19_ h20_ h21_ h22_ h23_ h24_ h25_ h26_ h27_ h28_; have HO309 := n0_; have HO314 := n1_; have HO319 := n2_; have HO_266001 := n3_; have HO_272001 := n4_; have HO_278001 := n5_; have HO_285001 := n6_; have BK245 := n7_; have BK246 := n8_; have BK265 := n9_; have BK271 := n10_; have BK277 := n11_; have BK284 := n12_; have BK322 := n13_; have GW322 := n14_; have GE322 := n15_; have NB245_322 := n16_; have NB322_245 := n17_; have NB246_322 := n18_; have NB322_246 := n19_; have NB265_322 := n20_; have NB322_265 := n21_; have NB271_322 := n22_; have NB322_271 := n23_; have NB277_322 := n24_; have NB322_277 := n25_; have NB284_322 := n26_; have NB322_284 := n27_; have HB := n28_; clear n0_ n1_ n2_ n3_ n4_ n5_ n6_ n7_ n8_ n9_ n10_ n11_ n12_ n13_ n14_ n15_ n16_ n17_ n18_ n19_ n20_ n21_ n22_ n23_ n24_ n25_ n26_ n27_ n28_
             have hHeld : w192.cell? ⟨gb245, 0, none⟩ = some (.int .i64 a0_0) ∧ w192.cell? ⟨gb245, 1, none⟩ = some (.slice A0_1 l0_1.length c0_1) ∧ w192.cell? ⟨gb245, 2, none⟩ = some (.int .i64 a0_2) ∧ w192.cell? ⟨gb246, 0, none⟩ = some (.int .i64 a1_0) ∧ w192.cell? ⟨gb246, 1, none⟩ = some (.slice A1_1 l1_1.length c1_1) ∧ w192.cell? ⟨gb246, 2, none⟩ = some (.int .i64 a1_2) := hS_
             obtain ⟨Ao194, co194, eo194⟩ := Kd.R_slice HO319.out
             (first | subst eo194 | (injection eo194 with f1_ f2_ f3_; have f4_ := f1_.symm; have f5_ := f3_.symm; clear f1_ f2_ f3_; subst f4_; subst f5_))
             refine norm_ (a' := ?_) ?_ ?_
             rotate_left
             ·simp only [putAll, Act.put, List.setIfInBounds_toArray, List.set_cons_zero, List.set_cons_succ]
              rfl
             refine one_ (i := 9) (N := none) #[true, true, true, true, true, true, true, true, true, true, false] rfl rfl (one_of HT_.out (by kernel_rfl)) (by decide) (fun K hK => ?_)
             have hs193 : w192.cell? ⟨gb322, 0, none⟩ = some (.int .i64 0) := bc_ BK322 0
             have hfs193 := blk_frozen BK322.out 0; have hns193_0 := NB245_322.out; have hns193_1 := NB246_322.out; have hns193_2 := NB265_322.out; have hns193_3 := NB271_322.out; have hns193_4 := NB277_322.out; have hns193_5 := NB284_322.out; have hms193_0 := NB322_245.out; have hms193_1 := NB322_246.out; have hms193_2 := NB322_265.out; have hms193_3 := NB322_271.out; have hms193_4 := NB322_277.out; have hms193_5 := NB322_284.out
             have hs195 : w192.cell? ⟨gb322, 1, none⟩ = some (.slice none 0 0) := bc_ BK322 1
             have hfs195 := blk_frozen BK322.out 1; have hns195_0 := NB245_322.out; have hns195_1 := NB246_322.out; have hns195_2 := NB265_322.out; have hns195_3 := NB271_322.out; have hns195_4 := NB277_322.out; have hns195_5 := NB284_322.out; have hms195_0 := NB322_245.out; have hms195_1 := NB322_246.out; have hms195_2 := NB322_265.out; have hms195_3 := NB322_271.out; have hms195_4 := NB322_277.out; have hms195_5 := NB322_284.out
             have hs196 : w192.cell? ⟨gb322, 2, none⟩ = some (.int .i64 0) := bc_ BK322 2
             have hfs196 := blk_frozen BK322.out 2; have hns196_0 := NB245_322.out; have hns196_1 := NB246_322.out; have hns196_2 := NB265_322.out; have hns196_3 := NB271_322.out; have hns196_4 := NB277_322.out; have hns196_5 := NB284_322.out; have hms196_0 := NB322_245.out; have hms196_1 := NB322_246.out; have hms196_2 := NB322_265.out; have hms196_3 := NB322_271.out; have hms196_4 := NB322_277.out; have hms196_5 := NB322_284.out
             refine skip_ (w1 := ?_) (by rfl) rfl ?_ ?_
             rotate_left
             ·go_simp
              rfl
             refine hK.out _ _ ⟨((cell_far (p := ⟨gb322, _, none⟩) NB245_322.out _).trans (((cell_far (p := ⟨gb322, _, none⟩) NB245_322.out _).trans (((cell_far (p := ⟨gb322, _, none⟩) NB245_322.out _).trans (hHeld.1)))))), ((cell_far (p := ⟨gb322, _, none⟩) NB245_322.out _).trans (((cell_far (p := ⟨gb322, _, none⟩) NB245_322.out _).trans (((cell_far (p := ⟨gb322, _, none⟩) NB245_322.out _).trans (hHeld.2.1)))))), ((cell_far (p := ⟨gb322, _, none⟩) NB245_322.out _).trans (((cell_far (p := ⟨gb322, _, none⟩) NB245_322.out _).trans (((cell_far (p := ⟨gb322, _, none⟩) NB245_322.out _).trans (hHeld.2.2.1)))))), ((cell_far (p := ⟨gb322, _, none⟩) NB246_322.out _).trans (((cell_far (p := ⟨gb322, _, none⟩) NB246_322.out _).trans (((cell_far (p := ⟨gb322, _, none⟩) NB246_322.out _).trans (hHeld.2.2.2.1)))))), ((cell_far (p := ⟨gb322, _, none⟩) NB246_322.out _).trans (((cell_far (p := ⟨gb322, _, none⟩) NB246_322.out _).trans (((cell_far (p := ⟨gb322, _, none⟩) NB246_322.out _).trans (hHeld.2.2.2.2.1)))))), ((cell_far (p := ⟨gb322, _, none⟩) NB246_322.out _).trans (((cell_far (p := ⟨gb322, _, none⟩) NB246_322.out _).trans (((cell_far (p := ⟨gb322, _, none⟩) NB246_322.out _).trans (hHeld.2.2.2.2.2))))))⟩ (fun hHeld => ?_)
             clear hK K
             refine pure_ (i := 10) (N := some 16) (v := ?_) (a' := ?_) #[true, true, true, true, true, true, true, true, true, true, true] rfl rfl (any_of HT_.out (by kernel_rfl)) (fun _ _ _ h => h) (Or.inl ⟨by rfl, ?_⟩) ?_ ?_
             rotate_left
             ·intro w'
              go_simp
              with_reducible rfl
             rotate_left
             ·exact nm_
             refine done_ (done_of HT_.out (by kernel_rfl)) ?_
             go_upto_region 32 with (fail)
             go_cut [110] (fun v110 wc => ∃ (kq : Nat) (x110_174 : Bool), v110 = .bool x110_174 ∧ Aside0 (laws_FnExactMultiplyDyadics.j2 kq t303 x110_174 t278 t304 t282 = some r) ∧ Aside0 (kq ≤ kj108) ∧ Aside0 (Kd.R (Kd.int .i64) 2 wc w.heap.size (fun k_ => some k_ ≠ ((.slice Ao53 t299.length co53) : Value).ownBlock ∧ some k_ ≠ ((.slice Ao63 t301.length co63) : Value).ownBlock ∧ some k_ ≠ ((.slice Ao73 t279.length co73) : Value).ownBlock ∧ some k_ ≠ ((.slice Ao194 t317.length co194) : Value).ownBlock) (.slice Ao42 t260.length co42) t260) ∧ Aside0 (Kd.R (Kd.int .i64) 2 wc w.heap.size (fun k_ => some k_ ≠ ((.slice Ao42 t260.length co42) : Value).ownBlock ∧ some k_ ≠ ((.slice Ao63 t301.length co63) : Value).ownBlock ∧ some k_ ≠ ((.slice Ao73 t279.length co73) : Value).ownBlock ∧ some k_ ≠ ((.slice Ao194 t317.length co194) : Value).ownBlock) (.slice Ao53 t299.length co53) t299) ∧ Aside0 (Kd.R (Kd.int .i64) 2 wc w.heap.size (fun k_ => some k_ ≠ ((.slice Ao42 t260.length co42) : Value).ownBlock ∧ some k_ ≠ ((.slice Ao53 t299.length co53) : Value).ownBlock ∧ some k_ ≠ ((.slice Ao73 t279.length co73) : Value).ownBlock ∧ some k_ ≠ ((.slice Ao194 t317.length co194) : Value).ownBlock) (.slice Ao63 t301.length co63) t301) ∧ Aside0 (Kd.R (Kd.int .i64) 2 wc w.heap.size (fun k_ => some k_ ≠ ((.slice Ao42 t260.length co42) : Value).ownBlock ∧ some k_ ≠ ((.slice Ao53 t299.length co53) : Value).ownBlock ∧ some k_ ≠ ((.slice Ao63 t301.length co63) : Value).ownBlock ∧ some k_ ≠ ((.slice Ao194 t317.length co194) : Value).ownBlock) (.slice Ao73 t279.length co73) t304) ∧ Aside0 (Kd.R (Kd.int .i64) 2 wc w.heap.size (fun k_ => some k_ ≠ ((.slice Ao42 t260.length co42) : Value).ownBlock ∧ some k_ ≠ ((.slice Ao53 t299.length co53) : Value).ownBlock ∧ some k_ ≠ ((.slice Ao63 t301.length co63) : Value).ownBlock ∧ some k_ ≠ ((.slice Ao73 t279.length co73) : Value).ownBlock) (.slice Ao194 t317.length co194) t317) ∧ Aside0 (wc.heap[gb245]? = some (.cells #[.int .i64 a0_0, (.slice A0_1 l0_1.length c0_1), .int .i64 a0_2] 26 (0, 0))) ∧ Aside0 (wc.heap[gb246]? = some (.cells #[.int .i64 a1_0, (.slice A1_1 l1_1.length c1_1), .int .i64 a1_2] 26 (0, 0))) ∧ Aside0 (wc.heap[gb265]? = some (.cells #[.int .i64 t259, (.slice Ao42 t260.length co42), .int .i64 t263] 30 (0, 0))) ∧ Aside0 (wc.heap[gb271]? = some (.cells #[.int .i64 t266, (.slice Ao53 t299.length co53), .int .i64 t270] 30 (0, 0))) ∧ Aside0 (wc.heap[gb277]? = some (.cells #[.int .i64 t272, (.slice Ao63 t301.length co63), .int .i64 t276] 30 (0, 0))) ∧ Aside0 (wc.heap[gb284]? = some (.cells #[.int .i64 t278, (.slice Ao73 t279.length co73), .int .i64 t282] 30 (0, 0))) ∧ Aside0 (wc.heap[gb322]? = some (.cells #[.int .i64 t316, (.slice Ao194 t317.length co194), .int .i64 t320] 30 (0, 0))) ∧ Aside0 (Below w.heap.size w wc))
             case first =>
              have H := HC175.out; clear HC175
              replace H := Option.bind_eq_some_iff.mp H
              obtain ⟨t323, A1970, H⟩ := H
              replace H : (if t323 = true then (laws_FnExactMultiplyDyadics.j2 kj108 t303 (t321 != t264) t278 t304 t282) else (laws_FnExactMultiplyDyadics.j2 kj108 t303 true t278 t304 t282)) = some r := H
              have A197 := Aside0.mk A1970; clear A1970
              by_cases c198 : t323 = true
              ·subst c198
               have H1 : (laws_FnExactMultiplyDyadics.j2 kj108 t303 (t321 != t264) t278 t304 t282) = some r := by rw [if_pos rfl] at H; exact H
               clear H; have H := H1; clear H1
               have H' := Aside0.mk H
               clear H; have hnb199 := NB322_245.out; have hnc199 := NB245_322.out; have hnb200 := NB322_246.out; have hnc200 := NB246_322.out; have hnb201 := NB322_265.out; have hnc201 := NB265_322.out; have hnb202 := NB322_271.out; have hnc202 := NB271_322.out; have hnb203 := NB322_277.out; have hnc203 := NB277_322.out; have hnb204 := NB322_284.out; have hnc204 := NB284_322.out
               have hcz205_0 : w192.cell? ⟨gb322, 0, none⟩ = some (.int .i64 0) := bc_ BK322 0
               have hcz205_1 : w192.cell? ⟨gb322, 1, none⟩ = some (.slice none 0 0) := bc_ BK322 1
               have hcz205_2 : w192.cell? ⟨gb322, 2, none⟩ = some (.int .i64 0) := bc_ BK322 2
               have hfz205_0 := blk_frozen BK322.out 0; have hfz205_1 := blk_frozen BK322.out 1; have hfz205_2 := blk_frozen BK322.out 2; have hnb206 := NB265_245.out; have hnc206 := NB245_265.out; have hnb207 := NB265_246.out; have hnc207 := NB246_265.out; have hnb208 := NB265_271.out; have hnc208 := NB271_265.out; have hnb209 := NB265_277.out; have hnc209 := NB277_265.out; have hnb210 := NB265_284.out; have hnc210 := NB284_265.out
               have hcz211_0 : w192.cell? ⟨gb265, 0, none⟩ = some (.int .i64 t259) := bc_ BK265 0
               have hcz211_1 : w192.cell? ⟨gb265, 1, none⟩ = some (.slice Ao42 t260.length co42) := bc_ BK265 1
               have hcz211_2 : w192.cell? ⟨gb265, 2, none⟩ = some (.int .i64 t263) := bc_ BK265 2
               have hfz211_0 := blk_frozen BK265.out 0; have hfz211_1 := blk_frozen BK265.out 1; have hfz211_2 := blk_frozen BK265.out 2
               go_wp2_with (first | ((with_reducible refine gate_callee (f := 15) rfl ?_); refine goesL_ (some 104) rfl rfl Tryd.func15 (by kernel_rfl) rfl #[.agg #[.int .i64 t316, .slice Ao194 t317.length co194, .int .i64 t320], .agg #[.int .i64 t259, .slice Ao42 t260.length co42, .int .i64 t263]] rfl ma_ ?_; (with_reducible refine (laws_eqDyadic.calls kj108 t316 _ _ t317 t320 t259 _ _ t260 t263 true _ ?side1 ?side2 ?side3 ?side4 A197.out).mono ?_); (case side1 => refine (Kd.R_reads' (e := 2) (base := w.heap.size) (ok := fun k_ => (some k_ ≠ (v308 : Value).ownBlock ∧ (some k_ ≠ (v313 : Value).ownBlock ∧ (some k_ ≠ (.slice Ao42 t260.length co42 : Value).ownBlock ∧ (some k_ ≠ (.slice Ao53 t299.length co53 : Value).ownBlock ∧ (some k_ ≠ (.slice Ao63 t301.length co63 : Value).ownBlock ∧ some k_ ≠ (.slice Ao73 t279.length co73 : Value).ownBlock)))))) (n := t317.length) (c := co194) ?_).2.2; exact (rk_ HO319 BK322)); (case side2 => exact (Kd.R_reads' HO319.out).2.1); (case side3 => refine (Kd.R_reads' (e := 2) (base := w.heap.size) (ok := fun k_ => (some k_ ≠ (v308 : Value).ownBlock ∧ (some k_ ≠ (v313 : Value).ownBlock ∧ (some k_ ≠ (.slice Ao194 t317.length co194 : Value).ownBlock ∧ (some k_ ≠ (.slice Ao53 t299.length co53 : Value).ownBlock ∧ (some k_ ≠ (.slice Ao63 t301.length co63 : Value).ownBlock ∧ some k_ ≠ (.slice Ao73 t279.length co73 : Value).ownBlock)))))) (n := t260.length) (c := co42) ?_).2.2; exact (rk_ HO_266001 BK322)); (case side4 => exact (Kd.R_reads' HO_266001.out).2.1); rintro e w212 ⟨rfl, hb⟩; refine ⟨_, rfl, ?_⟩; replace HO_266001 := am_ (Kd.R_below (rk_ HO_266001 BK322) hb); replace HO_272001 := am_ (Kd.R_below (rk_ HO_272001 BK322) hb); replace HO_278001 := am_ (Kd.R_below (rk_ HO_278001 BK322) hb); replace HO_285001 := am_ (Kd.R_below (rk_ HO_285001 BK322) hb); replace HO309 := am_ (Kd.R_below (rk_ HO309 BK322) hb); replace HO314 := am_ (Kd.R_below (rk_ HO314 BK322) hb); replace HO319 := am_ (Kd.R_below (rk_ HO319 BK322) hb); replace BK245 := am_ (blk_below (bk_ BK245) hb); replace BK246 := am_ (blk_below (bk_ BK246) hb); replace BK265 := am_ (blk_below (bk_ BK265) hb); replace BK271 := am_ (blk_below (bk_ BK271) hb); replace BK277 := am_ (blk_below (bk_ BK277) hb); replace BK284 := am_ (blk_below (bk_ BK284) hb); replace BK322 := am_ (blk_below (bp3_ BK322) hb); replace HB := am_ (below_step (bl_ HB) hb); (try clear hb); (try clear hb2); (try clear hk); (try clear hi)))
               go_meet
               case rel => exact ⟨_, ((t321 != t264)), (by first | rfl | (simp; done) | (simp [*]; done)), H', ⟨by have := HJ24.out; have := HJ108.out; first | omega | exact Nat.le_refl _⟩, ⟨by (try simp only [hl272001_108]); (try simp only [hl278001_108]); (with_reducible repeat (first | apply Kd.R_alloc | apply Kd.R_drewN | apply Kd.R_drew)); exact Kd.R_mono HO_266001.out (fun _ hk => ⟨hk.2.2.2.1, ⟨hk.2.2.2.2.1, ⟨hk.2.2.2.2.2, hk.2.2.1⟩⟩⟩)⟩, ⟨by (try simp only [hl272001_108]); (try simp only [hl278001_108]); (with_reducible repeat (first | apply Kd.R_alloc | apply Kd.R_drewN | apply Kd.R_drew)); exact Kd.R_mono HO_272001.out (fun _ hk => ⟨hk.2.2.2.1, ⟨hk.2.2.2.2.1, ⟨hk.2.2.2.2.2, hk.2.2.1⟩⟩⟩)⟩, ⟨by (try simp only [hl272001_108]); (try simp only [hl278001_108]); (with_reducible repeat (first | apply Kd.R_alloc | apply Kd.R_drewN | apply Kd.R_drew)); exact Kd.R_mono HO_278001.out (fun _ hk => ⟨hk.2.2.2.1, ⟨hk.2.2.2.2.1, ⟨hk.2.2.2.2.2, hk.2.2.1⟩⟩⟩)⟩, ⟨by (try simp only [hl272001_108]); (try simp only [hl278001_108]); (with_reducible repeat (first | apply Kd.R_alloc | apply Kd.R_drewN | apply Kd.R_drew)); exact Kd.R_mono HO_285001.out (fun _ hk => ⟨hk.2.2.2.1, ⟨hk.2.2.2.2.1, ⟨hk.2.2.2.2.2, hk.2.2.1⟩⟩⟩)⟩, ⟨by (try simp only [hl272001_108]); (try simp only [hl278001_108]); (with_reducible repeat (first | apply Kd.R_alloc | apply Kd.R_drewN | apply Kd.R_drew)); exact Kd.R_mono HO319.out (fun _ hk => ⟨hk.2.2.1, ⟨hk.2.2.2.1, ⟨hk.2.2.2.2.1, hk.2.2.2.2.2⟩⟩⟩)⟩, ⟨by (try simp only [hl272001_108]); (try simp only [hl278001_108]); (with_reducible repeat (first | refine blk_drewN ?_ _ | refine blk_drew ?_ | refine blk_alloc ?_ _)); exact BK245.out⟩, ⟨by (try simp only [hl272001_108]); (try simp only [hl278001_108]); (with_reducible repeat (first | refine blk_drewN ?_ _ | refine blk_drew ?_ | refine blk_alloc ?_ _)); exact BK246.out⟩, ⟨by (try simp only [hl272001_108]); (try simp only [hl278001_108]); (with_reducible repeat (first | refine blk_drewN ?_ _ | refine blk_drew ?_ | refine blk_alloc ?_ _)); exact BK265.out⟩, ⟨by (try simp only [hl272001_108]); (try simp only [hl278001_108]); (with_reducible repeat (first | refine blk_drewN ?_ _ | refine blk_drew ?_ | refine blk_alloc ?_ _)); exact BK271.out⟩, ⟨by (try simp only [hl272001_108]); (try simp only [hl278001_108]); (with_reducible repeat (first | refine blk_drewN ?_ _ | refine blk_drew ?_ | refine blk_alloc ?_ _)); exact BK277.out⟩, ⟨by (try simp only [hl272001_108]); (try simp only [hl278001_108]); (with_reducible repeat (first | refine blk_drewN ?_ _ | refine blk_drew ?_ | refine blk_alloc ?_ _)); exact BK284.out⟩, ⟨by (try simp only [hl272001_108]); (try simp only [hl278001_108]); (with_reducible repeat (first | refine blk_drewN ?_ _ | refine blk_drew ?_ | refine blk_alloc ?_ _)); exact BK322.out⟩, ⟨bl_ HB⟩⟩
              ·replace c198 := Bool.eq_false_iff.mpr c198
               subst c198
               have H1 : (laws_FnExactMultiplyDyadics.j2 kj108 t303 true t278 t304 t282) = some r := by rw [if_neg (show ¬ (false = true) by decide)] at H; exact H
               clear H; have H := H1; clear H1
               have H' := Aside0.mk H
               clear H; have hnb213 := NB322_245.out; have hnc213 := NB245_322.out; have hnb214 := NB322_246.out; have hnc214 := NB246_322.out; have hnb215 := NB322_265.out; have hnc215 := NB265_322.out; have hnb216 := NB322_271.out; have hnc216 := NB271_322.out; have hnb217 := NB322_277.out; have hnc217 := NB277_322.out; have hnb218 := NB322_284.out; have hnc218 := NB284_322.out
               have hcz219_0 : w192.cell? ⟨gb322, 0, none⟩ = some (.int .i64 0) := bc_ BK322 0
               have hcz219_1 : w192.cell? ⟨gb322, 1, none⟩ = some (.slice none 0 0) := bc_ BK322 1
               have hcz219_2 : w192.cell? ⟨gb322, 2, none⟩ = some (.int .i64 0) := bc_ BK322 2
               have hfz219_0 := blk_frozen BK322.out 0; have hfz219_1 := blk_frozen BK322.out 1; have hfz219_2 := blk_frozen BK322.out 2; have hnb220 := NB265_245.out; have hnc220 := NB245_265.out; have hnb221 := NB265_246.out; have hnc221 := NB246_265.out; have hnb222 := NB265_271.out; have hnc222 := NB271_265.out; have hnb223 := NB265_277.out; have hnc223 := NB277_265.out; have hnb224 := NB265_284.out; have hnc224 := NB284_265.out
               have hcz225_0 : w192.cell? ⟨gb265, 0, none⟩ = some (.int .i64 t259) := bc_ BK265 0
               have hcz225_1 : w192.cell? ⟨gb265, 1, none⟩ = some (.slice Ao42 t260.length co42) := bc_ BK265 1
               have hcz225_2 : w192.cell? ⟨gb265, 2, none⟩ = some (.int .i64 t263) := bc_ BK265 2
               have hfz225_0 := blk_frozen BK265.out 0; have hfz225_1 := blk_frozen BK265.out 1; have hfz225_2 := blk_frozen BK265.out 2
               go_wp2_with (first | ((with_reducible refine gate_callee (f := 15) rfl ?_); refine goesL_ (some 104) rfl rfl Tryd.func15 (by kernel_rfl) rfl #[.agg #[.int .i64 t316, .slice Ao194 t317.length co194, .int .i64 t320], .agg #[.int .i64 t259, .slice Ao42 t260.length co42, .int .i64 t263]] rfl ma_ ?_; (with_reducible refine (laws_eqDyadic.calls kj108 t316 _ _ t317 t320 t259 _ _ t260 t263 false _ ?side1 ?side2 ?side3 ?side4 A197.out).mono ?_); (case side1 => refine (Kd.R_reads' (e := 2) (base := w.heap.size) (ok := fun k_ => (some k_ ≠ (v308 : Value).ownBlock ∧ (some k_ ≠ (v313 : Value).ownBlock ∧ (some k_ ≠ (.slice Ao42 t260.length co42 : Value).ownBlock ∧ (some k_ ≠ (.slice Ao53 t299.length co53 : Value).ownBlock ∧ (some k_ ≠ (.slice Ao63 t301.length co63 : Value).ownBlock ∧ some k_ ≠ (.slice Ao73 t279.length co73 : Value).ownBlock)))))) (n := t317.length) (c := co194) ?_).2.2; exact (rk_ HO319 BK322)); (case side2 => exact (Kd.R_reads' HO319.out).2.1); (case side3 => refine (Kd.R_reads' (e := 2) (base := w.heap.size) (ok := fun k_ => (some k_ ≠ (v308 : Value).ownBlock ∧ (some k_ ≠ (v313 : Value).ownBlock ∧ (some k_ ≠ (.slice Ao194 t317.length co194 : Value).ownBlock ∧ (some k_ ≠ (.slice Ao53 t299.length co53 : Value).ownBlock ∧ (some k_ ≠ (.slice Ao63 t301.length co63 : Value).ownBlock ∧ some k_ ≠ (.slice Ao73 t279.length co73 : Value).ownBlock)))))) (n := t260.length) (c := co42) ?_).2.2; exact (rk_ HO_266001 BK322)); (case side4 => exact (Kd.R_reads' HO_266001.out).2.1); rintro e w226 ⟨rfl, hb⟩; refine ⟨_, rfl, ?_⟩; replace HO_266001 := am_ (Kd.R_below (rk_ HO_266001 BK322) hb); replace HO_272001 := am_ (Kd.R_below (rk_ HO_272001 BK322) hb); replace HO_278001 := am_ (Kd.R_below (rk_ HO_278001 BK322) hb); replace HO_285001 := am_ (Kd.R_below (rk_ HO_285001 BK322) hb); replace HO309 := am_ (Kd.R_below (rk_ HO309 BK322) hb); replace HO314 := am_ (Kd.R_below (rk_ HO314 BK322) hb); replace HO319 := am_ (Kd.R_below (rk_ HO319 BK322) hb); replace BK245 := am_ (blk_below (bk_ BK245) hb); replace BK246 := am_ (blk_below (bk_ BK246) hb); replace BK265 := am_ (blk_below (bk_ BK265) hb); replace BK271 := am_ (blk_below (bk_ BK271) hb); replace BK277 := am_ (blk_below (bk_ BK277) hb); replace BK284 := am_ (blk_below (bk_ BK284) hb); replace BK322 := am_ (blk_below (bp3_ BK322) hb); replace HB := am_ (below_step (bl_ HB) hb); (try clear hb); (try clear hb2); (try clear hk); (try clear hi)))
               go_meet
               case rel => exact ⟨_, (true), (by first | rfl | (simp; done) | (simp [*]; done)), H', ⟨by have := HJ24.out; have := HJ108.out; first | omega | exact Nat.le_refl _⟩, ⟨by (try simp only [hl272001_108]); (try simp only [hl278001_108]); (with_reducible repeat (first | apply Kd.R_alloc | apply Kd.R_drewN | apply Kd.R_drew)); exact Kd.R_mono HO_266001.out (fun _ hk => ⟨hk.2.2.2.1, ⟨hk.2.2.2.2.1, ⟨hk.2.2.2.2.2, hk.2.2.1⟩⟩⟩)⟩, ⟨by (try simp only [hl272001_108]); (try simp only [hl278001_108]); (with_reducible repeat (first | apply Kd.R_alloc | apply Kd.R_drewN | apply Kd.R_drew)); exact Kd.R_mono HO_272001.out (fun _ hk => ⟨hk.2.2.2.1, ⟨hk.2.2.2.2.1, ⟨hk.2.2.2.2.2, hk.2.2.1⟩⟩⟩)⟩, ⟨by (try simp only [hl272001_108]); (try simp only [hl278001_108]); (with_reducible repeat (first | apply Kd.R_alloc | apply Kd.R_drewN | apply Kd.R_drew)); exact Kd.R_mono HO_278001.out (fun _ hk => ⟨hk.2.2.2.1, ⟨hk.2.2.2.2.1, ⟨hk.2.2.2.2.2, hk.2.2.1⟩⟩⟩)⟩, ⟨by (try simp only [hl272001_108]); (try simp only [hl278001_108]); (with_reducible repeat (first | apply Kd.R_alloc | apply Kd.R_drewN | apply Kd.R_drew)); exact Kd.R_mono HO_285001.out (fun _ hk => ⟨hk.2.2.2.1, ⟨hk.2.2.2.2.1, ⟨hk.2.2.2.2.2, hk.2.2.1⟩⟩⟩)⟩, ⟨by (try simp only [hl272001_108]); (try simp only [hl278001_108]); (with_reducible repeat (first | apply Kd.R_alloc | apply Kd.R_drewN | apply Kd.R_drew)); exact Kd.R_mono HO319.out (fun _ hk => ⟨hk.2.2.1, ⟨hk.2.2.2.1, ⟨hk.2.2.2.2.1, hk.2.2.2.2.2⟩⟩⟩)⟩, ⟨by (try simp only [hl272001_108]); (try simp only [hl278001_108]); (with_reducible repeat (first | refine blk_drewN ?_ _ | refine blk_drew ?_ | refine blk_alloc ?_ _)); exact BK245.out⟩, ⟨by (try simp only [hl272001_108]); (try simp only [hl278001_108]); (with_reducible repeat (first | refine blk_drewN ?_ _ | refine blk_drew ?_ | refine blk_alloc ?_ _)); exact BK246.out⟩, ⟨by (try simp only [hl272001_108]); (try simp only [hl278001_108]); (with_reducible repeat (first | refine blk_drewN ?_ _ | refine blk_drew ?_ | refine blk_alloc ?_ _)); exact BK265.out⟩, ⟨by (try simp only [hl272001_108]); (try simp only [hl278001_108]); (with_reducible repeat (first | refine blk_drewN ?_ _ | refine blk_drew ?_ | refine blk_alloc ?_ _)); exact BK271.out⟩, ⟨by (try simp only [hl272001_108]); (try simp only [hl278001_108]); (with_reducible repeat (first | refine blk_drewN ?_ _ | refine blk_drew ?_ | refine blk_alloc ?_ _)); exact BK277.out⟩, ⟨by (try simp only [hl272001_108]); (try simp only [hl278001_108]); (with_reducible repeat (first | refine blk_drewN ?_ _ | refine blk_drew ?_ | refine blk_alloc ?_ _)); exact BK284.out⟩, ⟨by (try simp only [hl272001_108]); (try simp only [hl278001_108]); (with_reducible repeat (first | refine blk_drewN ?_ _ | refine blk_drew ?_ | refine blk_alloc ?_ _)); exact BK322.out⟩, ⟨bl_ HB⟩⟩
             case rest =>
              clear HC175; try clear c1; try clear c2; try clear p2; try clear c3; try clear c13; try clear c15; try clear c19; try clear c20; try clear c21; try clear c22; try clear c31; try clear c198; try clear c199; try clear c200; try clear c201; try clear c202; try clear c203; try clear c204; try clear c206; try clear c207; try clear c208; try clear c209; try clear c210; try clear c213; try clear c214; try clear c215; try clear c216; try clear c217; try clear c218; try clear c220; try clear c221; try clear c222; try clear c223; try clear c224; try clear hcz205_0; try clear hcz205_1; try clear hcz205_2; try clear hcz211_0; try clear hcz211_1; try clear hcz211_2; try clear hcz219_0; try clear hcz219_1; try clear hcz219_2; try clear hcz225_0; try clear hcz225_1; try clear hcz225_2; try clear hfz205_0; try clear hfz205_1; try clear hfz205_2; try clear hfz211_0; try clear hfz211_1; try clear hfz211_2; try clear hfz219_0; try clear hfz219_1; try clear hfz219_2; try clear hfz225_0; try clear hfz225_1; try clear hfz225_2
              obtain ⟨kq, x110_174, rfl, HA, HJ174, HO_266001, HO_272001, HO_278001, HO_285001, HO_323001, BK245, BK246, BK265, BK271, BK277, BK284, BK322, HB⟩ := hcut
              have hl285001_174 := (Kd.R_reads' HO_285001.out).1
              rw [hl285001_174] at HO_285001
              (try simp only [hl285001_174])
              (try simp only [hl285001_174] at BK245)
              (try simp only [hl285001_174] at BK246)
              (try simp only [hl285001_174] at BK265)
              (try simp only [hl285001_174] at BK271)
              (try simp only [hl285001_174] at BK277)
              (try simp only [hl285001_174] at BK284)
              (try simp only [hl285001_174] at BK322)
              (try simp only [hl285001_174] at HO_266001)
              (try simp only [hl285001_174] at HO_272001)
              (try simp only [hl285001_174] at HO_278001)
              (try simp only [hl285001_174] at HO_323001)
              cases kq with
              | zero => exact absurd HA.out (by simp [laws_FnExactMultiplyDyadics.j2])
              | succ kj174 =>
               have H := HA.out; clear HA
               simp only [laws_FnExactMultiplyDyadics.j2] at H
               by_cases c227 : x110_174 = true
               ·subst c227
                have H1 : (some false) = some r := by rw [if_pos rfl] at H; exact H
                clear H; have H := H1; clear H1; obtain rfl := Option.some.inj H
                go_wp2
                go_ret
                exact ⟨by first | rfl | (simp [errW_none, errW_some] <;> rfl) | (simp [*, errW_none, errW_some] <;> rfl), bl_ HB⟩
               ·replace c227 := Bool.eq_false_iff.mpr c227
                subst c227
                have H1 : ((laws_heldDyadic.f kj174 t278 t304 t282 1).bind fun t324 => (if t324 < 0 then (some false) else (if t324 = t303 then (some true) else (some false)))) = some r := by rw [if_neg (show ¬ (false = true) by decide)] at H; exact H
                clear H; have H := H1; clear H1
                replace H := Option.bind_eq_some_iff.mp H
                obtain ⟨t324, A2280, H⟩ := H
                replace H : (if t324 < 0 then (some false) else (if t324 = t303 then (some true) else (some false))) = some r := H
                have A228 := Aside0.mk A2280; clear A2280
                by_cases c229 : t324 < 0
                ·rw [if_pos c229] at H
                 have c229b0 : decide (t324 < 0) = true := decide_eq_true c229
                 clear c229; obtain rfl := Option.some.inj H; have hnb230 := NB284_245.out; have hnc230 := NB245_284.out; have hnb231 := NB284_246.out; have hnc231 := NB246_284.out; have hnb232 := NB284_265.out; have hnc232 := NB265_284.out; have hnb233 := NB284_271.out; have hnc233 := NB271_284.out; have hnb234 := NB284_277.out; have hnc234 := NB277_284.out; have hnb235 := NB284_322.out; have hnc235 := NB322_284.out
                 have hcz236_0 : wc.cell? ⟨gb284, 0, none⟩ = some (.int .i64 t278) := bc_ BK284 0
                 have hcz236_1 : wc.cell? ⟨gb284, 1, none⟩ = some (.slice Ao73 t304.length co73) := bc_ BK284 1
                 have hcz236_2 : wc.cell? ⟨gb284, 2, none⟩ = some (.int .i64 t282) := bc_ BK284 2
                 have hfz236_0 := blk_frozen BK284.out 0; have hfz236_1 := blk_frozen BK284.out 1; have hfz236_2 := blk_frozen BK284.out 2
                 go_wp2_with (first | ((with_reducible refine gate_callee (f := 17) rfl ?_); refine goesL_ (some 113) rfl rfl Tryd.func17 (by kernel_rfl) rfl #[.agg #[.int .i64 t278, .slice Ao73 t304.length co73, .int .i64 t282], .int .i64 1] rfl ma_ ?_; (with_reducible refine (laws_heldDyadic.calls kj174 t278 _ _ t304 t282 1 t324 _ ?side1 ?side2 A228.out).mono ?_); (case side1 => exact cr_ HO_285001); (case side2 => exact (Kd.R_reads' HO_285001.out).2.1); rintro e w237 ⟨rfl, hb⟩; refine ⟨_, rfl, ?_⟩; replace HO_266001 := am_ (Kd.R_below (kr_ HO_266001) hb); replace HO_272001 := am_ (Kd.R_below (kr_ HO_272001) hb); replace HO_278001 := am_ (Kd.R_below (kr_ HO_278001) hb); replace HO_285001 := am_ (Kd.R_below (kr_ HO_285001) hb); replace HO_323001 := am_ (Kd.R_below (kr_ HO_323001) hb); replace BK245 := am_ (blk_below (bk_ BK245) hb); replace BK246 := am_ (blk_below (bk_ BK246) hb); replace BK265 := am_ (blk_below (bk_ BK265) hb); replace BK271 := am_ (blk_below (bk_ BK271) hb); replace BK277 := am_ (blk_below (bk_ BK277) hb); replace BK284 := am_ (blk_below (bk_ BK284) hb); replace BK322 := am_ (blk_below (bk_ BK322) hb); replace HB := am_ (below_step (bl_ HB) hb); (try clear hb); (try clear hb2); (try clear hk); (try clear hi)))
                 go_ret
                 exact ⟨by first | rfl | (simp [errW_none, errW_some] <;> rfl) | (simp [*, errW_none, errW_some] <;> rfl), bl_ HB⟩
                ·rw [if_neg c229] at H
                 have c229b0 : decide (t324 < 0) = false := decide_eq_false c229
                 clear c229
                 by_cases c238 : t324 = t303
                 ·rw [if_pos c238] at H
                  have c238b0 : (t324 == t303) = true := beq_iff_eq.mpr c238
                  have c238b1 : (t324 != t303) = false := bne_eq_false_iff_eq.mpr c238
                  clear c238; obtain rfl := Option.some.inj H; have hnb239 := NB284_245.out; have hnc239 := NB245_284.out; have hnb240 := NB284_246.out; have hnc240 := NB246_284.out; have hnb241 := NB284_265.out; have hnc241 := NB265_284.out; have hnb242 := NB284_271.out; have hnc242 := NB271_284.out; have hnb243 := NB284_277.out; have hnc243 := NB277_284.out; have hnb244 := NB284_322.out; have hnc244 := NB322_284.out
                  have hcz245_0 : wc.cell? ⟨gb284, 0, none⟩ = some (.int .i64 t278) := bc_ BK284 0
                  have hcz245_1 : wc.cell? ⟨gb284, 1, none⟩ = some (.slice Ao73 t304.length co73) := bc_ BK284 1
                  have hcz245_2 : wc.cell? ⟨gb284, 2, none⟩ = some (.int .i64 t282) := bc_ BK284 2
                  have hfz245_0 := blk_frozen BK284.out 0; have hfz245_1 := blk_frozen BK284.out 1; have hfz245_2 := blk_frozen BK284.out 2
                  go_wp2_with (first | ((with_reducible refine gate_callee (f := 17) rfl ?_); refine goesL_ (some 113) rfl rfl Tryd.func17 (by kernel_rfl) rfl #[.agg #[.int .i64 t278, .slice Ao73 t304.length co73, .int .i64 t282], .int .i64 1] rfl ma_ ?_; (with_reducible refine (laws_heldDyadic.calls kj174 t278 _ _ t304 t282 1 t324 _ ?side1 ?side2 A228.out).mono ?_); (case side1 => exact cr_ HO_285001); (case side2 => exact (Kd.R_reads' HO_285001.out).2.1); rintro e w246 ⟨rfl, hb⟩; refine ⟨_, rfl, ?_⟩; replace HO_266001 := am_ (Kd.R_below (kr_ HO_266001) hb); replace HO_272001 := am_ (Kd.R_below (kr_ HO_272001) hb); replace HO_278001 := am_ (Kd.R_below (kr_ HO_278001) hb); replace HO_285001 := am_ (Kd.R_below (kr_ HO_285001) hb); replace HO_323001 := am_ (Kd.R_below (kr_ HO_323001) hb); replace BK245 := am_ (blk_below (bk_ BK245) hb); replace BK246 := am_ (blk_below (bk_ BK246) hb); replace BK265 := am_ (blk_below (bk_ BK265) hb); replace BK271 := am_ (blk_below (bk_ BK271) hb); replace BK277 := am_ (blk_below (bk_ BK277) hb); replace BK284 := am_ (blk_below (bk_ BK284) hb); replace BK322 := am_ (blk_below (bk_ BK322) hb); replace HB := am_ (below_step (bl_ HB) hb); (try clear hb); (try clear hb2); (try clear hk); (try clear hi)))
                  go_ret
                  exact ⟨by first | rfl | (simp [errW_none, errW_some] <;> rfl) | (simp [*, errW_none, errW_some] <;> rfl), bl_ HB⟩
                 ·rw [if_neg c238] at H
                  have c238b0 : (t324 == t303) = false := beq_eq_false_iff_ne.mpr c238
                  have c238b1 : (t324 != t303) = true := bne_iff_ne.mpr c238
                  obtain rfl := Option.some.inj H; have hnb247 := NB284_245.out; have hnc247 := NB245_284.out; have hnb248 := NB284_246.out; have hnc248 := NB246_284.out; have hnb249 := NB284_265.out; have hnc249 := NB265_284.out; have hnb250 := NB284_271.out; have hnc250 := NB271_284.out; have hnb251 := NB284_277.out; have hnc251 := NB277_284.out; have hnb252 := NB284_322.out; have hnc252 := NB322_284.out
                  have hcz253_0 : wc.cell? ⟨gb284, 0, none⟩ = some (.int .i64 t278) := bc_ BK284 0
                  have hcz253_1 : wc.cell? ⟨gb284, 1, none⟩ = some (.slice Ao73 t304.length co73) := bc_ BK284 1
                  have hcz253_2 : wc.cell? ⟨gb284, 2, none⟩ = some (.int .i64 t282) := bc_ BK284 2
                  have hfz253_0 := blk_frozen BK284.out 0; have hfz253_1 := blk_frozen BK284.out 1; have hfz253_2 := blk_frozen BK284.out 2
                  go_wp2_with (first | ((with_reducible refine gate_callee (f := 17) rfl ?_); refine goesL_ (some 113) rfl rfl Tryd.func17 (by kernel_rfl) rfl #[.agg #[.int .i64 t278, .slice Ao73 t304.length co73, .int .i64 t282], .int .i64 1] rfl ma_ ?_; (with_reducible refine (laws_heldDyadic.calls kj174 t278 _ _ t304 t282 1 t324 _ ?side1 ?side2 A228.out).mono ?_); (case side1 => exact cr_ HO_285001); (case side2 => exact (Kd.R_reads' HO_285001.out).2.1); rintro e w254 ⟨rfl, hb⟩; refine ⟨_, rfl, ?_⟩; replace HO_266001 := am_ (Kd.R_below (kr_ HO_266001) hb); replace HO_272001 := am_ (Kd.R_below (kr_ HO_272001) hb); replace HO_278001 := am_ (Kd.R_below (kr_ HO_278001) hb); replace HO_285001 := am_ (Kd.R_below (kr_ HO_285001) hb); replace HO_323001 := am_ (Kd.R_below (kr_ HO_323001) hb); replace BK245 := am_ (blk_below (bk_ BK245) hb); replace BK246 := am_ (blk_below (bk_ BK246) hb); replace BK265 := am_ (blk_below (bk_ BK265) hb); replace BK271 := am_ (blk_below (bk_ BK271) hb); replace BK277 := am_ (blk_below (bk_ BK277) hb); replace BK284 := am_ (blk_below (bk_ BK284) hb); replace BK322 := am_ (blk_below (bk_ BK322) hb); replace HB := am_ (below_step (bl_ HB) hb); (try clear hb); (try clear hb2); (try clear hk); (try clear hi)))
                  go_ret
                  exact ⟨by first | rfl | (simp [errW_none, errW_some] <;> rfl) | (simp [*, errW_none, errW_some] <;> rfl), bl_ HB⟩
            ·rw [if_neg c171] at H
             have c171b0 : (t305 == t303) = false := beq_eq_false_iff_ne.mpr c171
             have c171b1 : (t305 != t303) = true := bne_iff_ne.mpr c171
             obtain rfl := Option.some.inj H; have hnb255 := NB284_245.out; have hnc255 := NB245_284.out; have hnb256 := NB284_246.out; have hnc256 := NB246_284.out; have hnb257 := NB284_265.out; have hnc257 := NB265_284.out; have hnb258 := NB284_271.out; have hnc258 := NB271_284.out; have hnb259 := NB284_277.out; have hnc259 := NB277_284.out
             have hcz260_0 : wc.cell? ⟨gb284, 0, none⟩ = some (.int .i64 t278) := bc_ BK284 0
             have hcz260_1 : wc.cell? ⟨gb284, 1, none⟩ = some (.slice Ao73 t279.length co73) := bc_ BK284 1
             have hcz260_2 : wc.cell? ⟨gb284, 2, none⟩ = some (.int .i64 t282) := bc_ BK284 2
             have hfz260_0 := blk_frozen BK284.out 0; have hfz260_1 := blk_frozen BK284.out 1; have hfz260_2 := blk_frozen BK284.out 2
             go_wp2_with (first | ((with_reducible refine gate_callee (f := 16) rfl ?_); refine goesL_ (some 85) rfl rfl Tryd.func16 (by kernel_rfl) rfl #[.agg #[.int .i64 t278, .slice Ao73 t279.length co73, .int .i64 t282], .int .i64 1] rfl ma_ ?_; (with_reducible refine (laws_markDyadic.calls kj108 t278 (fun k_ => some k_ = (.slice Ao73 t279.length co73 : Value).ownBlock) (.slice Ao73 t279.length co73) t279 t282 1 t303 t304 w _ ?side1 ?side2 A159.out).mono ?_); (case side1 => exact bl_ HB); (case side2 => exact Kd.R_tight rfl HO_285001.out); rintro e w261 ⟨rfl, hy0, hb, hkp⟩; refine ⟨_, rfl, ?_⟩; have n0_ := am_ (Kd.R_mono (ok' := fun k_ => some k_ ≠ (.slice Ao53 t299.length co53 : Value).ownBlock ∧ some k_ ≠ (.slice Ao63 t301.length co63 : Value).ownBlock ∧ some k_ ≠ (.slice Ao73 t279.length co73 : Value).ownBlock) (Kd.R_keptB (HO_266001.out) hkp (fun k_ hk_ hs_ => (hk_.2.2) hs_)) (fun k_ hk_ => ⟨hk_.1.1, hk_.1.2.1, hk_.1.2.2⟩)); have n1_ := am_ (Kd.R_mono (ok' := fun k_ => some k_ ≠ (.slice Ao42 t260.length co42 : Value).ownBlock ∧ some k_ ≠ (.slice Ao63 t301.length co63 : Value).ownBlock ∧ some k_ ≠ (.slice Ao73 t279.length co73 : Value).ownBlock) (Kd.R_keptB (HO_272001.out) hkp (fun k_ hk_ hs_ => (hk_.2.2) hs_)) (fun k_ hk_ => ⟨hk_.1.1, hk_.1.2.1, hk_.1.2.2⟩)); have n2_ := am_ (Kd.R_mono (ok' := fun k_ => some k_ ≠ (.slice Ao42 t260.length co42 : Value).ownBlock ∧ some k_ ≠ (.slice Ao53 t299.length co53 : Value).ownBlock ∧ some k_ ≠ (.slice Ao73 t279.length co73 : Value).ownBlock) (Kd.R_keptB (HO_278001.out) hkp (fun k_ hk_ hs_ => (hk_.2.2) hs_)) (fun k_ hk_ => ⟨hk_.1.1, hk_.1.2.1, hk_.1.2.2⟩)); have n3_ := am_ (Kd.R_reok rfl hy0 (fun k_ e_ => HO_285001.out.1 k_ e_)); have n4_ := am_ (blk_kept (bk_ BK245) hkp (fun hs_ => (fun e_ => (Kd.R_ne HO_285001.out BK245.out (by decide)) e_) hs_)); have n5_ := am_ (blk_kept (bk_ BK246) hkp (fun hs_ => (fun e_ => (Kd.R_ne HO_285001.out BK246.out (by decide)) e_) hs_)); have n6_ := am_ (blk_kept (bk_ BK265) hkp (fun hs_ => (fun e_ => (Kd.R_ne HO_285001.out BK265.out (by decide)) e_) hs_)); have n7_ := am_ (blk_kept (bk_ BK271) hkp (fun hs_ => (fun e_ => (Kd.R_ne HO_285001.out BK271.out (by decide)) e_) hs_)); have n8_ := am_ (blk_kept (bk_ BK277) hkp (fun hs_ => (fun e_ => (Kd.R_ne HO_285001.out BK277.out (by decide)) e_) hs_)); have n9_ := am_ (blk_kept (bk_ BK284) hkp (fun hs_ => (fun e_ => (Kd.R_ne HO_285001.out BK284.out (by decide)) e_) hs_)); have n10_ := am_ (hb); clear HO_266001; clear HO_272001; clear HO_278001; clear HO_285001; clear BK245; clear BK246; clear BK265; clear BK271; clear BK277; clear BK284; clear HB; have HO_266001 := n0_; have HO_272001 := n1_; have HO_278001 := n2_; have HO_285001 := n3_; have BK245 := n4_; have BK246 := n5_; have BK265 := n6_; have BK271 := n7_; have BK277 := n8_; have BK284 := n9_; have HB := n10_; clear n0_ n1_ n2_ n3_ n4_ n5_ n6_ n7_ n8_ n9_ n10_; (try clear hb); (try clear hkp); (try clear hy0); have hcz262_0 : w261.cell? ⟨gb284, 0, none⟩ = some (.int .i64 t278) := bc_ BK284 0; have hcz262_1 : w261.cell? ⟨gb284, 1, none⟩ = some (.slice Ao73 t279.length co73) := bc_ BK284 1; have hcz262_2 : w261.cell? ⟨gb284, 2, none⟩ = some (.int .i64 t282) := bc_ BK284 2; have hfz262_0 := blk_frozen BK284.out 0; have hfz262_1 := blk_frozen BK284.out 1; have hfz262_2 := blk_frozen BK284.out 2) | ((with_reducible refine gate_callee (f := 17) rfl ?_); refine goesL_ (some 88) rfl rfl Tryd.func17 (by kernel_rfl) rfl #[.agg #[.int .i64 t278, .slice Ao73 t304.length co73, .int .i64 t282], .int .i64 1] rfl (by (try simp only [List.map_toArray, List.map_cons, List.map_nil]); first | done | (rw [show t304.length = t279.length from (Kd.R_reads' HO_285001.out).1.symm] <;> rfl) | rfl | (simp only [List.length_drop, List.length_take]; rfl)) ?_; (with_reducible refine (laws_heldDyadic.calls kj108 t278 _ _ t304 t282 1 t305 _ ?side1 ?side2 A160.out).mono ?_); (case side1 => exact cr_ HO_285001); (case side2 => rw [show t304.length = t279.length from (Kd.R_reads' HO_285001.out).1.symm]; exact (Kd.R_reads' HO_285001.out).2.1); rintro e w263 ⟨rfl, hb⟩; refine ⟨_, rfl, ?_⟩; replace HO_266001 := am_ (Kd.R_below (kr_ HO_266001) hb); replace HO_272001 := am_ (Kd.R_below (kr_ HO_272001) hb); replace HO_278001 := am_ (Kd.R_below (kr_ HO_278001) hb); replace HO_285001 := am_ (Kd.R_below (kr_ HO_285001) hb); replace BK245 := am_ (blk_below (bk_ BK245) hb); replace BK246 := am_ (blk_below (bk_ BK246) hb); replace BK265 := am_ (blk_below (bk_ BK265) hb); replace BK271 := am_ (blk_below (bk_ BK271) hb); replace BK277 := am_ (blk_below (bk_ BK277) hb); replace BK284 := am_ (blk_below (bk_ BK284) hb); replace HB := am_ (below_step (bl_ HB) hb); (try clear hb); (try clear hb2); (try clear hk); (try clear hi)))
             go_ret
             exact ⟨by first | rfl | (simp [errW_none, errW_some] <;> rfl) | (simp [*, errW_none, errW_some] <;> rfl), bl_ HB⟩
       ·replace c106 := Bool.eq_false_iff.mpr c106
        subst c106
        have H1 : (some false) = some r := by rw [if_neg (show ¬ (false = true) by decide)] at H; exact H
        clear H; have H := H1; clear H1; obtain rfl := Option.some.inj H
        try go_wp2
        have n0_ := am_ (Kd.R_drew HO_266001.out); have n1_ := am_ (Kd.R_drew HO_272001.out); have n2_ := am_ (Kd.R_drew HO_278001.out); have n3_ := am_ (Kd.R_drew HO_285001.out); have n4_ := am_ (blk_drew BK245.out); have n5_ := am_ (blk_drew BK246.out); have n6_ := am_ (blk_drew BK265.out); have n7_ := am_ (blk_drew BK271.out); have n8_ := am_ (blk_drew BK277.out); have n9_ := am_ (blk_drew BK284.out); have n10_ := am_ (below_drew1 HB.out); clear HO_266001 HO_272001 HO_278001 HO_285001 BK245 BK246 BK265 BK271 BK277 BK284 HB; have HO_266001 := n0_; have HO_272001 := n1_; have HO_278001 := n2_; have HO_285001 := n3_; have BK245 := n4_; have BK246 := n5_; have BK265 := n6_; have BK271 := n7_; have BK277 := n8_; have BK284 := n9_; have HB := n10_; clear n0_ n1_ n2_ n3_ n4_ n5_ n6_ n7_ n8_ n9_ n10_
        refine start_ (n := 5) (S := fun w' => w'.cell? ⟨gb271, 0, none⟩ = some (.int .i64 t266) ∧ w'.cell? ⟨gb271, 1, none⟩ = some (.slice Ao53 t267.length co53) ∧ w'.cell? ⟨gb271, 2, none⟩ = some (.int .i64 t270) ∧ w'.cell? ⟨gb245, 0, none⟩ = some (.int .i64 a0_0) ∧ w'.cell? ⟨gb245, 1, none⟩ = some (.slice A0_1 l0_1.length c0_1) ∧ w'.cell? ⟨gb245, 2, none⟩ = some (.int .i64 a0_2)) (ds := []) #[false, false, false, false, false] (by kernel_rfl) rfl rfl ⟨bc_ BK271 0, bc_ BK271 1, bc_ BK271 2, bc_ BK245 0, bc_ BK245 1, bc_ BK245 2⟩ (fun hHeld => ?_)
        generalize wc.drew = w264 at HO_266001 HO_272001 HO_278001 HO_285001 BK245 BK246 BK265 BK271 BK277 BK284 HB hHeld ⊢
        refine take_ (i := 0) (N := some 54) (v := ?_) (a' := ?_) #[true, false, false, false, false] rfl rfl (by kernel_rfl) (fun _ _ _ h => h) (Or.inl ⟨by rfl, ?_⟩) hHeld ?_ ?_
        rotate_left
        ·rintro w' ⟨s0, s1, s2, s3, s4, s5⟩
         go_simp
         with_reducible rfl
        rotate_left
        ·exact nm_
        refine take_ (i := 1) (N := some 55) (v := ?_) (a' := ?_) #[true, true, false, false, false] rfl rfl (by kernel_rfl) (fun _ _ _ h => h) (Or.inl ⟨by rfl, ?_⟩) hHeld ?_ ?_
        rotate_left
        ·rintro w' ⟨s0, s1, s2, s3, s4, s5⟩
         go_simp
         with_reducible rfl
        rotate_left
        ·exact nm_
        refine one_ (i := 2) (N := some 56) #[true, true, true, false, false] rfl rfl (by kernel_rfl) (by decide) (fun K hK => ?_)
        refine goes_ Tryd.func13 (by kernel_rfl) rfl #[.agg #[.int .i64 a0_0, .slice A0_1 l0_1.length c0_1, .int .i64 a0_2]] (by rfl) rfl rfl ma_ ?_
        with_reducible refine (laws_toDyadic.calls kj24 a0_0 _ _ l0_1 a0_2 t286 t287 t290 _ ?side1 ?side2 A101.out).mono ?_
        (case side1 => exact cb_ HR0_1 HB)
        (case side2 => exact HC0_1.out)
        rintro e w265 ⟨v288, rfl, ho0, hb⟩
        refine ⟨_, rfl, ?_⟩
        have n0_ := am_ (Kd.R_elder' (kr_ HO_266001) (Kd.R_base ho0) hb); have n1_ := am_ (Kd.R_elder' (kr_ HO_272001) (Kd.R_base ho0) hb); have n2_ := am_ (Kd.R_elder' (kr_ HO_278001) (Kd.R_base ho0) hb); have n3_ := am_ (Kd.R_elder' (kr_ HO_285001) (Kd.R_base ho0) hb); have n4_ := am_ (Kd.R_lower (Kd.R_new' (Kd.R_new' (Kd.R_new' (Kd.R_new' ho0 (Kd.R_lt (kr_ HO_266001))) (Kd.R_lt (kr_ HO_272001))) (Kd.R_lt (kr_ HO_278001))) (Kd.R_lt (kr_ HO_285001))) (below_size (bl_ HB))); have n5_ := am_ (blk_below (bk_ BK245) hb); have n6_ := am_ (blk_below (bk_ BK246) hb); have n7_ := am_ (blk_below (bk_ BK265) hb); have n8_ := am_ (blk_below (bk_ BK271) hb); have n9_ := am_ (blk_below (bk_ BK277) hb); have n10_ := am_ (blk_below (bk_ BK284) hb); have n11_ := am_ (below_step (bl_ HB) hb); clear HO_266001 HO_272001 HO_278001 HO_285001 BK245 BK246 BK265 BK271 BK277 BK284 HB; have HO_266001 := n0_; have HO_272001 := n1_; have HO_278001 := n2_; have HO_285001 := n3_; have HO289 := n4_; have BK245 := n5_; have BK246 := n6_; have BK265 := n7_; have BK271 := n8_; have BK277 := n9_; have BK284 := n10_; have HB := n11_; clear n0_ n1_ n2_ n3_ n4_ n5_ n6_ n7_ n8_ n9_ n10_ n11_; (try clear hb); (try clear hb2); (try clear hk); (try clear hi); (try clear ho0)
        obtain ⟨Ao266, co266, eo266⟩ := Kd.R_slice HO289.out
        (first | subst eo266 | (injection eo266 with f1_ f2_ f3_; have f4_ := f1_.symm; have f5_ := f3_.symm; clear f1_ f2_ f3_; subst f4_; subst f5_))
        refine hK.out _ _ ⟨bc_ BK271 0, bc_ BK271 1, bc_ BK271 2, bc_ BK245 0, bc_ BK245 1, bc_ BK245 2⟩ (fun hHeld => ?_)
        clear hK K
        refine norm_ (a' := ?_) ?_ ?_
        rotate_left
        ·show Act.put _ (some 56) _ = _
         exact nm_
        refine one_ (i := 3) (N := some 57) #[true, true, true, true, false] rfl rfl (by kernel_rfl) (by decide) (fun K hK => ?_)
        refine goes_ Tryd.func15 (by kernel_rfl) rfl #[.agg #[.int .i64 t266, .slice Ao53 t267.length co53, .int .i64 t270], .agg #[.int .i64 t286, .slice Ao266 t287.length co266, .int .i64 t290]] (by rfl) rfl rfl ma_ ?_
        with_reducible refine (laws_eqDyadic.calls kj24 t266 _ _ t267 t270 t286 _ _ t287 t290 true _ ?side1 ?side2 ?side3 ?side4 A102.out).mono ?_
        (case side1 => exact cr_ HO_272001)
        (case side2 => exact (Kd.R_reads' HO_272001.out).2.1)
        (case side3 => exact cr_ HO289)
        (case side4 => exact (Kd.R_reads' HO289.out).2.1)
        rintro e w267 ⟨rfl, hb⟩
        refine ⟨_, rfl, ?_⟩
        have n0_ := am_ (Kd.R_below (kr_ HO_266001) hb); have n1_ := am_ (Kd.R_below (kr_ HO_272001) hb); have n2_ := am_ (Kd.R_below (kr_ HO_278001) hb); have n3_ := am_ (Kd.R_below (kr_ HO_285001) hb); have n4_ := am_ (Kd.R_below (kr_ HO289) hb); have n5_ := am_ (blk_below (bk_ BK245) hb); have n6_ := am_ (blk_below (bk_ BK246) hb); have n7_ := am_ (blk_below (bk_ BK265) hb); have n8_ := am_ (blk_below (bk_ BK271) hb); have n9_ := am_ (blk_below (bk_ BK277) hb); have n10_ := am_ (blk_below (bk_ BK284) hb); have n11_ := am_ (below_step (bl_ HB) hb); clear HO_266001 HO_272001 HO_278001 HO_285001 HO289 BK245 BK246 BK265 BK271 BK277 BK284 HB; have HO_266001 := n0_; have HO_272001 := n1_; have HO_278001 := n2_; have HO_285001 := n3_; have HO289 := n4_; have BK245 := n5_; have BK246 := n6_; have BK265 := n7_; have BK271 := n8_; have BK277 := n9_; have BK284 := n10_; have HB := n11_; clear n0_ n1_ n2_ n3_ n4_ n5_ n6_ n7_ n8_ n9_ n10_ n11_; (try clear hb); (try clear hb2); (try clear hk); (try clear hi)
        refine hK.out _ _ ⟨bc_ BK271 0, bc_ BK271 1, bc_ BK271 2, bc_ BK245 0, bc_ BK245 1, bc_ BK245 2⟩ (fun hHeld => ?_)
        clear hK K
        refine norm_ (a' := ?_) ?_ ?_
        rotate_left
        ·show Act.put _ (some 57) _ = _
         exact nm_
        refine pure_ (i := 4) (N := some 58) (v := ?_) (a' := ?_) #[true, true, true, true, true] rfl rfl (by kernel_rfl) (fun _ _ _ h => h) (Or.inl ⟨by rfl, ?_⟩) ?_ ?_
        rotate_left
        ·intro w'
         go_simp
         with_reducible rfl
        rotate_left
        ·exact nm_
        refine done_ (by kernel_rfl) ?_
        try go_wp2
        have n0_ := am_ (Kd.R_drew HO_266001.out); have n1_ := am_ (Kd.R_drew HO_272001.out); have n2_ := am_ (Kd.R_drew HO_278001.out); have n3_ := am_ (Kd.R_drew HO_285001.out); have n4_ := am_ (Kd.R_drew HO289.out); have n5_ := am_ (blk_drew BK245.out); have n6_ := am_ (blk_drew BK246.out); have n7_ := am_ (blk_drew BK265.out); have n8_ := am_ (blk_drew BK271.out); have n9_ := am_ (blk_drew BK277.out); have n10_ := am_ (blk_drew BK284.out); have n11_ := am_ (below_drew1 HB.out); clear HO_266001 HO_272001 HO_278001 HO_285001 HO289 BK245 BK246 BK265 BK271 BK277 BK284 HB; have HO_266001 := n0_; have HO_272001 := n1_; have HO_278001 := n2_; have HO_285001 := n3_; have HO289 := n4_; have BK245 := n5_; have BK246 := n6_; have BK265 := n7_; have BK271 := n8_; have BK277 := n9_; have BK284 := n10_; have HB := n11_; clear n0_ n1_ n2_ n3_ n4_ n5_ n6_ n7_ n8_ n9_ n10_ n11_
        refine start_ (n := 5) (S := fun w' => w'.cell? ⟨gb277, 0, none⟩ = some (.int .i64 t272) ∧ w'.cell? ⟨gb277, 1, none⟩ = some (.slice Ao63 t273.length co63) ∧ w'.cell? ⟨gb277, 2, none⟩ = some (.int .i64 t276) ∧ w'.cell? ⟨gb246, 0, none⟩ = some (.int .i64 a1_0) ∧ w'.cell? ⟨gb246, 1, none⟩ = some (.slice A1_1 l1_1.length c1_1) ∧ w'.cell? ⟨gb246, 2, none⟩ = some (.int .i64 a1_2)) (ds := []) #[false, false, false, false, false] (by kernel_rfl) rfl rfl ⟨bc_ BK277 0, bc_ BK277 1, bc_ BK277 2, bc_ BK246 0, bc_ BK246 1, bc_ BK246 2⟩ (fun hHeld => ?_)
        generalize w267.drew = w268 at HO_266001 HO_272001 HO_278001 HO_285001 HO289 BK245 BK246 BK265 BK271 BK277 BK284 HB hHeld ⊢
        refine take_ (i := 0) (N := some 59) (v := ?_) (a' := ?_) #[true, false, false, false, false] rfl rfl (by kernel_rfl) (fun _ _ _ h => h) (Or.inl ⟨by rfl, ?_⟩) hHeld ?_ ?_
        rotate_left
        ·rintro w' ⟨s0, s1, s2, s3, s4, s5⟩
         go_simp
         with_reducible rfl
        rotate_left
        ·exact nm_
        refine take_ (i := 1) (N := some 60) (v := ?_) (a' := ?_) #[true, true, false, false, false] rfl rfl (by kernel_rfl) (fun _ _ _ h => h) (Or.inl ⟨by rfl, ?_⟩) hHeld ?_ ?_
        rotate_left
        ·rintro w' ⟨s0, s1, s2, s3, s4, s5⟩
         go_simp
         with_reducible rfl
        rotate_left
        ·exact nm_
        refine one_ (i := 2) (N := some 61) #[true, true, true, false, false] rfl rfl (by kernel_rfl) (by decide) (fun K hK => ?_)
        refine goes_ Tryd.func13 (by kernel_rfl) rfl #[.agg #[.int .i64 a1_0, .slice A1_1 l1_1.length c1_1, .int .i64 a1_2]] (by rfl) rfl rfl ma_ ?_
        with_reducible refine (laws_toDyadic.calls kj24 a1_0 _ _ l1_1 a1_2 t292 t293 t296 _ ?side1 ?side2 A104.out).mono ?_
        (case side1 => exact cb_ HR1_1 HB)
        (case side2 => exact HC1_1.out)
        rintro e w269 ⟨v294, rfl, ho0, hb⟩
        refine ⟨_, rfl, ?_⟩
        have n0_ := am_ (Kd.R_elder' (kr_ HO_266001) (Kd.R_base ho0) hb); have n1_ := am_ (Kd.R_elder' (kr_ HO_272001) (Kd.R_base ho0) hb); have n2_ := am_ (Kd.R_elder' (kr_ HO_278001) (Kd.R_base ho0) hb); have n3_ := am_ (Kd.R_elder' (kr_ HO_285001) (Kd.R_base ho0) hb); have n4_ := am_ (Kd.R_elder' (kr_ HO289) (Kd.R_base ho0) hb); have n5_ := am_ (Kd.R_lower (Kd.R_new' (Kd.R_new' (Kd.R_new' (Kd.R_new' (Kd.R_new' ho0 (Kd.R_lt (kr_ HO_266001))) (Kd.R_lt (kr_ HO_272001))) (Kd.R_lt (kr_ HO_278001))) (Kd.R_lt (kr_ HO_285001))) (Kd.R_lt (kr_ HO289))) (below_size (bl_ HB))); have n6_ := am_ (blk_below (bk_ BK245) hb); have n7_ := am_ (blk_below (bk_ BK246) hb); have n8_ := am_ (blk_below (bk_ BK265) hb); have n9_ := am_ (blk_below (bk_ BK271) hb); have n10_ := am_ (blk_below (bk_ BK277) hb); have n11_ := am_ (blk_below (bk_ BK284) hb); have n12_ := am_ (below_step (bl_ HB) hb); clear HO_266001 HO_272001 HO_278001 HO_285001 HO289 BK245 BK246 BK265 BK271 BK277 BK284 HB; have HO_266001 := n0_; have HO_272001 := n1_; have HO_278001 := n2_; have HO_285001 := n3_; have HO289 := n4_; have HO295 := n5_; have BK245 := n6_; have BK246 := n7_; have BK265 := n8_; have BK271 := n9_; have BK277 := n10_; have BK284 := n11_; have HB := n12_; clear n0_ n1_ n2_ n3_ n4_ n5_ n6_ n7_ n8_ n9_ n10_ n11_ n12_; (try clear hb); (try clear hb2); (try clear hk); (try clear hi); (try clear ho0)
        obtain ⟨Ao270, co270, eo270⟩ := Kd.R_slice HO295.out
        (first | subst eo270 | (injection eo270 with f1_ f2_ f3_; have f4_ := f1_.symm; have f5_ := f3_.symm; clear f1_ f2_ f3_; subst f4_; subst f5_))
        refine hK.out _ _ ⟨bc_ BK277 0, bc_ BK277 1, bc_ BK277 2, bc_ BK246 0, bc_ BK246 1, bc_ BK246 2⟩ (fun hHeld => ?_)
        clear hK K
        refine norm_ (a' := ?_) ?_ ?_
        rotate_left
        ·show Act.put _ (some 61) _ = _
         exact nm_
        refine one_ (i := 3) (N := some 62) #[true, true, true, true, false] rfl rfl (by kernel_rfl) (by decide) (fun K hK => ?_)
        refine goes_ Tryd.func15 (by kernel_rfl) rfl #[.agg #[.int .i64 t272, .slice Ao63 t273.length co63, .int .i64 t276], .agg #[.int .i64 t292, .slice Ao270 t293.length co270, .int .i64 t296]] (by rfl) rfl rfl ma_ ?_
        with_reducible refine (laws_eqDyadic.calls kj24 t272 _ _ t273 t276 t292 _ _ t293 t296 false _ ?side1 ?side2 ?side3 ?side4 A105.out).mono ?_
        (case side1 => exact cr_ HO_278001)
        (case side2 => exact (Kd.R_reads' HO_278001.out).2.1)
        (case side3 => exact cr_ HO295)
        (case side4 => exact (Kd.R_reads' HO295.out).2.1)
        rintro e w271 ⟨rfl, hb⟩
        refine ⟨_, rfl, ?_⟩
        have n0_ := am_ (Kd.R_below (kr_ HO_266001) hb); have n1_ := am_ (Kd.R_below (kr_ HO_272001) hb); have n2_ := am_ (Kd.R_below (kr_ HO_278001) hb); have n3_ := am_ (Kd.R_below (kr_ HO_285001) hb); have n4_ := am_ (Kd.R_below (kr_ HO289) hb); have n5_ := am_ (Kd.R_below (kr_ HO295) hb); have n6_ := am_ (blk_below (bk_ BK245) hb); have n7_ := am_ (blk_below (bk_ BK246) hb); have n8_ := am_ (blk_below (bk_ BK265) hb); have n9_ := am_ (blk_below (bk_ BK271) hb); have n10_ := am_ (blk_below (bk_ BK277) hb); have n11_ := am_ (blk_below (bk_ BK284) hb); have n12_ := am_ (below_step (bl_ HB) hb); clear HO_266001 HO_272001 HO_278001 HO_285001 HO289 HO295 BK245 BK246 BK265 BK271 BK277 BK284 HB; have HO_266001 := n0_; have HO_272001 := n1_; have HO_278001 := n2_; have HO_285001 := n3_; have HO289 := n4_; have HO295 := n5_; have BK245 := n6_; have BK246 := n7_; have BK265 := n8_; have BK271 := n9_; have BK277 := n10_; have BK284 := n11_; have HB := n12_; clear n0_ n1_ n2_ n3_ n4_ n5_ n6_ n7_ n8_ n9_ n10_ n11_ n12_; (try clear hb); (try clear hb2); (try clear hk); (try clear hi)
        refine hK.out _ _ ⟨bc_ BK277 0, bc_ BK277 1, bc_ BK277 2, bc_ BK246 0, bc_ BK246 1, bc_ BK246 2⟩ (fun hHeld => ?_)
        clear hK K
        refine norm_ (a' := ?_) ?_ ?_
        rotate_left
        ·show Act.put _ (some 62) _ = _
         exact nm_
        refine pure_ (i := 4) (N := some 63) (v := ?_) (a' := ?_) #[true, true, true, true, true] rfl rfl (by kernel_rfl) (fun _ _ _ h => h) (Or.inl ⟨by rfl, ?_⟩) ?_ ?_
        rotate_left
        ·intro w'
         go_simp
         with_reducible rfl
        rotate_left
        ·exact nm_
        refine done_ (by kernel_rfl) ?_
        try go_wp2
        go_ret
        exact ⟨by first | rfl | (simp [errW_none, errW_some] <;> rfl) | (simp [*, errW_none, errW_some] <;> rfl), bl_ HB⟩
      ·replace c103 := Bool.eq_false_iff.mpr c103
       subst c103
       have H1 : (some false) = some r := by rw [if_neg (show ¬ (false = true) by decide)] at H; exact H
       clear H; have H := H1; clear H1; obtain rfl := Option.some.inj H
       try go_wp2
       have n0_ := am_ (Kd.R_drew HO_266001.out); have n1_ := am_ (Kd.R_drew HO_272001.out); have n2_ := am_ (Kd.R_drew HO_278001.out); have n3_ := am_ (Kd.R_drew HO_285001.out); have n4_ := am_ (blk_drew BK245.out); have n5_ := am_ (blk_drew BK246.out); have n6_ := am_ (blk_drew BK265.out); have n7_ := am_ (blk_drew BK271.out); have n8_ := am_ (blk_drew BK277.out); have n9_ := am_ (blk_drew BK284.out); have n10_ := am_ (below_drew1 HB.out); clear HO_266001 HO_272001 HO_278001 HO_285001 BK245 BK246 BK265 BK271 BK277 BK284 HB; have HO_266001 := n0_; have HO_272001 := n1_; have HO_278001 := n2_; have HO_285001 := n3_; have BK245 := n4_; have BK246 := n5_; have BK265 := n6_; have BK271 := n7_; have BK277 := n8_; have BK284 := n9_; have HB := n10_; clear n0_ n1_ n2_ n3_ n4_ n5_ n6_ n7_ n8_ n9_ n10_
       refine start_ (n := 5) (S := fun w' => w'.cell? ⟨gb271, 0, none⟩ = some (.int .i64 t266) ∧ w'.cell? ⟨gb271, 1, none⟩ = some (.slice Ao53 t267.length co53) ∧ w'.cell? ⟨gb271, 2, none⟩ = some (.int .i64 t270) ∧ w'.cell? ⟨gb245, 0, none⟩ = some (.int .i64 a0_0) ∧ w'.cell? ⟨gb245, 1, none⟩ = some (.slice A0_1 l0_1.length c0_1) ∧ w'.cell? ⟨gb245, 2, none⟩ = some (.int .i64 a0_2)) (ds := []) #[false, false, false, false, false] (by kernel_rfl) rfl rfl ⟨bc_ BK271 0, bc_ BK271 1, bc_ BK271 2, bc_ BK245 0, bc_ BK245 1, bc_ BK245 2⟩ (fun hHeld => ?_)
       generalize wc.drew = w272 at HO_266001 HO_272001 HO_278001 HO_285001 BK245 BK246 BK265 BK271 BK277 BK284 HB hHeld ⊢
       refine take_ (i := 0) (N := some 54) (v := ?_) (a' := ?_) #[true, false, false, false, false] rfl rfl (by kernel_rfl) (fun _ _ _ h => h) (Or.inl ⟨by rfl, ?_⟩) hHeld ?_ ?_
       rotate_left
       ·rintro w' ⟨s0, s1, s2, s3, s4, s5⟩
        go_simp
        with_reducible rfl
       rotate_left
       ·exact nm_
       refine take_ (i := 1) (N := some 55) (v := ?_) (a' := ?_) #[true, true, false, false, false] rfl rfl (by kernel_rfl) (fun _ _ _ h => h) (Or.inl ⟨by rfl, ?_⟩) hHeld ?_ ?_
       rotate_left
       ·rintro w' ⟨s0, s1, s2, s3, s4, s5⟩
        go_simp
        with_reducible rfl
       rotate_left
       ·exact nm_
       refine one_ (i := 2) (N := some 56) #[true, true, true, false, false] rfl rfl (by kernel_rfl) (by decide) (fun K hK => ?_)
       refine goes_ Tryd.func13 (by kernel_rfl) rfl #[.agg #[.int .i64 a0_0, .slice A0_1 l0_1.length c0_1, .int .i64 a0_2]] (by rfl) rfl rfl ma_ ?_
       with_reducible refine (laws_toDyadic.calls kj24 a0_0 _ _ l0_1 a0_2 t286 t287 t290 _ ?side1 ?side2 A101.out).mono ?_
       (case side1 => exact cb_ HR0_1 HB)
       (case side2 => exact HC0_1.out)
       rintro e w273 ⟨v288, rfl, ho0, hb⟩
       refine ⟨_, rfl, ?_⟩
       have n0_ := am_ (Kd.R_elder' (kr_ HO_266001) (Kd.R_base ho0) hb); have n1_ := am_ (Kd.R_elder' (kr_ HO_272001) (Kd.R_base ho0) hb); have n2_ := am_ (Kd.R_elder' (kr_ HO_278001) (Kd.R_base ho0) hb); have n3_ := am_ (Kd.R_elder' (kr_ HO_285001) (Kd.R_base ho0) hb); have n4_ := am_ (Kd.R_lower (Kd.R_new' (Kd.R_new' (Kd.R_new' (Kd.R_new' ho0 (Kd.R_lt (kr_ HO_266001))) (Kd.R_lt (kr_ HO_272001))) (Kd.R_lt (kr_ HO_278001))) (Kd.R_lt (kr_ HO_285001))) (below_size (bl_ HB))); have n5_ := am_ (blk_below (bk_ BK245) hb); have n6_ := am_ (blk_below (bk_ BK246) hb); have n7_ := am_ (blk_below (bk_ BK265) hb); have n8_ := am_ (blk_below (bk_ BK271) hb); have n9_ := am_ (blk_below (bk_ BK277) hb); have n10_ := am_ (blk_below (bk_ BK284) hb); have n11_ := am_ (below_step (bl_ HB) hb); clear HO_266001 HO_272001 HO_278001 HO_285001 BK245 BK246 BK265 BK271 BK277 BK284 HB; have HO_266001 := n0_; have HO_272001 := n1_; have HO_278001 := n2_; have HO_285001 := n3_; have HO289 := n4_; have BK245 := n5_; have BK246 := n6_; have BK265 := n7_; have BK271 := n8_; have BK277 := n9_; have BK284 := n10_; have HB := n11_; clear n0_ n1_ n2_ n3_ n4_ n5_ n6_ n7_ n8_ n9_ n10_ n11_; (try clear hb); (try clear hb2); (try clear hk); (try clear hi); (try clear ho0)
       obtain ⟨Ao274, co274, eo274⟩ := Kd.R_slice HO289.out
       (first | subst eo274 | (injection eo274 with f1_ f2_ f3_; have f4_ := f1_.symm; have f5_ := f3_.symm; clear f1_ f2_ f3_; subst f4_; subst f5_))
       refine hK.out _ _ ⟨bc_ BK271 0, bc_ BK271 1, bc_ BK271 2, bc_ BK245 0, bc_ BK245 1, bc_ BK245 2⟩ (fun hHeld => ?_)
       clear hK K
       refine norm_ (a' := ?_) ?_ ?_
       rotate_left
       ·show Act.put _ (some 56) _ = _
        exact nm_
       refine one_ (i := 3) (N := some 57) #[true, true, true, true, false] rfl rfl (by kernel_rfl) (by decide) (fun K hK => ?_)
       refine goes_ Tryd.func15 (by kernel_rfl) rfl #[.agg #[.int .i64 t266, .slice Ao53 t267.length co53, .int .i64 t270], .agg #[.int .i64 t286, .slice Ao274 t287.length co274, .int .i64 t290]] (by rfl) rfl rfl ma_ ?_
       with_reducible refine (laws_eqDyadic.calls kj24 t266 _ _ t267 t270 t286 _ _ t287 t290 false _ ?side1 ?side2 ?side3 ?side4 A102.out).mono ?_
       (case side1 => exact cr_ HO_272001)
       (case side2 => exact (Kd.R_reads' HO_272001.out).2.1)
       (case side3 => exact cr_ HO289)
       (case side4 => exact (Kd.R_reads' HO289.out).2.1)
       rintro e w275 ⟨rfl, hb⟩
       refine ⟨_, rfl, ?_⟩
       have n0_ := am_ (Kd.R_below (kr_ HO_266001) hb); have n1_ := am_ (Kd.R_below (kr_ HO_272001) hb); have n2_ := am_ (Kd.R_below (kr_ HO_278001) hb); have n3_ := am_ (Kd.R_below (kr_ HO_285001) hb); have n4_ := am_ (Kd.R_below (kr_ HO289) hb); have n5_ := am_ (blk_below (bk_ BK245) hb); have n6_ := am_ (blk_below (bk_ BK246) hb); have n7_ := am_ (blk_below (bk_ BK265) hb); have n8_ := am_ (blk_below (bk_ BK271) hb); have n9_ := am_ (blk_below (bk_ BK277) hb); have n10_ := am_ (blk_below (bk_ BK284) hb); have n11_ := am_ (below_step (bl_ HB) hb); clear HO_266001 HO_272001 HO_278001 HO_285001 HO289 BK245 BK246 BK265 BK271 BK277 BK284 HB; have HO_266001 := n0_; have HO_272001 := n1_; have HO_278001 := n2_; have HO_285001 := n3_; have HO289 := n4_; have BK245 := n5_; have BK246 := n6_; have BK265 := n7_; have BK271 := n8_; have BK277 := n9_; have BK284 := n10_; have HB := n11_; clear n0_ n1_ n2_ n3_ n4_ n5_ n6_ n7_ n8_ n9_ n10_ n11_; (try clear hb); (try clear hb2); (try clear hk); (try clear hi)
       refine hK.out _ _ ⟨bc_ BK271 0, bc_ BK271 1, bc_ BK271 2, bc_ BK245 0, bc_ BK245 1, bc_ BK245 2⟩ (fun hHeld => ?_)
       clear hK K
       refine norm_ (a' := ?_) ?_ ?_
       rotate_left
       ·show Act.put _ (some 57) _ = _
        exact nm_
       refine pure_ (i := 4) (N := some 58) (v := ?_) (a' := ?_) #[true, true, true, true, true] rfl rfl (by kernel_rfl) (fun _ _ _ h => h) (Or.inl ⟨by rfl, ?_⟩) ?_ ?_
       rotate_left
       ·intro w'
        go_simp
        with_reducible rfl
       rotate_left
       ·exact nm_
       refine done_ (by kernel_rfl) ?_
       try go_wp2
       go_ret
       exact ⟨by first | rfl | (simp [errW_none, errW_some] <;> rfl) | (simp [*, errW_none, errW_some] <;> rfl), bl_ HB⟩

end Go.Proofs.YthddlechoibdkaaDoor.X
