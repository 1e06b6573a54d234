/- Functions of the program as plain Lean functions, each with a proof that its call does what that function says. Printed by a program over the kit's print; conditions stand in each contract. -/
import Derived.Test.YthddlechoibdkaaDoorSq
import Derived.Test.YthddlechoibdkaaDoorDyP
import Derived.Test.YthddlechoibdkaaDoorX0
import Derived.Test.YthddlechoibdkaaDoorX1
import Derived.Test.YthddlechoibdkaaDoorX2
import Derived.Test.YthddlechoibdkaaDoorX3
namespace Go.Proofs.YthddlechoibdkaaDoor.X
open Go.RowKit Go.Proofs.YthddlechoibdkaaDoorW.PrintWords Go.Proofs.YthddlechoibdkaaDoorW.PrintLast Go.Proofs.YthddlechoibdkaaDoorW.PrintMore Go.Proofs.YthddlechoibdkaaDoor.Sq
attribute [local go_sem] max2_int min2_int max_two min_two max_three min_three max_four min_four   -- for this text's walks alone
set_option linter.unusedVariables false
set_option linter.unusedSimpArgs false

/-! ### laws_FnExactAddDyadics: function 3 -/
mutual
def laws_FnExactAddDyadics.j0 : Nat → Int → Int → Bool → Int → List Int → Int → Int → List Int → Int → Int → List Int → Int → Int → List Int → Int → Int → List Int → Int → Int → List Int → Int → Option (Bool)
  | 0, _, _, _, _, _, _, _, _, _, _, _, _, _, _, _, _, _, _, _, _, _ => none
  | k + 1, x7, x11, x53, x337000, x337001, x337002, x338000, x338001, x338002, x357000, x357001, x357002, x363000, x363001, x363002, x369000, x369001, x369002, x376000, x376001, x376002 => if x53 = true then (some false) else ((laws_toDyadic.f k x337000 x337001 x337002).bind fun bt377 => ((laws_eqDyadic.f k x363000 x363001 x363002 bt377.1 bt377.2.1 bt377.2.2).bind fun t382 => (if t382 = true then ((laws_toDyadic.f k x338000 x338001 x338002).bind fun bt383 => ((laws_eqDyadic.f k x369000 x369001 x369002 bt383.1 bt383.2.1 bt383.2.2).bind fun t388 => (if t388 = true then ((laws_markDyadic.f k x363000 x363001 x363002 1).bind fun bt389 => ((laws_markDyadic.f k x369000 x369001 x369002 bt389.1).bind fun bt391 => (if bt391.1 < 0 then (laws_FnExactAddDyadics.j1 k x7 true x337000 x337001 x337002 x338000 x338001 x338002 x357000 x357001 x357002 x376000 x376001 x376002) else ((laws_eqDyadic.f k x376000 x376001 x376002 x357000 x357001 x357002).bind fun t393 => (if t393 = true then (laws_FnExactAddDyadics.j1 k x7 (x11 != x7) x337000 x337001 x337002 x338000 x338001 x338002 x357000 x357001 x357002 x376000 x376001 x376002) else (laws_FnExactAddDyadics.j1 k x7 true x337000 x337001 x337002 x338000 x338001 x338002 x357000 x357001 x357002 x376000 x376001 x376002)))))) else (some false)))) else (some false))))
def laws_FnExactAddDyadics.j1 : Nat → Int → Bool → Int → List Int → Int → Int → List Int → Int → Int → List Int → Int → Int → List Int → Int → Option (Bool)
  | 0, _, _, _, _, _, _, _, _, _, _, _, _, _, _ => none
  | k + 1, x7, x82, x337000, x337001, x337002, x338000, x338001, x338002, x357000, x357001, x357002, x376000, x376001, x376002 => if x82 = true then (some false) else ((laws_markDyadic.f k x376000 x376001 x376002 1).bind fun bt394 => ((laws_heldDyadic.f k x376000 bt394.2 x376002 1).bind fun t396 => (if t396 < 0 then (some false) else (if t396 = bt394.1 then ((laws_toDyadic.f k x337000 x337001 x337002).bind fun bt397 => ((laws_toDyadic.f k x338000 x338001 x338002).bind fun bt402 => ((impl_AddDyadics.f bt397.1 bt397.2.1 bt397.2.2 bt402.1 bt402.2.1 bt402.2.2).bind fun bt407 => ((laws_eqDyadic.f k bt407.1 bt407.2.1 bt407.2.2.1 x357000 x357001 x357002).bind fun t414 => (if t414 = true then (laws_FnExactAddDyadics.j2 k bt394.1 (bt407.2.2.2 != x7) x376000 bt394.2 x376002) else (laws_FnExactAddDyadics.j2 k bt394.1 true x376000 bt394.2 x376002)))))) else (some false)))))
def laws_FnExactAddDyadics.j2 : Nat → Int → Bool → Int → List Int → Int → Option (Bool)
  | 0, _, _, _, _, _ => none
  | k + 1, x13, x110, x376000, x376001, x376002 => if x110 = true then (some false) else ((laws_heldDyadic.f k x376000 x376001 x376002 1).bind fun t415 => (if t415 < 0 then (some false) else (if t415 = x13 then (some true) else (some false))))
end
def laws_FnExactAddDyadics.f (k : Nat) (a0_0 : Int) (l0_1 : List Int) (a0_2 : Int) (a1_0 : Int) (l1_1 : List Int) (a1_2 : Int) : Option (Bool) := (laws_szDyadic.f a0_0 l0_1 a0_2 1048576).bind fun t338 => (if t338 < 0 then (some true) else ((laws_szDyadic.f a1_0 l1_1 a1_2 t338).bind fun t339 => (if t339 < 0 then (some true) else ((laws_toDyadic.f k a0_0 l0_1 a0_2).bind fun bt340 => ((laws_toDyadic.f k a1_0 l1_1 a1_2).bind fun bt345 => ((spec_AddDyadics.f k bt340.1 bt340.2.1 bt340.2.2 bt345.1 bt345.2.1 bt345.2.2).bind fun bt350 => ((laws_toDyadic.f k a0_0 l0_1 a0_2).bind fun bt357 => ((laws_toDyadic.f k a1_0 l1_1 a1_2).bind fun bt363 => ((impl_AddDyadics.f bt357.1 bt357.2.1 bt357.2.2 bt363.1 bt363.2.1 bt363.2.2).bind fun bt369 => ((laws_eqDyadic.f k bt369.1 bt369.2.1 bt369.2.2.1 bt350.1 bt350.2.1 bt350.2.2.1).bind fun t376 => (if t376 = true then (laws_FnExactAddDyadics.j0 k bt350.2.2.2 bt369.2.2.2 (bt369.2.2.2 != bt350.2.2.2) a0_0 l0_1 a0_2 a1_0 l1_1 a1_2 bt350.1 bt350.2.1 bt350.2.2.1 bt357.1 bt357.2.1 bt357.2.2 bt363.1 bt363.2.1 bt363.2.2 bt369.1 bt369.2.1 bt369.2.2.1) else (laws_FnExactAddDyadics.j0 k bt350.2.2.2 bt369.2.2.2 true a0_0 l0_1 a0_2 a1_0 l1_1 a1_2 bt350.1 bt350.2.1 bt350.2.2.1 bt357.1 bt357.2.1 bt357.2.2 bt363.1 bt363.2.1 bt363.2.2 bt369.1 bt369.2.1 bt369.2.2.1))))))))))))
theorem laws_FnExactAddDyadics.mono_l : ∀ k, (∀ y0 y1 y2 y3 y4 y5 y6 y7 y8 y9 y10 y11 y12 y13 y14 y15 y16 y17 y18 y19 y20, LeO (laws_FnExactAddDyadics.j0 k y0 y1 y2 y3 y4 y5 y6 y7 y8 y9 y10 y11 y12 y13 y14 y15 y16 y17 y18 y19 y20) (laws_FnExactAddDyadics.j0 (k + 1) y0 y1 y2 y3 y4 y5 y6 y7 y8 y9 y10 y11 y12 y13 y14 y15 y16 y17 y18 y19 y20)) ∧ (∀ y0 y1 y2 y3 y4 y5 y6 y7 y8 y9 y10 y11 y12 y13, LeO (laws_FnExactAddDyadics.j1 k y0 y1 y2 y3 y4 y5 y6 y7 y8 y9 y10 y11 y12 y13) (laws_FnExactAddDyadics.j1 (k + 1) y0 y1 y2 y3 y4 y5 y6 y7 y8 y9 y10 y11 y12 y13)) ∧ (∀ y0 y1 y2 y3 y4, LeO (laws_FnExactAddDyadics.j2 k y0 y1 y2 y3 y4) (laws_FnExactAddDyadics.j2 (k + 1) y0 y1 y2 y3 y4))
  | 0 => ⟨fun _ _ _ _ _ _ _ _ _ _ _ _ _ _ _ _ _ _ _ _ _ r h => by simp [laws_FnExactAddDyadics.j0] at h, fun _ _ _ _ _ _ _ _ _ _ _ _ _ _ r h => by simp [laws_FnExactAddDyadics.j1] at h, fun _ _ _ _ _ r h => by simp [laws_FnExactAddDyadics.j2] at h⟩
  | k + 1 => by
    obtain ⟨ih0, ih1, ih2⟩ := laws_FnExactAddDyadics.mono_l k
    refine ⟨?_, ?_, ?_⟩
    · intro y0 y1 y2 y3 y4 y5 y6 y7 y8 y9 y10 y11 y12 y13 y14 y15 y16 y17 y18 y19 y20
      unfold laws_FnExactAddDyadics.j0
      repeat' first
      | (with_reducible exact ih0 _ _ _ _ _ _ _ _ _ _ _ _ _ _ _ _ _ _ _ _ _)
      | (with_reducible exact ih1 _ _ _ _ _ _ _ _ _ _ _ _ _ _)
      | (with_reducible exact ih2 _ _ _ _ _)
      | (with_reducible exact laws_eqDyadic.mono _ _ _ _ _ _ _)
      | (with_reducible exact laws_heldDyadic.mono _ _ _ _ _)
      | (with_reducible exact laws_markDyadic.mono _ _ _ _ _)
      | (with_reducible exact laws_toDyadic.mono _ _ _ _)
      | (with_reducible exact spec_AddDyadics.mono _ _ _ _ _ _ _)
      | (with_reducible exact LeO.refl _)
      | (with_reducible exact LeO.none _)
      | (with_reducible refine LeO.ite ?_ ?_)
      | (with_reducible refine LeO.bind ?_ (fun _ => ?_))
      | exact ih0 _ _ _ _ _ _ _ _ _ _ _ _ _ _ _ _ _ _ _ _ _
      | exact ih1 _ _ _ _ _ _ _ _ _ _ _ _ _ _
      | exact ih2 _ _ _ _ _
      | exact laws_eqDyadic.mono _ _ _ _ _ _ _
      | exact laws_heldDyadic.mono _ _ _ _ _
      | exact laws_markDyadic.mono _ _ _ _ _
      | exact laws_toDyadic.mono _ _ _ _
      | exact spec_AddDyadics.mono _ _ _ _ _ _ _
      | exact LeO.none _
      | refine LeO.ite ?_ ?_
      | refine LeO.bind ?_ (fun _ => ?_)
    · intro y0 y1 y2 y3 y4 y5 y6 y7 y8 y9 y10 y11 y12 y13
      unfold laws_FnExactAddDyadics.j1
      repeat' first
      | (with_reducible exact ih0 _ _ _ _ _ _ _ _ _ _ _ _ _ _ _ _ _ _ _ _ _)
      | (with_reducible exact ih1 _ _ _ _ _ _ _ _ _ _ _ _ _ _)
      | (with_reducible exact ih2 _ _ _ _ _)
      | (with_reducible exact laws_eqDyadic.mono _ _ _ _ _ _ _)
      | (with_reducible exact laws_heldDyadic.mono _ _ _ _ _)
      | (with_reducible exact laws_markDyadic.mono _ _ _ _ _)
      | (with_reducible exact laws_toDyadic.mono _ _ _ _)
      | (with_reducible exact spec_AddDyadics.mono _ _ _ _ _ _ _)
      | (with_reducible exact LeO.refl _)
      | (with_reducible exact LeO.none _)
      | (with_reducible refine LeO.ite ?_ ?_)
      | (with_reducible refine LeO.bind ?_ (fun _ => ?_))
      | exact ih0 _ _ _ _ _ _ _ _ _ _ _ _ _ _ _ _ _ _ _ _ _
      | exact ih1 _ _ _ _ _ _ _ _ _ _ _ _ _ _
      | exact ih2 _ _ _ _ _
      | exact laws_eqDyadic.mono _ _ _ _ _ _ _
      | exact laws_heldDyadic.mono _ _ _ _ _
      | exact laws_markDyadic.mono _ _ _ _ _
      | exact laws_toDyadic.mono _ _ _ _
      | exact spec_AddDyadics.mono _ _ _ _ _ _ _
      | exact LeO.none _
      | refine LeO.ite ?_ ?_
      | refine LeO.bind ?_ (fun _ => ?_)
    · intro y0 y1 y2 y3 y4
      unfold laws_FnExactAddDyadics.j2
      repeat' first
      | (with_reducible exact ih0 _ _ _ _ _ _ _ _ _ _ _ _ _ _ _ _ _ _ _ _ _)
      | (with_reducible exact ih1 _ _ _ _ _ _ _ _ _ _ _ _ _ _)
      | (with_reducible exact ih2 _ _ _ _ _)
      | (with_reducible exact laws_eqDyadic.mono _ _ _ _ _ _ _)
      | (with_reducible exact laws_heldDyadic.mono _ _ _ _ _)
      | (with_reducible exact laws_markDyadic.mono _ _ _ _ _)
      | (with_reducible exact laws_toDyadic.mono _ _ _ _)
      | (with_reducible exact spec_AddDyadics.mono _ _ _ _ _ _ _)
      | (with_reducible exact LeO.refl _)
      | (with_reducible exact LeO.none _)
      | (with_reducible refine LeO.ite ?_ ?_)
      | (with_reducible refine LeO.bind ?_ (fun _ => ?_))
      | exact ih0 _ _ _ _ _ _ _ _ _ _ _ _ _ _ _ _ _ _ _ _ _
      | exact ih1 _ _ _ _ _ _ _ _ _ _ _ _ _ _
      | exact ih2 _ _ _ _ _
      | exact laws_eqDyadic.mono _ _ _ _ _ _ _
      | exact laws_heldDyadic.mono _ _ _ _ _
      | exact laws_markDyadic.mono _ _ _ _ _
      | exact laws_toDyadic.mono _ _ _ _
      | exact spec_AddDyadics.mono _ _ _ _ _ _ _
      | exact LeO.none _
      | refine LeO.ite ?_ ?_
      | refine LeO.bind ?_ (fun _ => ?_)
theorem laws_FnExactAddDyadics.mono : ∀ a0 a1 a2 a3 a4 a5 k, LeO (laws_FnExactAddDyadics.f k a0 a1 a2 a3 a4 a5) (laws_FnExactAddDyadics.f (k + 1) a0 a1 a2 a3 a4 a5) := by
  intro a0 a1 a2 a3 a4 a5 k
  obtain ⟨ih0, ih1, ih2⟩ := laws_FnExactAddDyadics.mono_l k
  unfold laws_FnExactAddDyadics.f
  repeat' first
      | (with_reducible exact ih0 _ _ _ _ _ _ _ _ _ _ _ _ _ _ _ _ _ _ _ _ _)
      | (with_reducible exact ih1 _ _ _ _ _ _ _ _ _ _ _ _ _ _)
      | (with_reducible exact ih2 _ _ _ _ _)
      | (with_reducible exact laws_eqDyadic.mono _ _ _ _ _ _ _)
      | (with_reducible exact laws_heldDyadic.mono _ _ _ _ _)
      | (with_reducible exact laws_markDyadic.mono _ _ _ _ _)
      | (with_reducible exact laws_toDyadic.mono _ _ _ _)
      | (with_reducible exact spec_AddDyadics.mono _ _ _ _ _ _ _)
      | (with_reducible exact LeO.refl _)
      | (with_reducible exact LeO.none _)
      | (with_reducible refine LeO.ite ?_ ?_)
      | (with_reducible refine LeO.bind ?_ (fun _ => ?_))
      | exact ih0 _ _ _ _ _ _ _ _ _ _ _ _ _ _ _ _ _ _ _ _ _
      | exact ih1 _ _ _ _ _ _ _ _ _ _ _ _ _ _
      | exact ih2 _ _ _ _ _
      | exact laws_eqDyadic.mono _ _ _ _ _ _ _
      | exact laws_heldDyadic.mono _ _ _ _ _
      | exact laws_markDyadic.mono _ _ _ _ _
      | exact laws_toDyadic.mono _ _ _ _
      | exact spec_AddDyadics.mono _ _ _ _ _ _ _
      | exact LeO.none _
      | refine LeO.ite ?_ ?_
      | refine LeO.bind ?_ (fun _ => ?_)
def laws_FnExactAddDyadics.T8 : Bool × List (List Nat × List Nat) := (true, [([], []), ([0], [0]), ([], []), ([2, 1], [2]), ([1, 3, 3], [1, 3]), ([4], [4]), ([5], [5]), ([5], [5]), ([], []), ([8, 6, 4, 0, 1, 2, 3, 4, 5, 6, 8], [6, 8]), ([7, 9, 0, 1, 2, 3, 4, 5, 6, 7, 8, 9], [7])])
def laws_FnExactAddDyadics.B8 : List Nat := [0, 1, 0, 7, 15, 31, 63, 63, 0, 383, 1023]
theorem laws_FnExactAddDyadics.tab8 : rtab .any (opsOf Tryd.f3 8) = laws_FnExactAddDyadics.T8 := by kernel_rfl
theorem laws_FnExactAddDyadics.bits8 : waitsOk laws_FnExactAddDyadics.T8.2 laws_FnExactAddDyadics.B8 = true := by kernel_rfl
def laws_FnExactAddDyadics.T31 : Bool × List (List Nat × List Nat) := (true, [([], []), ([0], [0]), ([], []), ([2, 1], [2]), ([1, 3, 3], [1, 3]), ([4], [4]), ([5], [5]), ([5], [5]), ([], []), ([8, 6, 4, 0, 1, 2, 3, 4, 5, 6, 8], [6, 8]), ([7, 9, 0, 1, 2, 3, 4, 5, 6, 7, 8, 9], [7])])
def laws_FnExactAddDyadics.B31 : List Nat := [0, 1, 0, 7, 15, 31, 63, 63, 0, 383, 1023]
theorem laws_FnExactAddDyadics.tab31 : rtab .any (opsOf Tryd.f3 31) = laws_FnExactAddDyadics.T31 := by kernel_rfl
theorem laws_FnExactAddDyadics.bits31 : waitsOk laws_FnExactAddDyadics.T31.2 laws_FnExactAddDyadics.B31 = true := by kernel_rfl
set_option maxHeartbeats 8000000 in
set_option maxRecDepth 100000 in
theorem laws_FnExactAddDyadics.calls (k : Nat) (a0_0 : Int) (A0_1 : Option Addr) (c0_1 : Nat) (l0_1 : List Int) (a0_2 : Int) (a1_0 : Int) (A1_1 : Option Addr) (c1_1 : Nat) (l1_1 : List Int) (a1_2 : Int) (r : Bool) (w : World) (hr0_1 : Kd.C (Kd.int .i64) w A0_1 l0_1.length l0_1) (hc0_1 : l0_1.length ≤ c0_1) (hr1_1 : Kd.C (Kd.int .i64) w A1_1 l1_1.length l1_1) (hc1_1 : l1_1.length ≤ c1_1) (hT : Go.Proofs.YthddlechoibdkaaDoor.Big.Tab w) (h : laws_FnExactAddDyadics.f k a0_0 l0_1 a0_2 a1_0 l1_1 a1_2 = some r) :
  Calls Tryd.prog 3 #[.agg #[.int .i64 a0_0, .slice A0_1 l0_1.length c0_1, .int .i64 a0_2], .agg #[.int .i64 a1_0, .slice A1_1 l1_1.length c1_1, .int .i64 a1_2]] w fun e w' => e = .returned (.bool r) ∧ Below w.heap.size w w' := by
 have HTab := Aside0.mk hT; clear hT
 have hu26 := Tryd.underlying26; have hu30 := Tryd.underlying30; have HR0_1 := Aside0.mk hr0_1; have HC0_1 := Aside0.mk hc0_1; clear hr0_1 hc0_1; have HR1_1 := Aside0.mk hr1_1; have HC1_1 := Aside0.mk hc1_1; clear hr1_1 hc1_1; have HB := am_ (Below.refl w.heap.size w)
 have H : ((laws_szDyadic.f a0_0 l0_1 a0_2 1048576).bind fun t338 => (if t338 < 0 then (some true) else ((laws_szDyadic.f a1_0 l1_1 a1_2 t338).bind fun t339 => (if t339 < 0 then (some true) else ((laws_toDyadic.f k a0_0 l0_1 a0_2).bind fun bt340 => ((laws_toDyadic.f k a1_0 l1_1 a1_2).bind fun bt345 => ((spec_AddDyadics.f k bt340.1 bt340.2.1 bt340.2.2 bt345.1 bt345.2.1 bt345.2.2).bind fun bt350 => ((laws_toDyadic.f k a0_0 l0_1 a0_2).bind fun bt357 => ((laws_toDyadic.f k a1_0 l1_1 a1_2).bind fun bt363 => ((impl_AddDyadics.f bt357.1 bt357.2.1 bt357.2.2 bt363.1 bt363.2.1 bt363.2.2).bind fun bt369 => ((laws_eqDyadic.f k bt369.1 bt369.2.1 bt369.2.2.1 bt350.1 bt350.2.1 bt350.2.2.1).bind fun t376 => (if t376 = true then (laws_FnExactAddDyadics.j0 k bt350.2.2.2 bt369.2.2.2 (bt369.2.2.2 != bt350.2.2.2) a0_0 l0_1 a0_2 a1_0 l1_1 a1_2 bt350.1 bt350.2.1 bt350.2.2.1 bt357.1 bt357.2.1 bt357.2.2 bt363.1 bt363.2.1 bt363.2.2 bt369.1 bt369.2.1 bt369.2.2.1) else (laws_FnExactAddDyadics.j0 k bt350.2.2.2 bt369.2.2.2 true a0_0 l0_1 a0_2 a1_0 l1_1 a1_2 bt350.1 bt350.2.1 bt350.2.2.1 bt357.1 bt357.2.1 bt357.2.2 bt363.1 bt363.2.1 bt363.2.2 bt369.1 bt369.2.1 bt369.2.2.1))))))))))))) = some r := h
 clear h
 replace H := Option.bind_eq_some_iff.mp H
 obtain ⟨t338, A30, H⟩ := H
 replace H : (if t338 < 0 then (some true) else ((laws_szDyadic.f a1_0 l1_1 a1_2 t338).bind fun t339 => (if t339 < 0 then (some true) else ((laws_toDyadic.f k a0_0 l0_1 a0_2).bind fun bt340 => ((laws_toDyadic.f k a1_0 l1_1 a1_2).bind fun bt345 => ((spec_AddDyadics.f k bt340.1 bt340.2.1 bt340.2.2 bt345.1 bt345.2.1 bt345.2.2).bind fun bt350 => ((laws_toDyadic.f k a0_0 l0_1 a0_2).bind fun bt357 => ((laws_toDyadic.f k a1_0 l1_1 a1_2).bind fun bt363 => ((impl_AddDyadics.f bt357.1 bt357.2.1 bt357.2.2 bt363.1 bt363.2.1 bt363.2.2).bind fun bt369 => ((laws_eqDyadic.f k bt369.1 bt369.2.1 bt369.2.2.1 bt350.1 bt350.2.1 bt350.2.2.1).bind fun t376 => (if t376 = true then (laws_FnExactAddDyadics.j0 k bt350.2.2.2 bt369.2.2.2 (bt369.2.2.2 != bt350.2.2.2) a0_0 l0_1 a0_2 a1_0 l1_1 a1_2 bt350.1 bt350.2.1 bt350.2.2.1 bt357.1 bt357.2.1 bt357.2.2 bt363.1 bt363.2.1 bt363.2.2 bt369.1 bt369.2.1 bt369.2.2.1) else (laws_FnExactAddDyadics.j0 k bt350.2.2.2 bt369.2.2.2 true a0_0 l0_1 a0_2 a1_0 l1_1 a1_2 bt350.1 bt350.2.1 bt350.2.2.1 bt357.1 bt357.2.1 bt357.2.2 bt363.1 bt363.2.1 bt363.2.2 bt369.1 bt369.2.1 bt369.2.2.1)))))))))))) = some r := H
 have A3 := Aside0.mk A30; clear A30
 by_cases c4 : t338 < 0
 ·rw [if_pos c4] at H
  have c4b0 : decide (t338 < 0) = true := decide_eq_true c4
  clear c4; obtain rfl := Option.some.inj H
  go_enter Tryd.func3, Tryd.ntmps3
  go_wp2_with (first | ((with_reducible refine gate_dst (N := 2) rfl ?_); refine box_event ?hg (N := 2) ?hd (cs := #[.int .i64 a0_0, .slice A0_1 l0_1.length c0_1, .int .i64 a0_2]) (t := 26) ?hr ?_; (case hd => rfl); (case hg => rfl); (case hr => first | (go_simp; done) | (go_simp; rfl)); intro gb336 hg w5 hbox hb; have BK336 := am_ (hbox); have GW336 := am_ (gs_ hg HB); have GE336 := am_ (gs_ hg HB); replace HB := am_ (below_step (bl_ HB) hb); clear hb hbox hg) | ((with_reducible refine gate_dst (N := 3) rfl ?_); refine box_event ?hg (N := 3) ?hd (cs := #[.int .i64 a1_0, .slice A1_1 l1_1.length c1_1, .int .i64 a1_2]) (t := 26) ?hr ?_; (case hd => rfl); (case hg => rfl); (case hr => first | (go_simp; done) | (go_simp; rfl)); intro gb337 hg w6 hbox hb; have BK337 := am_ (hbox); have GW337 := am_ (gs_ hg HB); have GE337 := am_ (gs_ hg HB); have NB336_337 := am_ (nl_ hg BK336); have NB337_336 := am_ (ng_ hg BK336); replace BK336 := am_ (blk_below (bk_ BK336) hb); replace HB := am_ (below_step (bl_ HB) hb); clear hb hbox hg; have hnb7 := NB336_337.out; have hnc7 := NB337_336.out; have hcz8_0 : w6.cell? ⟨gb336, 0, none⟩ = some (.int .i64 a0_0) := bc_ BK336 0; have hcz8_1 : w6.cell? ⟨gb336, 1, none⟩ = some (.slice A0_1 l0_1.length c0_1) := bc_ BK336 1; have hcz8_2 : w6.cell? ⟨gb336, 2, none⟩ = some (.int .i64 a0_2) := bc_ BK336 2; have hfz8_0 := blk_frozen BK336.out 0; have hfz8_1 := blk_frozen BK336.out 1; have hfz8_2 := blk_frozen BK336.out 2) | ((with_reducible refine gate_callee (f := 11) rfl ?_); refine goesL_ (some 19) rfl rfl Tryd.func11 (by kernel_rfl) rfl #[.agg #[.int .i64 a0_0, .slice A0_1 l0_1.length c0_1, .int .i64 a0_2], .int .i64 1048576] rfl ma_ ?_; (with_reducible refine (laws_szDyadic.calls a0_0 _ _ l0_1 a0_2 1048576 t338 _ ?side1 ?side2 A3.out).mono ?_); (case side1 => exact cb_ HR0_1 HB); (case side2 => exact HC0_1.out); rintro e w9 ⟨rfl, hb⟩; refine ⟨_, rfl, ?_⟩; replace BK336 := am_ (blk_below (bk_ BK336) hb); replace BK337 := am_ (blk_below (bk_ BK337) hb); replace HB := am_ (below_step (bl_ HB) hb); (try clear hb); (try clear hb2); (try clear hk); (try clear hi)))
  go_ret
  exact ⟨by first | rfl | (simp [errW_none, errW_some] <;> rfl) | (simp [*, errW_none, errW_some] <;> rfl), bl_ HB⟩
 ·rw [if_neg c4] at H
  have c4b0 : decide (t338 < 0) = false := decide_eq_false c4
  clear c4
  replace H := Option.bind_eq_some_iff.mp H
  obtain ⟨t339, A100, H⟩ := H
  replace H : (if t339 < 0 then (some true) else ((laws_toDyadic.f k a0_0 l0_1 a0_2).bind fun bt340 => ((laws_toDyadic.f k a1_0 l1_1 a1_2).bind fun bt345 => ((spec_AddDyadics.f k bt340.1 bt340.2.1 bt340.2.2 bt345.1 bt345.2.1 bt345.2.2).bind fun bt350 => ((laws_toDyadic.f k a0_0 l0_1 a0_2).bind fun bt357 => ((laws_toDyadic.f k a1_0 l1_1 a1_2).bind fun bt363 => ((impl_AddDyadics.f bt357.1 bt357.2.1 bt357.2.2 bt363.1 bt363.2.1 bt363.2.2).bind fun bt369 => ((laws_eqDyadic.f k bt369.1 bt369.2.1 bt369.2.2.1 bt350.1 bt350.2.1 bt350.2.2.1).bind fun t376 => (if t376 = true then (laws_FnExactAddDyadics.j0 k bt350.2.2.2 bt369.2.2.2 (bt369.2.2.2 != bt350.2.2.2) a0_0 l0_1 a0_2 a1_0 l1_1 a1_2 bt350.1 bt350.2.1 bt350.2.2.1 bt357.1 bt357.2.1 bt357.2.2 bt363.1 bt363.2.1 bt363.2.2 bt369.1 bt369.2.1 bt369.2.2.1) else (laws_FnExactAddDyadics.j0 k bt350.2.2.2 bt369.2.2.2 true a0_0 l0_1 a0_2 a1_0 l1_1 a1_2 bt350.1 bt350.2.1 bt350.2.2.1 bt357.1 bt357.2.1 bt357.2.2 bt363.1 bt363.2.1 bt363.2.2 bt369.1 bt369.2.1 bt369.2.2.1)))))))))) = some r := H
  have A10 := Aside0.mk A100; clear A100
  by_cases c11 : t339 < 0
  ·rw [if_pos c11] at H
   have c11b0 : decide (t339 < 0) = true := decide_eq_true c11
   clear c11; obtain rfl := Option.some.inj H
   go_enter Tryd.func3, Tryd.ntmps3
   go_wp2_with (first | ((with_reducible refine gate_dst (N := 2) rfl ?_); refine box_event ?hg (N := 2) ?hd (cs := #[.int .i64 a0_0, .slice A0_1 l0_1.length c0_1, .int .i64 a0_2]) (t := 26) ?hr ?_; (case hd => rfl); (case hg => rfl); (case hr => first | (go_simp; done) | (go_simp; rfl)); intro gb336 hg w12 hbox hb; have BK336 := am_ (hbox); have GW336 := am_ (gs_ hg HB); have GE336 := am_ (gs_ hg HB); replace HB := am_ (below_step (bl_ HB) hb); clear hb hbox hg) | ((with_reducible refine gate_dst (N := 3) rfl ?_); refine box_event ?hg (N := 3) ?hd (cs := #[.int .i64 a1_0, .slice A1_1 l1_1.length c1_1, .int .i64 a1_2]) (t := 26) ?hr ?_; (case hd => rfl); (case hg => rfl); (case hr => first | (go_simp; done) | (go_simp; rfl)); intro gb337 hg w13 hbox hb; have BK337 := am_ (hbox); have GW337 := am_ (gs_ hg HB); have GE337 := am_ (gs_ hg HB); have NB336_337 := am_ (nl_ hg BK336); have NB337_336 := am_ (ng_ hg BK336); replace BK336 := am_ (blk_below (bk_ BK336) hb); replace HB := am_ (below_step (bl_ HB) hb); clear hb hbox hg; have hnb14 := NB336_337.out; have hnc14 := NB337_336.out; have hcz15_0 : w13.cell? ⟨gb336, 0, none⟩ = some (.int .i64 a0_0) := bc_ BK336 0; have hcz15_1 : w13.cell? ⟨gb336, 1, none⟩ = some (.slice A0_1 l0_1.length c0_1) := bc_ BK336 1; have hcz15_2 : w13.cell? ⟨gb336, 2, none⟩ = some (.int .i64 a0_2) := bc_ BK336 2; have hfz15_0 := blk_frozen BK336.out 0; have hfz15_1 := blk_frozen BK336.out 1; have hfz15_2 := blk_frozen BK336.out 2) | ((with_reducible refine gate_callee (f := 11) rfl ?_); refine goesL_ (some 19) rfl rfl Tryd.func11 (by kernel_rfl) rfl #[.agg #[.int .i64 a0_0, .slice A0_1 l0_1.length c0_1, .int .i64 a0_2], .int .i64 1048576] rfl ma_ ?_; (with_reducible refine (laws_szDyadic.calls a0_0 _ _ l0_1 a0_2 1048576 t338 _ ?side1 ?side2 A3.out).mono ?_); (case side1 => exact cb_ HR0_1 HB); (case side2 => exact HC0_1.out); rintro e w16 ⟨rfl, hb⟩; refine ⟨_, rfl, ?_⟩; replace BK336 := am_ (blk_below (bk_ BK336) hb); replace BK337 := am_ (blk_below (bk_ BK337) hb); replace HB := am_ (below_step (bl_ HB) hb); (try clear hb); (try clear hb2); (try clear hk); (try clear hi); have hcz17_0 : w16.cell? ⟨gb337, 0, none⟩ = some (.int .i64 a1_0) := bc_ BK337 0; have hcz17_1 : w16.cell? ⟨gb337, 1, none⟩ = some (.slice A1_1 l1_1.length c1_1) := bc_ BK337 1; have hcz17_2 : w16.cell? ⟨gb337, 2, none⟩ = some (.int .i64 a1_2) := bc_ BK337 2; have hfz17_0 := blk_frozen BK337.out 0; have hfz17_1 := blk_frozen BK337.out 1; have hfz17_2 := blk_frozen BK337.out 2) | ((with_reducible refine gate_callee (f := 11) rfl ?_); refine goesL_ (some 24) rfl rfl Tryd.func11 (by kernel_rfl) rfl #[.agg #[.int .i64 a1_0, .slice A1_1 l1_1.length c1_1, .int .i64 a1_2], .int .i64 t338] rfl ma_ ?_; (with_reducible refine (laws_szDyadic.calls a1_0 _ _ l1_1 a1_2 t338 t339 _ ?side1 ?side2 A10.out).mono ?_); (case side1 => exact cb_ HR1_1 HB); (case side2 => exact HC1_1.out); rintro e w18 ⟨rfl, hb⟩; refine ⟨_, rfl, ?_⟩; replace BK336 := am_ (blk_below (bk_ BK336) hb); replace BK337 := am_ (blk_below (bk_ BK337) hb); replace HB := am_ (below_step (bl_ HB) hb); (try clear hb); (try clear hb2); (try clear hk); (try clear hi)))
   go_ret
   exact ⟨by first | rfl | (simp [errW_none, errW_some] <;> rfl) | (simp [*, errW_none, errW_some] <;> rfl), bl_ HB⟩
  ·rw [if_neg c11] at H
   have c11b0 : decide (t339 < 0) = false := decide_eq_false c11
   clear c11
   replace H := Option.bind_eq_some_iff.mp H
   obtain ⟨⟨t340, t341, t344⟩, A190, H⟩ := H
   replace H : ((laws_toDyadic.f k a1_0 l1_1 a1_2).bind fun bt345 => ((spec_AddDyadics.f k t340 t341 t344 bt345.1 bt345.2.1 bt345.2.2).bind fun bt350 => ((laws_toDyadic.f k a0_0 l0_1 a0_2).bind fun bt357 => ((laws_toDyadic.f k a1_0 l1_1 a1_2).bind fun bt363 => ((impl_AddDyadics.f bt357.1 bt357.2.1 bt357.2.2 bt363.1 bt363.2.1 bt363.2.2).bind fun bt369 => ((laws_eqDyadic.f k bt369.1 bt369.2.1 bt369.2.2.1 bt350.1 bt350.2.1 bt350.2.2.1).bind fun t376 => (if t376 = true then (laws_FnExactAddDyadics.j0 k bt350.2.2.2 bt369.2.2.2 (bt369.2.2.2 != bt350.2.2.2) a0_0 l0_1 a0_2 a1_0 l1_1 a1_2 bt350.1 bt350.2.1 bt350.2.2.1 bt357.1 bt357.2.1 bt357.2.2 bt363.1 bt363.2.1 bt363.2.2 bt369.1 bt369.2.1 bt369.2.2.1) else (laws_FnExactAddDyadics.j0 k bt350.2.2.2 bt369.2.2.2 true a0_0 l0_1 a0_2 a1_0 l1_1 a1_2 bt350.1 bt350.2.1 bt350.2.2.1 bt357.1 bt357.2.1 bt357.2.2 bt363.1 bt363.2.1 bt363.2.2 bt369.1 bt369.2.1 bt369.2.2.1)))))))) = some r := H
   have A19 := Aside0.mk A190; clear A190
   replace H := Option.bind_eq_some_iff.mp H
   obtain ⟨⟨t345, t346, t349⟩, A200, H⟩ := H
   replace H : ((spec_AddDyadics.f k t340 t341 t344 t345 t346 t349).bind fun bt350 => ((laws_toDyadic.f k a0_0 l0_1 a0_2).bind fun bt357 => ((laws_toDyadic.f k a1_0 l1_1 a1_2).bind fun bt363 => ((impl_AddDyadics.f bt357.1 bt357.2.1 bt357.2.2 bt363.1 bt363.2.1 bt363.2.2).bind fun bt369 => ((laws_eqDyadic.f k bt369.1 bt369.2.1 bt369.2.2.1 bt350.1 bt350.2.1 bt350.2.2.1).bind fun t376 => (if t376 = true then (laws_FnExactAddDyadics.j0 k bt350.2.2.2 bt369.2.2.2 (bt369.2.2.2 != bt350.2.2.2) a0_0 l0_1 a0_2 a1_0 l1_1 a1_2 bt350.1 bt350.2.1 bt350.2.2.1 bt357.1 bt357.2.1 bt357.2.2 bt363.1 bt363.2.1 bt363.2.2 bt369.1 bt369.2.1 bt369.2.2.1) else (laws_FnExactAddDyadics.j0 k bt350.2.2.2 bt369.2.2.2 true a0_0 l0_1 a0_2 a1_0 l1_1 a1_2 bt350.1 bt350.2.1 bt350.2.2.1 bt357.1 bt357.2.1 bt357.2.2 bt363.1 bt363.2.1 bt363.2.2 bt369.1 bt369.2.1 bt369.2.2.1))))))) = some r := H
   have A20 := Aside0.mk A200; clear A200
   replace H := Option.bind_eq_some_iff.mp H
   obtain ⟨⟨t350, t351, t354, t355⟩, A210, H⟩ := H
   replace H : ((laws_toDyadic.f k a0_0 l0_1 a0_2).bind fun bt357 => ((laws_toDyadic.f k a1_0 l1_1 a1_2).bind fun bt363 => ((impl_AddDyadics.f bt357.1 bt357.2.1 bt357.2.2 bt363.1 bt363.2.1 bt363.2.2).bind fun bt369 => ((laws_eqDyadic.f k bt369.1 bt369.2.1 bt369.2.2.1 t350 t351 t354).bind fun t376 => (if t376 = true then (laws_FnExactAddDyadics.j0 k t355 bt369.2.2.2 (bt369.2.2.2 != t355) a0_0 l0_1 a0_2 a1_0 l1_1 a1_2 t350 t351 t354 bt357.1 bt357.2.1 bt357.2.2 bt363.1 bt363.2.1 bt363.2.2 bt369.1 bt369.2.1 bt369.2.2.1) else (laws_FnExactAddDyadics.j0 k t355 bt369.2.2.2 true a0_0 l0_1 a0_2 a1_0 l1_1 a1_2 t350 t351 t354 bt357.1 bt357.2.1 bt357.2.2 bt363.1 bt363.2.1 bt363.2.2 bt369.1 bt369.2.1 bt369.2.2.1)))))) = some r := H
   have A21 := Aside0.mk A210; clear A210
   replace H := Option.bind_eq_some_iff.mp H
   obtain ⟨⟨t357, t358, t361⟩, A220, H⟩ := H
   replace H : ((laws_toDyadic.f k a1_0 l1_1 a1_2).bind fun bt363 => ((impl_AddDyadics.f t357 t358 t361 bt363.1 bt363.2.1 bt363.2.2).bind fun bt369 => ((laws_eqDyadic.f k bt369.1 bt369.2.1 bt369.2.2.1 t350 t351 t354).bind fun t376 => (if t376 = true then (laws_FnExactAddDyadics.j0 k t355 bt369.2.2.2 (bt369.2.2.2 != t355) a0_0 l0_1 a0_2 a1_0 l1_1 a1_2 t350 t351 t354 t357 t358 t361 bt363.1 bt363.2.1 bt363.2.2 bt369.1 bt369.2.1 bt369.2.2.1) else (laws_FnExactAddDyadics.j0 k t355 bt369.2.2.2 true a0_0 l0_1 a0_2 a1_0 l1_1 a1_2 t350 t351 t354 t357 t358 t361 bt363.1 bt363.2.1 bt363.2.2 bt369.1 bt369.2.1 bt369.2.2.1))))) = some r := H
   have A22 := Aside0.mk A220; clear A220
   replace H := Option.bind_eq_some_iff.mp H
   obtain ⟨⟨t363, t364, t367⟩, A230, H⟩ := H
   replace H : ((impl_AddDyadics.f t357 t358 t361 t363 t364 t367).bind fun bt369 => ((laws_eqDyadic.f k bt369.1 bt369.2.1 bt369.2.2.1 t350 t351 t354).bind fun t376 => (if t376 = true then (laws_FnExactAddDyadics.j0 k t355 bt369.2.2.2 (bt369.2.2.2 != t355) a0_0 l0_1 a0_2 a1_0 l1_1 a1_2 t350 t351 t354 t357 t358 t361 t363 t364 t367 bt369.1 bt369.2.1 bt369.2.2.1) else (laws_FnExactAddDyadics.j0 k t355 bt369.2.2.2 true a0_0 l0_1 a0_2 a1_0 l1_1 a1_2 t350 t351 t354 t357 t358 t361 t363 t364 t367 bt369.1 bt369.2.1 bt369.2.2.1)))) = some r := H
   have A23 := Aside0.mk A230; clear A230
   replace H := Option.bind_eq_some_iff.mp H
   obtain ⟨⟨t369, t370, t373, t374⟩, A240, H⟩ := H
   replace H : ((laws_eqDyadic.f k t369 t370 t373 t350 t351 t354).bind fun t376 => (if t376 = true then (laws_FnExactAddDyadics.j0 k t355 t374 (t374 != t355) a0_0 l0_1 a0_2 a1_0 l1_1 a1_2 t350 t351 t354 t357 t358 t361 t363 t364 t367 t369 t370 t373) else (laws_FnExactAddDyadics.j0 k t355 t374 true a0_0 l0_1 a0_2 a1_0 l1_1 a1_2 t350 t351 t354 t357 t358 t361 t363 t364 t367 t369 t370 t373))) = some r := H
   have A24 := Aside0.mk A240; clear A240; have HC25 := Aside0.mk H; clear H
   go_enter Tryd.func3, Tryd.ntmps3
   try go_wp2_with (first | ((with_reducible refine gate_dst (N := 2) rfl ?_); refine box_event ?hg (N := 2) ?hd (cs := #[.int .i64 a0_0, .slice A0_1 l0_1.length c0_1, .int .i64 a0_2]) (t := 26) ?hr ?_; (case hd => rfl); (case hg => rfl); (case hr => first | (go_simp; done) | (go_simp; rfl)); intro gb336 hg w26 hbox hb; have BK336 := am_ (hbox); have GW336 := am_ (gs_ hg HB); have GE336 := am_ (gs_ hg HB); replace HB := am_ (below_step (bl_ HB) hb); clear hb hbox hg) | ((with_reducible refine gate_dst (N := 3) rfl ?_); refine box_event ?hg (N := 3) ?hd (cs := #[.int .i64 a1_0, .slice A1_1 l1_1.length c1_1, .int .i64 a1_2]) (t := 26) ?hr ?_; (case hd => rfl); (case hg => rfl); (case hr => first | (go_simp; done) | (go_simp; rfl)); intro gb337 hg w27 hbox hb; have BK337 := am_ (hbox); have GW337 := am_ (gs_ hg HB); have GE337 := am_ (gs_ hg HB); have NB336_337 := am_ (nl_ hg BK336); have NB337_336 := am_ (ng_ hg BK336); replace BK336 := am_ (blk_below (bk_ BK336) hb); replace HB := am_ (below_step (bl_ HB) hb); clear hb hbox hg; have hnb28 := NB336_337.out; have hnc28 := NB337_336.out; have hcz29_0 : w27.cell? ⟨gb336, 0, none⟩ = some (.int .i64 a0_0) := bc_ BK336 0; have hcz29_1 : w27.cell? ⟨gb336, 1, none⟩ = some (.slice A0_1 l0_1.length c0_1) := bc_ BK336 1; have hcz29_2 : w27.cell? ⟨gb336, 2, none⟩ = some (.int .i64 a0_2) := bc_ BK336 2; have hfz29_0 := blk_frozen BK336.out 0; have hfz29_1 := blk_frozen BK336.out 1; have hfz29_2 := blk_frozen BK336.out 2) | ((with_reducible refine gate_callee (f := 11) rfl ?_); refine goesL_ (some 19) rfl rfl Tryd.func11 (by kernel_rfl) rfl #[.agg #[.int .i64 a0_0, .slice A0_1 l0_1.length c0_1, .int .i64 a0_2], .int .i64 1048576] rfl ma_ ?_; (with_reducible refine (laws_szDyadic.calls a0_0 _ _ l0_1 a0_2 1048576 t338 _ ?side1 ?side2 A3.out).mono ?_); (case side1 => exact cb_ HR0_1 HB); (case side2 => exact HC0_1.out); rintro e w30 ⟨rfl, hb⟩; refine ⟨_, rfl, ?_⟩; replace BK336 := am_ (blk_below (bk_ BK336) hb); replace BK337 := am_ (blk_below (bk_ BK337) hb); replace HB := am_ (below_step (bl_ HB) hb); (try clear hb); (try clear hb2); (try clear hk); (try clear hi); have hcz31_0 : w30.cell? ⟨gb337, 0, none⟩ = some (.int .i64 a1_0) := bc_ BK337 0; have hcz31_1 : w30.cell? ⟨gb337, 1, none⟩ = some (.slice A1_1 l1_1.length c1_1) := bc_ BK337 1; have hcz31_2 : w30.cell? ⟨gb337, 2, none⟩ = some (.int .i64 a1_2) := bc_ BK337 2; have hfz31_0 := blk_frozen BK337.out 0; have hfz31_1 := blk_frozen BK337.out 1; have hfz31_2 := blk_frozen BK337.out 2) | ((with_reducible refine gate_callee (f := 11) rfl ?_); refine goesL_ (some 24) rfl rfl Tryd.func11 (by kernel_rfl) rfl #[.agg #[.int .i64 a1_0, .slice A1_1 l1_1.length c1_1, .int .i64 a1_2], .int .i64 t338] rfl ma_ ?_; (with_reducible refine (laws_szDyadic.calls a1_0 _ _ l1_1 a1_2 t338 t339 _ ?side1 ?side2 A10.out).mono ?_); (case side1 => exact cb_ HR1_1 HB); (case side2 => exact HC1_1.out); rintro e w32 ⟨rfl, hb⟩; refine ⟨_, rfl, ?_⟩; replace BK336 := am_ (blk_below (bk_ BK336) hb); replace BK337 := am_ (blk_below (bk_ BK337) hb); replace HB := am_ (below_step (bl_ HB) hb); (try clear hb); (try clear hb2); (try clear hk); (try clear hi)))
   have n0_ := am_ (blk_drew BK336.out); have n1_ := am_ (blk_drew BK337.out); have n2_ := am_ (below_drew1 HB.out); clear BK336 BK337 HB; have BK336 := n0_; have BK337 := n1_; have HB := n2_; clear n0_ n1_ n2_
   refine start_ (n := 11) (S := fun w' => w'.cell? ⟨gb336, 0, none⟩ = some (.int .i64 a0_0) ∧ w'.cell? ⟨gb336, 1, none⟩ = some (.slice A0_1 l0_1.length c0_1) ∧ w'.cell? ⟨gb336, 2, none⟩ = some (.int .i64 a0_2) ∧ w'.cell? ⟨gb337, 0, none⟩ = some (.int .i64 a1_0) ∧ w'.cell? ⟨gb337, 1, none⟩ = some (.slice A1_1 l1_1.length c1_1) ∧ w'.cell? ⟨gb337, 2, none⟩ = some (.int .i64 a1_2)) (ds := []) #[false, false, false, false, false, false, false, false, false, false, false] (by kernel_rfl) rfl rfl ⟨bc_ BK336 0, bc_ BK336 1, bc_ BK336 2, bc_ BK337 0, bc_ BK337 1, bc_ BK337 2⟩ (fun hHeld => ?_); refine with_tabW laws_FnExactAddDyadics.tab8 laws_FnExactAddDyadics.bits8 (fun HT_ HW_ => ?_)
   generalize w32.drew = w33 at BK336 BK337 HB hHeld ⊢
   refine take_ (i := 0) (N := some 28) (v := ?_) (a' := ?_) #[true, false, false, false, false, false, false, false, false, false, false] rfl rfl (take_ofW HT_.out HW_.out (by kernel_rfl)) (fun _ _ _ h => h) (Or.inl ⟨by rfl, ?_⟩) hHeld ?_ ?_
   rotate_left
   ·rintro w' ⟨s0, s1, s2, s3, s4, s5⟩
    go_simp
    with_reducible rfl
   rotate_left
   ·exact nm_
   refine take_ (i := 2) (N := some 30) (v := ?_) (a' := ?_) #[true, false, true, false, false, false, false, false, false, false, false] rfl rfl (take_ofW HT_.out HW_.out (by kernel_rfl)) (fun _ _ _ h => h) (Or.inl ⟨by rfl, ?_⟩) hHeld ?_ ?_
   rotate_left
   ·rintro w' ⟨s0, s1, s2, s3, s4, s5⟩
    go_simp
    with_reducible rfl
   rotate_left
   ·exact nm_
   refine join_ (σ := Value × Value × Value × Nat) 2 #[true, true, true, true, true, true, true, true, true, false, false] (fun s_ => [(29, .agg #[.int .i64 t340, s_.1, .int .i64 t344]), (31, .agg #[.int .i64 t345, s_.2.1, .int .i64 t349]), (32, .tuple #[.agg #[.int .i64 t350, s_.2.2.1, .int .i64 t354], .int .i64 t355]), (6, .pointer (some ⟨s_.2.2.2, 0, none⟩)), (27, .tuple #[.agg #[.int .i64 t350, s_.2.2.1, .int .i64 t354], .int .i64 t355]), (33, .agg #[.int .i64 t350, s_.2.2.1, .int .i64 t354]), (34, .int .i64 t355)]) (fun s_ w' => (w'.cell? ⟨gb336, 0, none⟩ = some (.int .i64 a0_0) ∧ w'.cell? ⟨gb336, 1, none⟩ = some (.slice A0_1 l0_1.length c0_1) ∧ w'.cell? ⟨gb336, 2, none⟩ = some (.int .i64 a0_2) ∧ w'.cell? ⟨gb337, 0, none⟩ = some (.int .i64 a1_0) ∧ w'.cell? ⟨gb337, 1, none⟩ = some (.slice A1_1 l1_1.length c1_1) ∧ w'.cell? ⟨gb337, 2, none⟩ = some (.int .i64 a1_2)) ∧ (Kd.R (Kd.int .i64) 2 w' w.heap.size (fun k_ => some k_ ≠ (s_.2.1 : Value).ownBlock ∧ some k_ ≠ (s_.2.2.1 : Value).ownBlock) s_.1 t341) ∧ (Kd.R (Kd.int .i64) 2 w' w.heap.size (fun k_ => some k_ ≠ (s_.1 : Value).ownBlock ∧ some k_ ≠ (s_.2.2.1 : Value).ownBlock) s_.2.1 t346) ∧ (Kd.R (Kd.int .i64) 2 w' w.heap.size (fun k_ => some k_ ≠ (s_.1 : Value).ownBlock ∧ some k_ ≠ (s_.2.1 : Value).ownBlock) s_.2.2.1 t351) ∧ (w'.heap[gb336]? = some (.cells #[.int .i64 a0_0, .slice A0_1 l0_1.length c0_1, .int .i64 a0_2] 26 (0, 0))) ∧ (w'.heap[gb337]? = some (.cells #[.int .i64 a1_0, .slice A1_1 l1_1.length c1_1, .int .i64 a1_2] 26 (0, 0))) ∧ (w'.heap[s_.2.2.2]? = some (.cells #[.int .i64 0, .slice none 0 0, .int .i64 0] 30 (0, 0))) ∧ (w.heap.size ≤ s_.2.2.2) ∧ (w.heap.size ≤ s_.2.2.2) ∧ (gb336 ≠ s_.2.2.2) ∧ (s_.2.2.2 ≠ gb336) ∧ (gb337 ≠ s_.2.2.2) ∧ (s_.2.2.2 ≠ gb337) ∧ (Below w.heap.size w w')) ?_ ?_
   rotate_left
   ·intro hCont
    refine two_ (i := 1) (j := 8) (Ni := some 29) (Nj := some 6) #[true, true, true, false, false, false, false, false, false, false, false] #[true, false, true, false, false, false, false, false, true, false, false] rfl rfl rfl rfl (two_of HT_.out (by kernel_rfl)) (by decide) (by decide) (fun K hK => ?_) (fun K hK => ?_)
    ·skip
     refine goes_ Tryd.func13 (by kernel_rfl) rfl #[.agg #[.int .i64 a0_0, .slice A0_1 l0_1.length c0_1, .int .i64 a0_2]] (by rfl) rfl rfl ma_ ?_
     with_reducible refine (laws_toDyadic.calls k a0_0 _ _ l0_1 a0_2 t340 t341 t344 _ ?side1 ?side2 A19.out).mono ?_
     (case side1 => exact cb_ HR0_1 HB)
     (case side2 => exact HC0_1.out)
     rintro e w34 ⟨v342, rfl, ho0, hb⟩
     refine ⟨_, rfl, ?_⟩
     have n0_ := am_ (Kd.R_lower ho0 (below_size (bl_ HB))); have n1_ := am_ (blk_below (bk_ BK336) hb); have n2_ := am_ (blk_below (bk_ BK337) hb); have n3_ := am_ (below_step (bl_ HB) hb); clear BK336 BK337 HB; have HO343 := n0_; have BK336 := n1_; have BK337 := n2_; have HB := n3_; clear n0_ n1_ n2_ n3_; (try clear hb); (try clear hb2); (try clear hk); (try clear hi); (try clear ho0)
     refine hK.out _ _ ⟨bc_ BK336 0, bc_ BK336 1, bc_ BK336 2, bc_ BK337 0, bc_ BK337 1, bc_ BK337 2⟩ (fun hHeld => ?_)
     clear hK K
     refine norm_ (a' := ?_) ?_ ?_
     rotate_left
     ·show Act.put _ (some 29) _ = _
      exact nm_
     refine two_ (i := 3) (j := 8) (Ni := some 31) (Nj := some 6) #[true, true, true, true, false, false, false, false, false, false, false] #[true, true, true, false, false, false, false, false, true, false, false] rfl rfl rfl rfl (two_of HT_.out (by kernel_rfl)) (by decide) (by decide) (fun K hK => ?_) (fun K hK => ?_)
     ·skip
      refine goes_ Tryd.func13 (by kernel_rfl) rfl #[.agg #[.int .i64 a1_0, .slice A1_1 l1_1.length c1_1, .int .i64 a1_2]] (by rfl) rfl rfl ma_ ?_
      with_reducible refine (laws_toDyadic.calls k a1_0 _ _ l1_1 a1_2 t345 t346 t349 _ ?side1 ?side2 A20.out).mono ?_
      (case side1 => exact cb_ HR1_1 HB)
      (case side2 => exact HC1_1.out)
      rintro e w35 ⟨v347, rfl, ho0, hb⟩
      refine ⟨_, rfl, ?_⟩
      have n0_ := am_ (Kd.R_elder' (kr_ HO343) (Kd.R_base ho0) hb); have n1_ := am_ (Kd.R_lower (Kd.R_new' ho0 (Kd.R_lt (kr_ HO343))) (below_size (bl_ HB))); have n2_ := am_ (blk_below (bk_ BK336) hb); have n3_ := am_ (blk_below (bk_ BK337) hb); have n4_ := am_ (below_step (bl_ HB) hb); clear HO343 BK336 BK337 HB; have HO343 := n0_; have HO348 := n1_; have BK336 := n2_; have BK337 := n3_; have HB := n4_; clear n0_ n1_ n2_ n3_ n4_; (try clear hb); (try clear hb2); (try clear hk); (try clear hi); (try clear ho0)
      obtain ⟨Ao36, co36, eo36⟩ := Kd.R_slice HO343.out
      (first | subst eo36 | (injection eo36 with f1_ f2_ f3_; have f4_ := f1_.symm; have f5_ := f3_.symm; clear f1_ f2_ f3_; subst f4_; subst f5_))
      obtain ⟨Ao37, co37, eo37⟩ := Kd.R_slice HO348.out
      (first | subst eo37 | (injection eo37 with f1_ f2_ f3_; have f4_ := f1_.symm; have f5_ := f3_.symm; clear f1_ f2_ f3_; subst f4_; subst f5_))
      refine hK.out _ _ ⟨bc_ BK336 0, bc_ BK336 1, bc_ BK336 2, bc_ BK337 0, bc_ BK337 1, bc_ BK337 2⟩ (fun hHeld => ?_)
      clear hK K
      refine norm_ (a' := ?_) ?_ ?_
      rotate_left
      ·show Act.put _ (some 31) _ = _
       exact nm_
      refine two_ (i := 4) (j := 8) (Ni := some 32) (Nj := some 6) #[true, true, true, true, true, false, false, false, false, false, false] #[true, true, true, true, false, false, false, false, true, false, false] rfl rfl rfl rfl (two_of HT_.out (by kernel_rfl)) (by decide) (by decide) (fun K hK => ?_) (fun K hK => ?_)
      ·skip
       refine goes_ Tryd.func12 (by kernel_rfl) rfl #[.agg #[.int .i64 t340, .slice Ao36 t341.length co36, .int .i64 t344], .agg #[.int .i64 t345, .slice Ao37 t346.length co37, .int .i64 t349]] (by rfl) rfl rfl ma_ ?_
       with_reducible refine (spec_AddDyadics.calls k t340 _ _ t341 t344 t345 _ _ t346 t349 t350 t351 t354 t355 _ ?side1 ?side2 ?side3 ?side4 A21.out).mono ?_
       (case side1 => exact cr_ HO343)
       (case side2 => exact (Kd.R_reads' HO343.out).2.1)
       (case side3 => exact cr_ HO348)
       (case side4 => exact (Kd.R_reads' HO348.out).2.1)
       rintro e w38 ⟨v352, rfl, ho0, hb⟩
       refine ⟨_, rfl, ?_⟩
       have n0_ := am_ (Kd.R_elder' (kr_ HO343) (Kd.R_base ho0) hb); have n1_ := am_ (Kd.R_elder' (kr_ HO348) (Kd.R_base ho0) hb); have n2_ := am_ (Kd.R_lower (Kd.R_new' (Kd.R_new' ho0 (Kd.R_lt (kr_ HO343))) (Kd.R_lt (kr_ HO348))) (below_size (bl_ HB))); have n3_ := am_ (blk_below (bk_ BK336) hb); have n4_ := am_ (blk_below (bk_ BK337) hb); have n5_ := am_ (below_step (bl_ HB) hb); clear HO343 HO348 BK336 BK337 HB; have HO343 := n0_; have HO348 := n1_; have HO353 := n2_; have BK336 := n3_; have BK337 := n4_; have HB := n5_; clear n0_ n1_ n2_ n3_ n4_ n5_; (try clear hb); (try clear hb2); (try clear hk); (try clear hi); (try clear ho0)
       refine hK.out _ _ ⟨bc_ BK336 0, bc_ BK336 1, bc_ BK336 2, bc_ BK337 0, bc_ BK337 1, bc_ BK337 2⟩ (fun hHeld => ?_)
       clear hK K
       refine norm_ (a' := ?_) ?_ ?_
       rotate_left
       ·show Act.put _ (some 32) _ = _
        exact nm_
       refine pure_ (i := 5) (N := some 27) (v := ?_) (a' := ?_) #[true, true, true, true, true, true, false, false, false, false, false] rfl rfl (any_of HT_.out (by kernel_rfl)) (fun _ _ _ h => h) (Or.inl ⟨by rfl, ?_⟩) ?_ ?_
       rotate_left
       ·intro w'
        go_simp
        with_reducible rfl
       rotate_left
       ·exact nm_
       refine pure_ (i := 6) (N := some 33) (v := ?_) (a' := ?_) #[true, true, true, true, true, true, true, false, false, false, false] rfl rfl (any_of HT_.out (by kernel_rfl)) (fun _ _ _ h => h) (Or.inl ⟨by rfl, ?_⟩) ?_ ?_
       rotate_left
       ·intro w'
        go_simp
        with_reducible rfl
       rotate_left
       ·exact nm_
       refine pure_ (i := 7) (N := some 34) (v := ?_) (a' := ?_) #[true, true, true, true, true, true, true, true, false, false, false] rfl rfl (any_of HT_.out (by kernel_rfl)) (fun _ _ _ h => h) (Or.inl ⟨by rfl, ?_⟩) ?_ ?_
       rotate_left
       ·intro w'
        go_simp
        with_reducible rfl
       rotate_left
       ·exact nm_
       refine one_ (i := 8) (N := some 6) #[true, true, true, true, true, true, true, true, true, false, false] rfl rfl (one_of HT_.out (by kernel_rfl)) (by decide) (fun K hK => ?_)
       refine box_step ?hg (N := 6) ?hd (cs := #[.int .i64 0, .slice none 0 0, .int .i64 0]) (t := 30) ?hr ?_; (case hd => rfl); (case hg => rfl); (case hr => first | (go_simp; done) | (go_simp; rfl))
       intro gb356 hg w39 hbox hb
       have n0_ := am_ (Kd.R_below (kr_ HO343) hb); have n1_ := am_ (Kd.R_below (kr_ HO348) hb); have n2_ := am_ (Kd.R_below (kr_ HO353) hb); have n3_ := am_ (blk_below (bk_ BK336) hb); have n4_ := am_ (blk_below (bk_ BK337) hb); have n5_ := am_ (below_step (bl_ HB) hb); have n6_ := am_ (hbox); have n7_ := am_ (gs_ hg HB); have n8_ := am_ (gs_ hg HB); have n9_ := am_ (nl_ hg BK336); have n10_ := am_ (ng_ hg BK336); have n11_ := am_ (nl_ hg BK337); have n12_ := am_ (ng_ hg BK337); clear HO343 HO348 HO353 BK336 BK337 HB; have HO343 := n0_; have HO348 := n1_; have HO353 := n2_; have BK336 := n3_; have BK337 := n4_; have HB := n5_; have BK356 := n6_; have GW356 := n7_; have GE356 := n8_; have NB336_356 := n9_; have NB356_336 := n10_; have NB337_356 := n11_; have NB356_337 := n12_; clear n0_ n1_ n2_ n3_ n4_ n5_ n6_ n7_ n8_ n9_ n10_ n11_ n12_ hb hbox hg
       refine hK.out _ _ ⟨bc_ BK336 0, bc_ BK336 1, bc_ BK336 2, bc_ BK337 0, bc_ BK337 1, bc_ BK337 2⟩ (fun hHeld => ?_)
       clear hK K
       refine norm_ (a' := ?_) ?_ ?_
       rotate_left
       ·show Act.put _ (some 6) _ = _
        exact nm_
       exact norm_ (by simp only [putAll, Act.put, List.setIfInBounds_toArray, List.set_cons_zero, List.set_cons_succ]) (hCont (.slice Ao36 t341.length co36, .slice Ao37 t346.length co37, v352, gb356) _ ⟨hHeld, (km_ HO343 (fun _ hk => ⟨hk.1.2, hk.2⟩)), (km_ HO348 (fun _ hk => ⟨hk.1.2, hk.2⟩)), (km_ HO353 (fun _ hk => ⟨hk.1.2, hk.2⟩)), (bk_ BK336), (bk_ BK337), (bk_ BK356), GW356.out, GE356.out, NB336_356.out, NB356_336.out, NB337_356.out, NB356_337.out, (bl_ HB)⟩)
      ·skip
       refine box_step ?hg (N := 6) ?hd (cs := #[.int .i64 0, .slice none 0 0, .int .i64 0]) (t := 30) ?hr ?_; (case hd => rfl); (case hg => rfl); (case hr => first | (go_simp; done) | (go_simp; rfl))
       intro gb356 hg w36 hbox hb
       have n0_ := am_ (Kd.R_below (kr_ HO343) hb); have n1_ := am_ (Kd.R_below (kr_ HO348) hb); have n2_ := am_ (blk_below (bk_ BK336) hb); have n3_ := am_ (blk_below (bk_ BK337) hb); have n4_ := am_ (below_step (bl_ HB) hb); have n5_ := am_ (hbox); have n6_ := am_ (gs_ hg HB); have n7_ := am_ (gs_ hg HB); have n8_ := am_ (nl_ hg BK336); have n9_ := am_ (ng_ hg BK336); have n10_ := am_ (nl_ hg BK337); have n11_ := am_ (ng_ hg BK337); clear HO343 HO348 BK336 BK337 HB; have HO343 := n0_; have HO348 := n1_; have BK336 := n2_; have BK337 := n3_; have HB := n4_; have BK356 := n5_; have GW356 := n6_; have GE356 := n7_; have NB336_356 := n8_; have NB356_336 := n9_; have NB337_356 := n10_; have NB356_337 := n11_; clear n0_ n1_ n2_ n3_ n4_ n5_ n6_ n7_ n8_ n9_ n10_ n11_ hb hbox hg
       obtain ⟨Ao37, co37, eo37⟩ := Kd.R_slice HO343.out
       (first | subst eo37 | (injection eo37 with f1_ f2_ f3_; have f4_ := f1_.symm; have f5_ := f3_.symm; clear f1_ f2_ f3_; subst f4_; subst f5_))
       obtain ⟨Ao38, co38, eo38⟩ := Kd.R_slice HO348.out
       (first | subst eo38 | (injection eo38 with f1_ f2_ f3_; have f4_ := f1_.symm; have f5_ := f3_.symm; clear f1_ f2_ f3_; subst f4_; subst f5_))
       refine hK.out _ _ ⟨bc_ BK336 0, bc_ BK336 1, bc_ BK336 2, bc_ BK337 0, bc_ BK337 1, bc_ BK337 2⟩ (fun hHeld => ?_)
       clear hK K
       refine norm_ (a' := ?_) ?_ ?_
       rotate_left
       ·show Act.put _ (some 6) _ = _
        exact nm_
       refine one_ (i := 4) (N := some 32) #[true, true, true, true, true, false, false, false, true, false, false] rfl rfl (one_of HT_.out (by kernel_rfl)) (by decide) (fun K hK => ?_)
       refine goes_ Tryd.func12 (by kernel_rfl) rfl #[.agg #[.int .i64 t340, .slice Ao37 t341.length co37, .int .i64 t344], .agg #[.int .i64 t345, .slice Ao38 t346.length co38, .int .i64 t349]] (by rfl) rfl rfl ma_ ?_
       with_reducible refine (spec_AddDyadics.calls k t340 _ _ t341 t344 t345 _ _ t346 t349 t350 t351 t354 t355 _ ?side1 ?side2 ?side3 ?side4 A21.out).mono ?_
       (case side1 => exact cr_ HO343)
       (case side2 => exact (Kd.R_reads' HO343.out).2.1)
       (case side3 => exact cr_ HO348)
       (case side4 => exact (Kd.R_reads' HO348.out).2.1)
       rintro e w39 ⟨v352, rfl, ho0, hb⟩
       refine ⟨_, rfl, ?_⟩
       have n0_ := am_ (Kd.R_elder' (kr_ HO343) (Kd.R_base ho0) hb); have n1_ := am_ (Kd.R_elder' (kr_ HO348) (Kd.R_base ho0) hb); have n2_ := am_ (Kd.R_lower (Kd.R_new' (Kd.R_new' ho0 (Kd.R_lt (kr_ HO343))) (Kd.R_lt (kr_ HO348))) (below_size (bl_ HB))); have n3_ := am_ (blk_below (bk_ BK336) hb); have n4_ := am_ (blk_below (bk_ BK337) hb); have n5_ := am_ (blk_below (bk_ BK356) hb); have n6_ := am_ (below_step (bl_ HB) hb); clear HO343 HO348 BK336 BK337 BK356 HB; have HO343 := n0_; have HO348 := n1_; have HO353 := n2_; have BK336 := n3_; have BK337 := n4_; have BK356 := n5_; have HB := n6_; clear n0_ n1_ n2_ n3_ n4_ n5_ n6_; (try clear hb); (try clear hb2); (try clear hk); (try clear hi); (try clear ho0)
       refine hK.out _ _ ⟨bc_ BK336 0, bc_ BK336 1, bc_ BK336 2, bc_ BK337 0, bc_ BK337 1, bc_ BK337 2⟩ (fun hHeld => ?_)
       clear hK K
       refine norm_ (a' := ?_) ?_ ?_
       rotate_left
       ·show Act.put _ (some 32) _ = _
        exact nm_
       refine pure_ (i := 5) (N := some 27) (v := ?_) (a' := ?_) #[true, true, true, true, true, true, false, false, true, false, false] rfl rfl (any_of HT_.out (by kernel_rfl)) (fun _ _ _ h => h) (Or.inl ⟨by rfl, ?_⟩) ?_ ?_
       rotate_left
       ·intro w'
        go_simp
        with_reducible rfl
       rotate_left
       ·exact nm_
       refine pure_ (i := 6) (N := some 33) (v := ?_) (a' := ?_) #[true, true, true, true, true, true, true, false, true, false, false] rfl rfl (any_of HT_.out (by kernel_rfl)) (fun _ _ _ h => h) (Or.inl ⟨by rfl, ?_⟩) ?_ ?_
       rotate_left
       ·intro w'
        go_simp
        with_reducible rfl
       rotate_left
       ·exact nm_
       refine pure_ (i := 7) (N := some 34) (v := ?_) (a' := ?_) #[true, true, true, true, true, true, true, true, true, false, false] rfl rfl (any_of HT_.out (by kernel_rfl)) (fun _ _ _ h => h) (Or.inl ⟨by rfl, ?_⟩) ?_ ?_
       rotate_left
       ·intro w'
        go_simp
        with_reducible rfl
       rotate_left
       ·exact nm_
       exact norm_ (by simp only [putAll, Act.put, List.setIfInBounds_toArray, List.set_cons_zero, List.set_cons_succ]) (hCont (.slice Ao37 t341.length co37, .slice Ao38 t346.length co38, v352, gb356) _ ⟨hHeld, (km_ HO343 (fun _ hk => ⟨hk.1.2, hk.2⟩)), (km_ HO348 (fun _ hk => ⟨hk.1.2, hk.2⟩)), (km_ HO353 (fun _ hk => ⟨hk.1.2, hk.2⟩)), (bk_ BK336), (bk_ BK337), (bk_ BK356), GW356.out, GE356.out, NB336_356.out, NB356_336.out, NB337_356.out, NB356_337.out, (bl_ HB)⟩)
     ·skip
      refine box_step ?hg (N := 6) ?hd (cs := #[.int .i64 0, .slice none 0 0, .int .i64 0]) (t := 30) ?hr ?_; (case hd => rfl); (case hg => rfl); (case hr => first | (go_simp; done) | (go_simp; rfl))
      intro gb356 hg w35 hbox hb
      have n0_ := am_ (Kd.R_below (kr_ HO343) hb); have n1_ := am_ (blk_below (bk_ BK336) hb); have n2_ := am_ (blk_below (bk_ BK337) hb); have n3_ := am_ (below_step (bl_ HB) hb); have n4_ := am_ (hbox); have n5_ := am_ (gs_ hg HB); have n6_ := am_ (gs_ hg HB); have n7_ := am_ (nl_ hg BK336); have n8_ := am_ (ng_ hg BK336); have n9_ := am_ (nl_ hg BK337); have n10_ := am_ (ng_ hg BK337); clear HO343 BK336 BK337 HB; have HO343 := n0_; have BK336 := n1_; have BK337 := n2_; have HB := n3_; have BK356 := n4_; have GW356 := n5_; have GE356 := n6_; have NB336_356 := n7_; have NB356_336 := n8_; have NB337_356 := n9_; have NB356_337 := n10_; clear n0_ n1_ n2_ n3_ n4_ n5_ n6_ n7_ n8_ n9_ n10_ hb hbox hg
      refine hK.out _ _ ⟨bc_ BK336 0, bc_ BK336 1, bc_ BK336 2, bc_ BK337 0, bc_ BK337 1, bc_ BK337 2⟩ (fun hHeld => ?_)
      clear hK K
      refine norm_ (a' := ?_) ?_ ?_
      rotate_left
      ·show Act.put _ (some 6) _ = _
       exact nm_
      refine one_ (i := 3) (N := some 31) #[true, true, true, true, false, false, false, false, true, false, false] rfl rfl (one_of HT_.out (by kernel_rfl)) (by decide) (fun K hK => ?_)
      refine goes_ Tryd.func13 (by kernel_rfl) rfl #[.agg #[.int .i64 a1_0, .slice A1_1 l1_1.length c1_1, .int .i64 a1_2]] (by rfl) rfl rfl ma_ ?_
      with_reducible refine (laws_toDyadic.calls k a1_0 _ _ l1_1 a1_2 t345 t346 t349 _ ?side1 ?side2 A20.out).mono ?_
      (case side1 => exact cb_ HR1_1 HB)
      (case side2 => exact HC1_1.out)
      rintro e w36 ⟨v347, rfl, ho0, hb⟩
      refine ⟨_, rfl, ?_⟩
      have n0_ := am_ (Kd.R_elder' (kr_ HO343) (Kd.R_base ho0) hb); have n1_ := am_ (Kd.R_lower (Kd.R_new' ho0 (Kd.R_lt (kr_ HO343))) (below_size (bl_ HB))); have n2_ := am_ (blk_below (bk_ BK336) hb); have n3_ := am_ (blk_below (bk_ BK337) hb); have n4_ := am_ (blk_below (bk_ BK356) hb); have n5_ := am_ (below_step (bl_ HB) hb); clear HO343 BK336 BK337 BK356 HB; have HO343 := n0_; have HO348 := n1_; have BK336 := n2_; have BK337 := n3_; have BK356 := n4_; have HB := n5_; clear n0_ n1_ n2_ n3_ n4_ n5_; (try clear hb); (try clear hb2); (try clear hk); (try clear hi); (try clear ho0)
      obtain ⟨Ao37, co37, eo37⟩ := Kd.R_slice HO343.out
      (first | subst eo37 | (injection eo37 with f1_ f2_ f3_; have f4_ := f1_.symm; have f5_ := f3_.symm; clear f1_ f2_ f3_; subst f4_; subst f5_))
      obtain ⟨Ao38, co38, eo38⟩ := Kd.R_slice HO348.out
      (first | subst eo38 | (injection eo38 with f1_ f2_ f3_; have f4_ := f1_.symm; have f5_ := f3_.symm; clear f1_ f2_ f3_; subst f4_; subst f5_))
      refine hK.out _ _ ⟨bc_ BK336 0, bc_ BK336 1, bc_ BK336 2, bc_ BK337 0, bc_ BK337 1, bc_ BK337 2⟩ (fun hHeld => ?_)
      clear hK K
      refine norm_ (a' := ?_) ?_ ?_
      rotate_left
      ·show Act.put _ (some 31) _ = _
       exact nm_
      refine one_ (i := 4) (N := some 32) #[true, true, true, true, true, false, false, false, true, false, false] rfl rfl (one_of HT_.out (by kernel_rfl)) (by decide) (fun K hK => ?_)
      refine goes_ Tryd.func12 (by kernel_rfl) rfl #[.agg #[.int .i64 t340, .slice Ao37 t341.length co37, .int .i64 t344], .agg #[.int .i64 t345, .slice Ao38 t346.length co38, .int .i64 t349]] (by rfl) rfl rfl ma_ ?_
      with_reducible refine (spec_AddDyadics.calls k t340 _ _ t341 t344 t345 _ _ t346 t349 t350 t351 t354 t355 _ ?side1 ?side2 ?side3 ?side4 A21.out).mono ?_
      (case side1 => exact cr_ HO343)
      (case side2 => exact (Kd.R_reads' HO343.out).2.1)
      (case side3 => exact cr_ HO348)
      (case side4 => exact (Kd.R_reads' HO348.out).2.1)
      rintro e w39 ⟨v352, rfl, ho0, hb⟩
      refine ⟨_, rfl, ?_⟩
      have n0_ := am_ (Kd.R_elder' (kr_ HO343) (Kd.R_base ho0) hb); have n1_ := am_ (Kd.R_elder' (kr_ HO348) (Kd.R_base ho0) hb); have n2_ := am_ (Kd.R_lower (Kd.R_new' (Kd.R_new' ho0 (Kd.R_lt (kr_ HO343))) (Kd.R_lt (kr_ HO348))) (below_size (bl_ HB))); have n3_ := am_ (blk_below (bk_ BK336) hb); have n4_ := am_ (blk_below (bk_ BK337) hb); have n5_ := am_ (blk_below (bk_ BK356) hb); have n6_ := am_ (below_step (bl_ HB) hb); clear HO343 HO348 BK336 BK337 BK356 HB; have HO343 := n0_; have HO348 := n1_; have HO353 := n2_; have BK336 := n3_; have BK337 := n4_; have BK356 := n5_; have HB := n6_; clear n0_ n1_ n2_ n3_ n4_ n5_ n6_; (try clear hb); (try clear hb2); (try clear hk); (try clear hi); (try clear ho0)
      refine hK.out _ _ ⟨bc_ BK336 0, bc_ BK336 1, bc_ BK336 2, bc_ BK337 0, bc_ BK337 1, bc_ BK337 2⟩ (fun hHeld => ?_)
      clear hK K
      refine norm_ (a' := ?_) ?_ ?_
      rotate_left
      ·show Act.put _ (some 32) _ = _
       exact nm_
      refine pure_ (i := 5) (N := some 27) (v := ?_) (a' := ?_) #[true, true, true, true, true, true, false, false, true, false, false] rfl rfl (any_of HT_.out (by kernel_rfl)) (fun _ _ _ h => h) (Or.inl ⟨by rfl, ?_⟩) ?_ ?_
      rotate_left
      ·intro w'
       go_simp
       with_reducible rfl
      rotate_left
      ·exact nm_
      refine pure_ (i := 6) (N := some 33) (v := ?_) (a' := ?_) #[true, true, true, true, true, true, true, false, true, false, false] rfl rfl (any_of HT_.out (by kernel_rfl)) (fun _ _ _ h => h) (Or.inl ⟨by rfl, ?_⟩) ?_ ?_
      rotate_left
      ·intro w'
       go_simp
       with_reducible rfl
      rotate_left
      ·exact nm_
      refine pure_ (i := 7) (N := some 34) (v := ?_) (a' := ?_) #[true, true, true, true, true, true, true, true, true, false, false] rfl rfl (any_of HT_.out (by kernel_rfl)) (fun _ _ _ h => h) (Or.inl ⟨by rfl, ?_⟩) ?_ ?_
      rotate_left
      ·intro w'
       go_simp
       with_reducible rfl
      rotate_left
      ·exact nm_
      exact norm_ (by simp only [putAll, Act.put, List.setIfInBounds_toArray, List.set_cons_zero, List.set_cons_succ]) (hCont (.slice Ao37 t341.length co37, .slice Ao38 t346.length co38, v352, gb356) _ ⟨hHeld, (km_ HO343 (fun _ hk => ⟨hk.1.2, hk.2⟩)), (km_ HO348 (fun _ hk => ⟨hk.1.2, hk.2⟩)), (km_ HO353 (fun _ hk => ⟨hk.1.2, hk.2⟩)), (bk_ BK336), (bk_ BK337), (bk_ BK356), GW356.out, GE356.out, NB336_356.out, NB356_336.out, NB337_356.out, NB356_337.out, (bl_ HB)⟩)
    ·skip
     refine box_step ?hg (N := 6) ?hd (cs := #[.int .i64 0, .slice none 0 0, .int .i64 0]) (t := 30) ?hr ?_; (case hd => rfl); (case hg => rfl); (case hr => first | (go_simp; done) | (go_simp; rfl))
     intro gb356 hg w34 hbox hb
     have n0_ := am_ (blk_below (bk_ BK336) hb); have n1_ := am_ (blk_below (bk_ BK337) hb); have n2_ := am_ (below_step (bl_ HB) hb); have n3_ := am_ (hbox); have n4_ := am_ (gs_ hg HB); have n5_ := am_ (gs_ hg HB); have n6_ := am_ (nl_ hg BK336); have n7_ := am_ (ng_ hg BK336); have n8_ := am_ (nl_ hg BK337); have n9_ := am_ (ng_ hg BK337); clear BK336 BK337 HB; have BK336 := n0_; have BK337 := n1_; have HB := n2_; have BK356 := n3_; have GW356 := n4_; have GE356 := n5_; have NB336_356 := n6_; have NB356_336 := n7_; have NB337_356 := n8_; have NB356_337 := n9_; clear n0_ n1_ n2_ n3_ n4_ n5_ n6_ n7_ n8_ n9_ hb hbox hg
     refine hK.out _ _ ⟨bc_ BK336 0, bc_ BK336 1, bc_ BK336 2, bc_ BK337 0, bc_ BK337 1, bc_ BK337 2⟩ (fun hHeld => ?_)
     clear hK K
     refine norm_ (a' := ?_) ?_ ?_
     rotate_left
     ·show Act.put _ (some 6) _ = _
      exact nm_
     refine one_ (i := 1) (N := some 29) #[true, true, true, false, false, false, false, false, true, false, false] rfl rfl (one_of HT_.out (by kernel_rfl)) (by decide) (fun K hK => ?_)
     refine goes_ Tryd.func13 (by kernel_rfl) rfl #[.agg #[.int .i64 a0_0, .slice A0_1 l0_1.length c0_1, .int .i64 a0_2]] (by rfl) rfl rfl ma_ ?_
     with_reducible refine (laws_toDyadic.calls k a0_0 _ _ l0_1 a0_2 t340 t341 t344 _ ?side1 ?side2 A19.out).mono ?_
     (case side1 => exact cb_ HR0_1 HB)
     (case side2 => exact HC0_1.out)
     rintro e w35 ⟨v342, rfl, ho0, hb⟩
     refine ⟨_, rfl, ?_⟩
     have n0_ := am_ (Kd.R_lower ho0 (below_size (bl_ HB))); have n1_ := am_ (blk_below (bk_ BK336) hb); have n2_ := am_ (blk_below (bk_ BK337) hb); have n3_ := am_ (blk_below (bk_ BK356) hb); have n4_ := am_ (below_step (bl_ HB) hb); clear BK336 BK337 BK356 HB; have HO343 := n0_; have BK336 := n1_; have BK337 := n2_; have BK356 := n3_; have HB := n4_; clear n0_ n1_ n2_ n3_ n4_; (try clear hb); (try clear hb2); (try clear hk); (try clear hi); (try clear ho0)
     refine hK.out _ _ ⟨bc_ BK336 0, bc_ BK336 1, bc_ BK336 2, bc_ BK337 0, bc_ BK337 1, bc_ BK337 2⟩ (fun hHeld => ?_)
     clear hK K
     refine norm_ (a' := ?_) ?_ ?_
     rotate_left
     ·show Act.put _ (some 29) _ = _
      exact nm_
     refine one_ (i := 3) (N := some 31) #[true, true, true, true, false, false, false, false, true, false, false] rfl rfl (one_of HT_.out (by kernel_rfl)) (by decide) (fun K hK => ?_)
     refine goes_ Tryd.func13 (by kernel_rfl) rfl #[.agg #[.int .i64 a1_0, .slice A1_1 l1_1.length c1_1, .int .i64 a1_2]] (by rfl) rfl rfl ma_ ?_
     with_reducible refine (laws_toDyadic.calls k a1_0 _ _ l1_1 a1_2 t345 t346 t349 _ ?side1 ?side2 A20.out).mono ?_
     (case side1 => exact cb_ HR1_1 HB)
     (case side2 => exact HC1_1.out)
     rintro e w36 ⟨v347, rfl, ho0, hb⟩
     refine ⟨_, rfl, ?_⟩
     have n0_ := am_ (Kd.R_elder' (kr_ HO343) (Kd.R_base ho0) hb); have n1_ := am_ (Kd.R_lower (Kd.R_new' ho0 (Kd.R_lt (kr_ HO343))) (below_size (bl_ HB))); have n2_ := am_ (blk_below (bk_ BK336) hb); have n3_ := am_ (blk_below (bk_ BK337) hb); have n4_ := am_ (blk_below (bk_ BK356) hb); have n5_ := am_ (below_step (bl_ HB) hb); clear HO343 BK336 BK337 BK356 HB; have HO343 := n0_; have HO348 := n1_; have BK336 := n2_; have BK337 := n3_; have BK356 := n4_; have HB := n5_; clear n0_ n1_ n2_ n3_ n4_ n5_; (try clear hb); (try clear hb2); (try clear hk); (try clear hi); (try clear ho0)
     obtain ⟨Ao37, co37, eo37⟩ := Kd.R_slice HO343.out
     (first | subst eo37 | (injection eo37 with f1_ f2_ f3_; have f4_ := f1_.symm; have f5_ := f3_.symm; clear f1_ f2_ f3_; subst f4_; subst f5_))
     obtain ⟨Ao38, co38, eo38⟩ := Kd.R_slice HO348.out
     (first | subst eo38 | (injection eo38 with f1_ f2_ f3_; have f4_ := f1_.symm; have f5_ := f3_.symm; clear f1_ f2_ f3_; subst f4_; subst f5_))
     refine hK.out _ _ ⟨bc_ BK336 0, bc_ BK336 1, bc_ BK336 2, bc_ BK337 0, bc_ BK337 1, bc_ BK337 2⟩ (fun hHeld => ?_)
     clear hK K
     refine norm_ (a' := ?_) ?_ ?_
     rotate_left
     ·show Act.put _ (some 31) _ = _
      exact nm_
     refine one_ (i := 4) (N := some 32) #[true, true, true, true, true, false, false, false, true, false, false] rfl rfl (one_of HT_.out (by kernel_rfl)) (by decide) (fun K hK => ?_)
     refine goes_ Tryd.func12 (by kernel_rfl) rfl #[.agg #[.int .i64 t340, .slice Ao37 t341.length co37, .int .i64 t344], .agg #[.int .i64 t345, .slice Ao38 t346.length co38, .int .i64 t349]] (by rfl) rfl rfl ma_ ?_
     with_reducible refine (spec_AddDyadics.calls k t340 _ _ t341 t344 t345 _ _ t346 t349 t350 t351 t354 t355 _ ?side1 ?side2 ?side3 ?side4 A21.out).mono ?_
     (case side1 => exact cr_ HO343)
     (case side2 => exact (Kd.R_reads' HO343.out).2.1)
     (case side3 => exact cr_ HO348)
     (case side4 => exact (Kd.R_reads' HO348.out).2.1)
     rintro e w39 ⟨v352, rfl, ho0, hb⟩
     refine ⟨_, rfl, ?_⟩
     have n0_ := am_ (Kd.R_elder' (kr_ HO343) (Kd.R_base ho0) hb); have n1_ := am_ (Kd.R_elder' (kr_ HO348) (Kd.R_base ho0) hb); have n2_ := am_ (Kd.R_lower (Kd.R_new' (Kd.R_new' ho0 (Kd.R_lt (kr_ HO343))) (Kd.R_lt (kr_ HO348))) (below_size (bl_ HB))); have n3_ := am_ (blk_below (bk_ BK336) hb); have n4_ := am_ (blk_below (bk_ BK337) hb); have n5_ := am_ (blk_below (bk_ BK356) hb); have n6_ := am_ (below_step (bl_ HB) hb); clear HO343 HO348 BK336 BK337 BK356 HB; have HO343 := n0_; have HO348 := n1_; have HO353 := n2_; have BK336 := n3_; have BK337 := n4_; have BK356 := n5_; have HB := n6_; clear n0_ n1_ n2_ n3_ n4_ n5_ n6_; (try clear hb); (try clear hb2); (try clear hk); (try clear hi); (try clear ho0)
     refine hK.out _ _ ⟨bc_ BK336 0, bc_ BK336 1, bc_ BK336 2, bc_ BK337 0, bc_ BK337 1, bc_ BK337 2⟩ (fun hHeld => ?_)
     clear hK K
     refine norm_ (a' := ?_) ?_ ?_
     rotate_left
     ·show Act.put _ (some 32) _ = _
      exact nm_
     refine pure_ (i := 5) (N := some 27) (v := ?_) (a' := ?_) #[true, true, true, true, true, true, false, false, true, false, false] rfl rfl (any_of HT_.out (by kernel_rfl)) (fun _ _ _ h => h) (Or.inl ⟨by rfl, ?_⟩) ?_ ?_
     rotate_left
     ·intro w'
      go_simp
      with_reducible rfl
     rotate_left
     ·exact nm_
     refine pure_ (i := 6) (N := some 33) (v := ?_) (a' := ?_) #[true, true, true, true, true, true, true, false, true, false, false] rfl rfl (any_of HT_.out (by kernel_rfl)) (fun _ _ _ h => h) (Or.inl ⟨by rfl, ?_⟩) ?_ ?_
     rotate_left
     ·intro w'
      go_simp
      with_reducible rfl
     rotate_left
     ·exact nm_
     refine pure_ (i := 7) (N := some 34) (v := ?_) (a' := ?_) #[true, true, true, true, true, true, true, true, true, false, false] rfl rfl (any_of HT_.out (by kernel_rfl)) (fun _ _ _ h => h) (Or.inl ⟨by rfl, ?_⟩) ?_ ?_
     rotate_left
     ·intro w'
      go_simp
      with_reducible rfl
     rotate_left
     ·exact nm_
     exact norm_ (by simp only [putAll, Act.put, List.setIfInBounds_toArray, List.set_cons_zero, List.set_cons_succ]) (hCont (.slice Ao37 t341.length co37, .slice Ao38 t346.length co38, v352, gb356) _ ⟨hHeld, (km_ HO343 (fun _ hk => ⟨hk.1.2, hk.2⟩)), (km_ HO348 (fun _ hk => ⟨hk.1.2, hk.2⟩)), (km_ HO353 (fun _ hk => ⟨hk.1.2, hk.2⟩)), (bk_ BK336), (bk_ BK337), (bk_ BK356), GW356.out, GE356.out, NB336_356.out, NB356_336.out, NB337_356.out, NB356_337.out, (bl_ HB)⟩)
   rintro ⟨v342, v347, v352, gb356⟩ w40 ⟨hS_, h0_, h1_, h2_, h3_, h4_, h5_, h6_, h7_, h8_, h9_, h10_, h11_, h12_⟩
   have n0_ : Aside0 (Kd.R (Kd.int .i64) 2 w40 w.heap.size (fun k_ => some k_ ≠ (v347 : Value).ownBlock ∧ some k_ ≠ (v352 : Value).ownBlock) v342 t341) := ⟨h0_⟩
   have n1_ : Aside0 (Kd.R (Kd.int .i64) 2 w40 w.heap.size (fun k_ => some k_ ≠ (v342 : Value).ownBlock ∧ some k_ ≠ (v352 : Value).ownBlock) v347 t346) := ⟨h1_⟩
   have n2_ : Aside0 (Kd.R (Kd.int .i64) 2 w40 w.heap.size (fun k_ => some k_ ≠ (v342 : Value).ownBlock ∧ some k_ ≠ (v347 : Value).ownBlock) v352 t351) := ⟨h2_⟩
   have n3_ : Aside0 (w40.heap[gb336]? = some (.cells #[.int .i64 a0_0, .slice A0_1 l0_1.length c0_1, .int .i64 a0_2] 26 (0, 0))) := ⟨h3_⟩
   have n4_ : Aside0 (w40.heap[gb337]? = some (.cells #[.int .i64 a1_0, .slice A1_1 l1_1.length c1_1, .int .i64 a1_2] 26 (0, 0))) := ⟨h4_⟩
   have n5_ : Aside0 (w40.heap[gb356]? = some (.cells #[.int .i64 0, .slice none 0 0, .int .i64 0] 30 (0, 0))) := ⟨h5_⟩
   have n6_ : Aside0 (w.heap.size ≤ gb356) := ⟨h6_⟩
   have n7_ : Aside0 (w.heap.size ≤ gb356) := ⟨h7_⟩
   have n8_ : Aside0 (gb336 ≠ gb356) := ⟨h8_⟩
   have n9_ : Aside0 (gb356 ≠ gb336) := ⟨h9_⟩
   have n10_ : Aside0 (gb337 ≠ gb356) := ⟨h10_⟩
   have n11_ : Aside0 (gb356 ≠ gb337) := ⟨h11_⟩
   have n12_ : Aside0 (Below w.heap.size w w40) := ⟨h12_⟩
   clear BK336 BK337 HB h0_ h1_ h2_ h3_ h4_ h5_ h6_ h7_ h8_ h9_ h10_ h11_ h12_; have HO343 := n0_; have HO348 := n1_; have HO353 := n2_; have BK336 := n3_; have BK337 := n4_; have BK356 := n5_; have GW356 := n6_; have GE356 := n7_; have NB336_356 := n8_; have NB356_336 := n9_; have NB337_356 := n10_; have NB356_337 := n11_; have HB := n12_; clear n0_ n1_ n2_ n3_ n4_ n5_ n6_ n7_ n8_ n9_ n10_ n11_ n12_
   have hHeld : w40.cell? ⟨gb336, 0, none⟩ = some (.int .i64 a0_0) ∧ w40.cell? ⟨gb336, 1, none⟩ = some (.slice A0_1 l0_1.length c0_1) ∧ w40.cell? ⟨gb336, 2, none⟩ = some (.int .i64 a0_2) ∧ w40.cell? ⟨gb337, 0, none⟩ = some (.int .i64 a1_0) ∧ w40.cell? ⟨gb337, 1, none⟩ = some (.slice A1_1 l1_1.length c1_1) ∧ w40.cell? ⟨gb337, 2, none⟩ = some (.int .i64 a1_2) := hS_
   obtain ⟨Ao42, co42, eo42⟩ := Kd.R_slice HO353.out
   (first | subst eo42 | (injection eo42 with f1_ f2_ f3_; have f4_ := f1_.symm; have f5_ := f3_.symm; clear f1_ f2_ f3_; subst f4_; subst f5_))
   refine norm_ (a' := ?_) ?_ ?_
   rotate_left
   ·simp only [putAll, Act.put, List.setIfInBounds_toArray, List.set_cons_zero, List.set_cons_succ]
    rfl
   refine one_ (i := 9) (N := none) #[true, true, true, true, true, true, true, true, true, true, false] rfl rfl (one_of HT_.out (by kernel_rfl)) (by decide) (fun K hK => ?_)
   have hs41 : w40.cell? ⟨gb356, 0, none⟩ = some (.int .i64 0) := bc_ BK356 0
   have hfs41 := blk_frozen BK356.out 0; have hns41_0 := NB336_356.out; have hns41_1 := NB337_356.out; have hms41_0 := NB356_336.out; have hms41_1 := NB356_337.out
   have hs43 : w40.cell? ⟨gb356, 1, none⟩ = some (.slice none 0 0) := bc_ BK356 1
   have hfs43 := blk_frozen BK356.out 1; have hns43_0 := NB336_356.out; have hns43_1 := NB337_356.out; have hms43_0 := NB356_336.out; have hms43_1 := NB356_337.out
   have hs44 : w40.cell? ⟨gb356, 2, none⟩ = some (.int .i64 0) := bc_ BK356 2
   have hfs44 := blk_frozen BK356.out 2; have hns44_0 := NB336_356.out; have hns44_1 := NB337_356.out; have hms44_0 := NB356_336.out; have hms44_1 := NB356_337.out
   refine skip_ (w1 := ?_) (by rfl) rfl ?_ ?_
   rotate_left
   ·go_simp
    rfl
   refine hK.out _ _ ⟨((cell_far (p := ⟨gb356, _, none⟩) NB336_356.out _).trans (((cell_far (p := ⟨gb356, _, none⟩) NB336_356.out _).trans (((cell_far (p := ⟨gb356, _, none⟩) NB336_356.out _).trans (hHeld.1)))))), ((cell_far (p := ⟨gb356, _, none⟩) NB336_356.out _).trans (((cell_far (p := ⟨gb356, _, none⟩) NB336_356.out _).trans (((cell_far (p := ⟨gb356, _, none⟩) NB336_356.out _).trans (hHeld.2.1)))))), ((cell_far (p := ⟨gb356, _, none⟩) NB336_356.out _).trans (((cell_far (p := ⟨gb356, _, none⟩) NB336_356.out _).trans (((cell_far (p := ⟨gb356, _, none⟩) NB336_356.out _).trans (hHeld.2.2.1)))))), ((cell_far (p := ⟨gb356, _, none⟩) NB337_356.out _).trans (((cell_far (p := ⟨gb356, _, none⟩) NB337_356.out _).trans (((cell_far (p := ⟨gb356, _, none⟩) NB337_356.out _).trans (hHeld.2.2.2.1)))))), ((cell_far (p := ⟨gb356, _, none⟩) NB337_356.out _).trans (((cell_far (p := ⟨gb356, _, none⟩) NB337_356.out _).trans (((cell_far (p := ⟨gb356, _, none⟩) NB337_356.out _).trans (hHeld.2.2.2.2.1)))))), ((cell_far (p := ⟨gb356, _, none⟩) NB337_356.out _).trans (((cell_far (p := ⟨gb356, _, none⟩) NB337_356.out _).trans (((cell_far (p := ⟨gb356, _, none⟩) NB337_356.out _).trans (hHeld.2.2.2.2.2))))))⟩ (fun hHeld => ?_)
   clear hK K
   refine pure_ (i := 10) (N := some 7) (v := ?_) (a' := ?_) #[true, true, true, true, true, true, true, true, true, true, true] rfl rfl (any_of HT_.out (by kernel_rfl)) (fun _ _ _ h => h) (Or.inl ⟨by rfl, ?_⟩) ?_ ?_
   rotate_left
   ·intro w'
    go_simp
    with_reducible rfl
   rotate_left
   ·exact nm_
   refine done_ (done_of HT_.out (by kernel_rfl)) ?_
   have hnb45 := NB336_356.out; have hnc45 := NB356_336.out
   have hcz46_0 : w40.cell? ⟨gb336, 0, none⟩ = some (.int .i64 a0_0) := bc_ BK336 0
   have hcz46_1 : w40.cell? ⟨gb336, 1, none⟩ = some (.slice A0_1 l0_1.length c0_1) := bc_ BK336 1
   have hcz46_2 : w40.cell? ⟨gb336, 2, none⟩ = some (.int .i64 a0_2) := bc_ BK336 2
   have hfz46_0 := blk_frozen BK336.out 0; have hfz46_1 := blk_frozen BK336.out 1; have hfz46_2 := blk_frozen BK336.out 2
   go_upto_region 12 with (first | ((with_reducible refine gate_callee (f := 13) rfl ?_); refine goesL_ (some 36) rfl rfl Tryd.func13 (by kernel_rfl) rfl #[.agg #[.int .i64 a0_0, .slice A0_1 l0_1.length c0_1, .int .i64 a0_2]] rfl ma_ ?_; (with_reducible refine (laws_toDyadic.calls k a0_0 _ _ l0_1 a0_2 t357 t358 t361 _ ?side1 ?side2 A22.out).mono ?_); (case side1 => exact Kd.C_below HR0_1.out (bl_ HB)); (case side2 => exact HC0_1.out); rintro e w47 ⟨v359, rfl, ho0, hb⟩; refine ⟨_, rfl, ?_⟩; have HO360 := am_ (Kd.R_lower (Kd.R_new' (Kd.R_new' (Kd.R_new' ho0 (Kd.R_lt (rk_ HO343 BK356))) (Kd.R_lt (rk_ HO348 BK356))) (Kd.R_lt (rk_ HO353 BK356))) (below_size (bl_ HB))); replace HO343 := am_ (Kd.R_elder' (rk_ HO343 BK356) (Kd.R_base ho0) hb); replace HO348 := am_ (Kd.R_elder' (rk_ HO348 BK356) (Kd.R_base ho0) hb); replace HO353 := am_ (Kd.R_elder' (rk_ HO353 BK356) (Kd.R_base ho0) hb); replace BK336 := am_ (blk_below (bk_ BK336) hb); replace BK337 := am_ (blk_below (bk_ BK337) hb); replace BK356 := am_ (blk_below (bp3_ BK356) hb); replace HB := am_ (below_step (bl_ HB) hb); (try clear hb); (try clear hb2); (try clear hk); (try clear hi); (try clear ho0)) | ((with_reducible refine gate_dst (N := 8) rfl ?_); refine box_event ?hg (N := 8) ?hd (cs := #[.int .i64 0, .slice none 0 0, .int .i64 0]) (t := 30) ?hr ?_; (case hd => rfl); (case hg => rfl); (case hr => first | (go_simp; done) | (go_simp; rfl)); intro gb362 hg w48 hbox hb; have BK362 := am_ (hbox); have GW362 := am_ (gs_ hg HB); have GE362 := am_ (gs_ hg HB); have NB336_362 := am_ (nl_ hg BK336); have NB362_336 := am_ (ng_ hg BK336); have NB337_362 := am_ (nl_ hg BK337); have NB362_337 := am_ (ng_ hg BK337); have NB356_362 := am_ (nl_ hg BK356); have NB362_356 := am_ (ng_ hg BK356); replace HO343 := am_ (Kd.R_below (kr_ HO343) hb); replace HO348 := am_ (Kd.R_below (kr_ HO348) hb); replace HO353 := am_ (Kd.R_below (kr_ HO353) hb); replace HO360 := am_ (Kd.R_below (kr_ HO360) hb); replace BK336 := am_ (blk_below (bk_ BK336) hb); replace BK337 := am_ (blk_below (bk_ BK337) hb); replace BK356 := am_ (blk_below (bk_ BK356) hb); replace HB := am_ (below_step (bl_ HB) hb); clear hb hbox hg; have hnb49 := NB362_336.out; have hnc49 := NB336_362.out; have hnb50 := NB362_337.out; have hnc50 := NB337_362.out; have hnb51 := NB362_356.out; have hnc51 := NB356_362.out; have hcz52_0 : w48.cell? ⟨gb362, 0, none⟩ = some (.int .i64 0) := bc_ BK362 0; have hcz52_1 : w48.cell? ⟨gb362, 1, none⟩ = some (.slice none 0 0) := bc_ BK362 1; have hcz52_2 : w48.cell? ⟨gb362, 2, none⟩ = some (.int .i64 0) := bc_ BK362 2; have hfz52_0 := blk_frozen BK362.out 0; have hfz52_1 := blk_frozen BK362.out 1; have hfz52_2 := blk_frozen BK362.out 2; obtain ⟨Ao53, co53, eo53⟩ := Kd.R_slice HO360.out; subst eo53; have hnb54 := NB337_356.out; have hnc54 := NB356_337.out; have hcz55_0 : w48.cell? ⟨gb337, 0, none⟩ = some (.int .i64 a1_0) := bc_ BK337 0; have hcz55_1 : w48.cell? ⟨gb337, 1, none⟩ = some (.slice A1_1 l1_1.length c1_1) := bc_ BK337 1; have hcz55_2 : w48.cell? ⟨gb337, 2, none⟩ = some (.int .i64 a1_2) := bc_ BK337 2; have hfz55_0 := blk_frozen BK337.out 0; have hfz55_1 := blk_frozen BK337.out 1; have hfz55_2 := blk_frozen BK337.out 2) | ((with_reducible refine gate_callee (f := 13) rfl ?_); refine goesL_ (some 38) rfl rfl Tryd.func13 (by kernel_rfl) rfl #[.agg #[.int .i64 a1_0, .slice A1_1 l1_1.length c1_1, .int .i64 a1_2]] rfl ma_ ?_; (with_reducible refine (laws_toDyadic.calls k a1_0 _ _ l1_1 a1_2 t363 t364 t367 _ ?side1 ?side2 A23.out).mono ?_); (case side1 => exact Kd.C_below HR1_1.out (bl_ HB)); (case side2 => exact HC1_1.out); rintro e w56 ⟨v365, rfl, ho0, hb⟩; refine ⟨_, rfl, ?_⟩; have HO366 := am_ (Kd.R_lower (Kd.R_new' (Kd.R_new' (Kd.R_new' (Kd.R_new' ho0 (Kd.R_lt (rk_ HO343 BK362))) (Kd.R_lt (rk_ HO348 BK362))) (Kd.R_lt (rk_ HO353 BK362))) (Kd.R_lt (rk_ HO360 BK362))) (below_size (bl_ HB))); replace HO343 := am_ (Kd.R_elder' (rk_ HO343 BK362) (Kd.R_base ho0) hb); replace HO348 := am_ (Kd.R_elder' (rk_ HO348 BK362) (Kd.R_base ho0) hb); replace HO353 := am_ (Kd.R_elder' (rk_ HO353 BK362) (Kd.R_base ho0) hb); replace HO360 := am_ (Kd.R_elder' (rk_ HO360 BK362) (Kd.R_base ho0) hb); replace BK336 := am_ (blk_below (bk_ BK336) hb); replace BK337 := am_ (blk_below (bk_ BK337) hb); replace BK356 := am_ (blk_below (bk_ BK356) hb); replace BK362 := am_ (blk_below (bp3_ BK362) hb); replace HB := am_ (below_step (bl_ HB) hb); (try clear hb); (try clear hb2); (try clear hk); (try clear hi); (try clear ho0)) | ((with_reducible refine gate_dst (N := 9) rfl ?_); refine box_event ?hg (N := 9) ?hd (cs := #[.int .i64 0, .slice none 0 0, .int .i64 0]) (t := 30) ?hr ?_; (case hd => rfl); (case hg => rfl); (case hr => first | (go_simp; done) | (go_simp; rfl)); intro gb368 hg w57 hbox hb; have BK368 := am_ (hbox); have GW368 := am_ (gs_ hg HB); have GE368 := am_ (gs_ hg HB); have NB336_368 := am_ (nl_ hg BK336); have NB368_336 := am_ (ng_ hg BK336); have NB337_368 := am_ (nl_ hg BK337); have NB368_337 := am_ (ng_ hg BK337); have NB356_368 := am_ (nl_ hg BK356); have NB368_356 := am_ (ng_ hg BK356); have NB362_368 := am_ (nl_ hg BK362); have NB368_362 := am_ (ng_ hg BK362); replace HO343 := am_ (Kd.R_below (kr_ HO343) hb); replace HO348 := am_ (Kd.R_below (kr_ HO348) hb); replace HO353 := am_ (Kd.R_below (kr_ HO353) hb); replace HO360 := am_ (Kd.R_below (kr_ HO360) hb); replace HO366 := am_ (Kd.R_below (kr_ HO366) hb); replace BK336 := am_ (blk_below (bk_ BK336) hb); replace BK337 := am_ (blk_below (bk_ BK337) hb); replace BK356 := am_ (blk_below (bk_ BK356) hb); replace BK362 := am_ (blk_below (bk_ BK362) hb); replace HB := am_ (below_step (bl_ HB) hb); clear hb hbox hg; have hnb58 := NB368_336.out; have hnc58 := NB336_368.out; have hnb59 := NB368_337.out; have hnc59 := NB337_368.out; have hnb60 := NB368_356.out; have hnc60 := NB356_368.out; have hnb61 := NB368_362.out; have hnc61 := NB362_368.out; have hcz62_0 : w57.cell? ⟨gb368, 0, none⟩ = some (.int .i64 0) := bc_ BK368 0; have hcz62_1 : w57.cell? ⟨gb368, 1, none⟩ = some (.slice none 0 0) := bc_ BK368 1; have hcz62_2 : w57.cell? ⟨gb368, 2, none⟩ = some (.int .i64 0) := bc_ BK368 2; have hfz62_0 := blk_frozen BK368.out 0; have hfz62_1 := blk_frozen BK368.out 1; have hfz62_2 := blk_frozen BK368.out 2; obtain ⟨Ao63, co63, eo63⟩ := Kd.R_slice HO366.out; subst eo63; have hcz64_0 : w57.cell? ⟨gb362, 0, none⟩ = some (.int .i64 t357) := bc_ BK362 0; have hcz64_1 : w57.cell? ⟨gb362, 1, none⟩ = some (.slice Ao53 t358.length co53) := bc_ BK362 1; have hcz64_2 : w57.cell? ⟨gb362, 2, none⟩ = some (.int .i64 t361) := bc_ BK362 2; have hfz64_0 := blk_frozen BK362.out 0; have hfz64_1 := blk_frozen BK362.out 1; have hfz64_2 := blk_frozen BK362.out 2) | ((with_reducible refine gate_callee (f := 14) rfl ?_); refine goesL_ (some 42) rfl rfl Tryd.func14 (by kernel_rfl) rfl #[.agg #[.int .i64 t357, .slice Ao53 t358.length co53, .int .i64 t361], .agg #[.int .i64 t363, .slice Ao63 t364.length co63, .int .i64 t367]] rfl ma_ ?_; (with_reducible refine (impl_AddDyadics.calls t357 _ _ t358 t361 t363 _ _ t364 t367 t369 t370 t373 t374 _ ?side1 ?side2 ?side3 ?side4 ?sideT A24.out).mono ?_); (case sideT => exact Go.Proofs.YthddlechoibdkaaDoor.Big.Tab.below HTab.out (bl_ HB)); (case side1 => refine (Kd.R_reads' (e := 2) (base := w.heap.size) (ok := fun k_ => ((((True ∧ some k_ ≠ (v342 : Value).ownBlock) ∧ some k_ ≠ (v347 : Value).ownBlock) ∧ some k_ ≠ (.slice Ao42 t351.length co42 : Value).ownBlock) ∧ some k_ ≠ (.slice Ao63 t364.length co63 : Value).ownBlock)) (n := t358.length) (c := co53) ?_).2.2; exact (rk_ HO360 BK368)); (case side2 => exact (Kd.R_reads' HO360.out).2.1); (case side3 => refine (Kd.R_reads' (e := 2) (base := w.heap.size) (ok := fun k_ => ((((True ∧ some k_ ≠ (v342 : Value).ownBlock) ∧ some k_ ≠ (v347 : Value).ownBlock) ∧ some k_ ≠ (.slice Ao42 t351.length co42 : Value).ownBlock) ∧ some k_ ≠ (.slice Ao53 t358.length co53 : Value).ownBlock)) (n := t364.length) (c := co63) ?_).2.2; exact (rk_ HO366 BK368)); (case side4 => exact (Kd.R_reads' HO366.out).2.1); rintro e w65 ⟨v371, rfl, ho0, hb⟩; refine ⟨_, rfl, ?_⟩; have HO372 := am_ (Kd.R_lower (Kd.R_new' (Kd.R_new' (Kd.R_new' (Kd.R_new' (Kd.R_new' ho0 (Kd.R_lt (rk_ HO343 BK368))) (Kd.R_lt (rk_ HO348 BK368))) (Kd.R_lt (rk_ HO353 BK368))) (Kd.R_lt (rk_ HO360 BK368))) (Kd.R_lt (rk_ HO366 BK368))) (below_size (bl_ HB))); replace HO343 := am_ (Kd.R_elder' (rk_ HO343 BK368) (Kd.R_base ho0) hb); replace HO348 := am_ (Kd.R_elder' (rk_ HO348 BK368) (Kd.R_base ho0) hb); replace HO353 := am_ (Kd.R_elder' (rk_ HO353 BK368) (Kd.R_base ho0) hb); replace HO360 := am_ (Kd.R_elder' (rk_ HO360 BK368) (Kd.R_base ho0) hb); replace HO366 := am_ (Kd.R_elder' (rk_ HO366 BK368) (Kd.R_base ho0) hb); replace BK336 := am_ (blk_below (bk_ BK336) hb); replace BK337 := am_ (blk_below (bk_ BK337) hb); replace BK356 := am_ (blk_below (bk_ BK356) hb); replace BK362 := am_ (blk_below (bk_ BK362) hb); replace BK368 := am_ (blk_below (bp3_ BK368) hb); replace HB := am_ (below_step (bl_ HB) hb); (try clear hb); (try clear hb2); (try clear hk); (try clear hi); (try clear ho0)) | ((with_reducible refine gate_dst (N := 10) rfl ?_); refine box_event ?hg (N := 10) ?hd (cs := #[.int .i64 0, .slice none 0 0, .int .i64 0]) (t := 30) ?hr ?_; (case hd => rfl); (case hg => rfl); (case hr => first | (go_simp; done) | (go_simp; rfl)); intro gb375 hg w66 hbox hb; have BK375 := am_ (hbox); have GW375 := am_ (gs_ hg HB); have GE375 := am_ (gs_ hg HB); have NB336_375 := am_ (nl_ hg BK336); have NB375_336 := am_ (ng_ hg BK336); have NB337_375 := am_ (nl_ hg BK337); have NB375_337 := am_ (ng_ hg BK337); have NB356_375 := am_ (nl_ hg BK356); have NB375_356 := am_ (ng_ hg BK356); have NB362_375 := am_ (nl_ hg BK362); have NB375_362 := am_ (ng_ hg BK362); have NB368_375 := am_ (nl_ hg BK368); have NB375_368 := am_ (ng_ hg BK368); replace HO343 := am_ (Kd.R_below (kr_ HO343) hb); replace HO348 := am_ (Kd.R_below (kr_ HO348) hb); replace HO353 := am_ (Kd.R_below (kr_ HO353) hb); replace HO360 := am_ (Kd.R_below (kr_ HO360) hb); replace HO366 := am_ (Kd.R_below (kr_ HO366) hb); replace HO372 := am_ (Kd.R_below (kr_ HO372) hb); replace BK336 := am_ (blk_below (bk_ BK336) hb); replace BK337 := am_ (blk_below (bk_ BK337) hb); replace BK356 := am_ (blk_below (bk_ BK356) hb); replace BK362 := am_ (blk_below (bk_ BK362) hb); replace BK368 := am_ (blk_below (bk_ BK368) hb); replace HB := am_ (below_step (bl_ HB) hb); clear hb hbox hg; have hnb67 := NB375_336.out; have hnc67 := NB336_375.out; have hnb68 := NB375_337.out; have hnc68 := NB337_375.out; have hnb69 := NB375_356.out; have hnc69 := NB356_375.out; have hnb70 := NB375_362.out; have hnc70 := NB362_375.out; have hnb71 := NB375_368.out; have hnc71 := NB368_375.out; have hcz72_0 : w66.cell? ⟨gb375, 0, none⟩ = some (.int .i64 0) := bc_ BK375 0; have hcz72_1 : w66.cell? ⟨gb375, 1, none⟩ = some (.slice none 0 0) := bc_ BK375 1; have hcz72_2 : w66.cell? ⟨gb375, 2, none⟩ = some (.int .i64 0) := bc_ BK375 2; have hfz72_0 := blk_frozen BK375.out 0; have hfz72_1 := blk_frozen BK375.out 1; have hfz72_2 := blk_frozen BK375.out 2; obtain ⟨Ao73, co73, eo73⟩ := Kd.R_slice HO372.out; subst eo73))
   (try simp only [Act.put, List.setIfInBounds_toArray, List.set_cons_zero, List.set_cons_succ])
   go_cut [53] (fun v53 wc => ∃ (kq : Nat) (x53_24 : Bool), v53 = .bool x53_24 ∧ Aside0 (laws_FnExactAddDyadics.j0 kq t355 t374 x53_24 a0_0 l0_1 a0_2 a1_0 l1_1 a1_2 t350 t351 t354 t357 t358 t361 t363 t364 t367 t369 t370 t373 = some r) ∧ Aside0 (kq ≤ k) ∧ Aside0 (Kd.R (Kd.int .i64) 2 wc w.heap.size (fun k_ => some k_ ≠ ((.slice Ao53 t358.length co53) : Value).ownBlock ∧ some k_ ≠ ((.slice Ao63 t364.length co63) : Value).ownBlock ∧ some k_ ≠ ((.slice Ao73 t370.length co73) : Value).ownBlock) (.slice Ao42 t351.length co42) t351) ∧ Aside0 (Kd.R (Kd.int .i64) 2 wc w.heap.size (fun k_ => some k_ ≠ ((.slice Ao42 t351.length co42) : Value).ownBlock ∧ some k_ ≠ ((.slice Ao63 t364.length co63) : Value).ownBlock ∧ some k_ ≠ ((.slice Ao73 t370.length co73) : Value).ownBlock) (.slice Ao53 t358.length co53) t358) ∧ Aside0 (Kd.R (Kd.int .i64) 2 wc w.heap.size (fun k_ => some k_ ≠ ((.slice Ao42 t351.length co42) : Value).ownBlock ∧ some k_ ≠ ((.slice Ao53 t358.length co53) : Value).ownBlock ∧ some k_ ≠ ((.slice Ao73 t370.length co73) : Value).ownBlock) (.slice Ao63 t364.length co63) t364) ∧ Aside0 (Kd.R (Kd.int .i64) 2 wc w.heap.size (fun k_ => some k_ ≠ ((.slice Ao42 t351.length co42) : Value).ownBlock ∧ some k_ ≠ ((.slice Ao53 t358.length co53) : Value).ownBlock ∧ some k_ ≠ ((.slice Ao63 t364.length co63) : Value).ownBlock) (.slice Ao73 t370.length co73) t370) ∧ Aside0 (wc.heap[gb336]? = some (.cells #[.int .i64 a0_0, (.slice A0_1 l0_1.length c0_1), .int .i64 a0_2] 26 (0, 0))) ∧ Aside0 (wc.heap[gb337]? = some (.cells #[.int .i64 a1_0, (.slice A1_1 l1_1.length c1_1), .int .i64 a1_2] 26 (0, 0))) ∧ Aside0 (wc.heap[gb356]? = some (.cells #[.int .i64 t350, (.slice Ao42 t351.length co42), .int .i64 t354] 30 (0, 0))) ∧ Aside0 (wc.heap[gb362]? = some (.cells #[.int .i64 t357, (.slice Ao53 t358.length co53), .int .i64 t361] 30 (0, 0))) ∧ Aside0 (wc.heap[gb368]? = some (.cells #[.int .i64 t363, (.slice Ao63 t364.length co63), .int .i64 t367] 30 (0, 0))) ∧ Aside0 (wc.heap[gb375]? = some (.cells #[.int .i64 t369, (.slice Ao73 t370.length co73), .int .i64 t373] 30 (0, 0))) ∧ Aside0 (Below w.heap.size w wc))
   case first =>
    have H := HC25.out; clear HC25
    replace H := Option.bind_eq_some_iff.mp H
    obtain ⟨t376, A740, H⟩ := H
    replace H : (if t376 = true then (laws_FnExactAddDyadics.j0 k t355 t374 (t374 != t355) a0_0 l0_1 a0_2 a1_0 l1_1 a1_2 t350 t351 t354 t357 t358 t361 t363 t364 t367 t369 t370 t373) else (laws_FnExactAddDyadics.j0 k t355 t374 true a0_0 l0_1 a0_2 a1_0 l1_1 a1_2 t350 t351 t354 t357 t358 t361 t363 t364 t367 t369 t370 t373)) = some r := H
    have A74 := Aside0.mk A740; clear A740
    by_cases c75 : t376 = true
    ·subst c75
     have H1 : (laws_FnExactAddDyadics.j0 k t355 t374 (t374 != t355) a0_0 l0_1 a0_2 a1_0 l1_1 a1_2 t350 t351 t354 t357 t358 t361 t363 t364 t367 t369 t370 t373) = some r := by rw [if_pos rfl] at H; exact H
     clear H; have H := H1; clear H1
     have H' := Aside0.mk H
     clear H; have hnb76 := NB375_336.out; have hnc76 := NB336_375.out; have hnb77 := NB375_337.out; have hnc77 := NB337_375.out; have hnb78 := NB375_356.out; have hnc78 := NB356_375.out; have hnb79 := NB375_362.out; have hnc79 := NB362_375.out; have hnb80 := NB375_368.out; have hnc80 := NB368_375.out
     have hcz81_0 : w66.cell? ⟨gb375, 0, none⟩ = some (.int .i64 0) := bc_ BK375 0
     have hcz81_1 : w66.cell? ⟨gb375, 1, none⟩ = some (.slice none 0 0) := bc_ BK375 1
     have hcz81_2 : w66.cell? ⟨gb375, 2, none⟩ = some (.int .i64 0) := bc_ BK375 2
     have hfz81_0 := blk_frozen BK375.out 0; have hfz81_1 := blk_frozen BK375.out 1; have hfz81_2 := blk_frozen BK375.out 2; have hnb82 := NB356_336.out; have hnc82 := NB336_356.out; have hnb83 := NB356_337.out; have hnc83 := NB337_356.out; have hnb84 := NB356_362.out; have hnc84 := NB362_356.out; have hnb85 := NB356_368.out; have hnc85 := NB368_356.out
     have hcz86_0 : w66.cell? ⟨gb356, 0, none⟩ = some (.int .i64 t350) := bc_ BK356 0
     have hcz86_1 : w66.cell? ⟨gb356, 1, none⟩ = some (.slice Ao42 t351.length co42) := bc_ BK356 1
     have hcz86_2 : w66.cell? ⟨gb356, 2, none⟩ = some (.int .i64 t354) := bc_ BK356 2
     have hfz86_0 := blk_frozen BK356.out 0; have hfz86_1 := blk_frozen BK356.out 1; have hfz86_2 := blk_frozen BK356.out 2
     go_wp2_with (first | ((with_reducible refine gate_callee (f := 15) rfl ?_); refine goesL_ (some 47) rfl rfl Tryd.func15 (by kernel_rfl) rfl #[.agg #[.int .i64 t369, .slice Ao73 t370.length co73, .int .i64 t373], .agg #[.int .i64 t350, .slice Ao42 t351.length co42, .int .i64 t354]] rfl ma_ ?_; (with_reducible refine (laws_eqDyadic.calls k t369 _ _ t370 t373 t350 _ _ t351 t354 true _ ?side1 ?side2 ?side3 ?side4 A74.out).mono ?_); (case side1 => refine (Kd.R_reads' (e := 2) (base := w.heap.size) (ok := fun k_ => (((((True ∧ some k_ ≠ (v342 : Value).ownBlock) ∧ some k_ ≠ (v347 : Value).ownBlock) ∧ some k_ ≠ (.slice Ao42 t351.length co42 : Value).ownBlock) ∧ some k_ ≠ (.slice Ao53 t358.length co53 : Value).ownBlock) ∧ some k_ ≠ (.slice Ao63 t364.length co63 : Value).ownBlock)) (n := t370.length) (c := co73) ?_).2.2; exact (rk_ HO372 BK375)); (case side2 => exact (Kd.R_reads' HO372.out).2.1); (case side3 => refine (Kd.R_reads' (e := 2) (base := w.heap.size) (ok := fun k_ => ((((some k_ ≠ (v342 : Value).ownBlock ∧ some k_ ≠ (v347 : Value).ownBlock) ∧ some k_ ≠ (.slice Ao53 t358.length co53 : Value).ownBlock) ∧ some k_ ≠ (.slice Ao63 t364.length co63 : Value).ownBlock) ∧ some k_ ≠ (.slice Ao73 t370.length co73 : Value).ownBlock)) (n := t351.length) (c := co42) ?_).2.2; exact (rk_ HO353 BK375)); (case side4 => exact (Kd.R_reads' HO353.out).2.1); rintro e w87 ⟨rfl, hb⟩; refine ⟨_, rfl, ?_⟩; replace HO343 := am_ (Kd.R_below (rk_ HO343 BK375) hb); replace HO348 := am_ (Kd.R_below (rk_ HO348 BK375) hb); replace HO353 := am_ (Kd.R_below (rk_ HO353 BK375) hb); replace HO360 := am_ (Kd.R_below (rk_ HO360 BK375) hb); replace HO366 := am_ (Kd.R_below (rk_ HO366 BK375) hb); replace HO372 := am_ (Kd.R_below (rk_ HO372 BK375) hb); replace BK336 := am_ (blk_below (bk_ BK336) hb); replace BK337 := am_ (blk_below (bk_ BK337) hb); replace BK356 := am_ (blk_below (bk_ BK356) hb); replace BK362 := am_ (blk_below (bk_ BK362) hb); replace BK368 := am_ (blk_below (bk_ BK368) hb); replace BK375 := am_ (blk_below (bp3_ BK375) hb); replace HB := am_ (below_step (bl_ HB) hb); (try clear hb); (try clear hb2); (try clear hk); (try clear hi)))
     go_meet
     case rel => exact ⟨_, ((t374 != t355)), (by first | rfl | (simp; done) | (simp [*]; done)), H', ⟨by first | omega | exact Nat.le_refl _⟩, ⟨km_ HO353 (fun _ hk => ⟨hk.1.1.2, ⟨hk.1.2, hk.2⟩⟩)⟩, ⟨km_ HO360 (fun _ hk => ⟨hk.1.1.2, ⟨hk.1.2, hk.2⟩⟩)⟩, ⟨km_ HO366 (fun _ hk => ⟨hk.1.1.2, ⟨hk.1.2, hk.2⟩⟩)⟩, ⟨km_ HO372 (fun _ hk => ⟨hk.1.1.2, ⟨hk.1.2, hk.2⟩⟩)⟩, ⟨bk_ BK336⟩, ⟨bk_ BK337⟩, ⟨bk_ BK356⟩, ⟨bk_ BK362⟩, ⟨bk_ BK368⟩, ⟨bk_ BK375⟩, ⟨bl_ HB⟩⟩
    ·replace c75 := Bool.eq_false_iff.mpr c75
     subst c75
     have H1 : (laws_FnExactAddDyadics.j0 k t355 t374 true a0_0 l0_1 a0_2 a1_0 l1_1 a1_2 t350 t351 t354 t357 t358 t361 t363 t364 t367 t369 t370 t373) = some r := by rw [if_neg (show ¬ (false = true) by decide)] at H; exact H
     clear H; have H := H1; clear H1
     have H' := Aside0.mk H
     clear H; have hnb88 := NB375_336.out; have hnc88 := NB336_375.out; have hnb89 := NB375_337.out; have hnc89 := NB337_375.out; have hnb90 := NB375_356.out; have hnc90 := NB356_375.out; have hnb91 := NB375_362.out; have hnc91 := NB362_375.out; have hnb92 := NB375_368.out; have hnc92 := NB368_375.out
     have hcz93_0 : w66.cell? ⟨gb375, 0, none⟩ = some (.int .i64 0) := bc_ BK375 0
     have hcz93_1 : w66.cell? ⟨gb375, 1, none⟩ = some (.slice none 0 0) := bc_ BK375 1
     have hcz93_2 : w66.cell? ⟨gb375, 2, none⟩ = some (.int .i64 0) := bc_ BK375 2
     have hfz93_0 := blk_frozen BK375.out 0; have hfz93_1 := blk_frozen BK375.out 1; have hfz93_2 := blk_frozen BK375.out 2; have hnb94 := NB356_336.out; have hnc94 := NB336_356.out; have hnb95 := NB356_337.out; have hnc95 := NB337_356.out; have hnb96 := NB356_362.out; have hnc96 := NB362_356.out; have hnb97 := NB356_368.out; have hnc97 := NB368_356.out
     have hcz98_0 : w66.cell? ⟨gb356, 0, none⟩ = some (.int .i64 t350) := bc_ BK356 0
     have hcz98_1 : w66.cell? ⟨gb356, 1, none⟩ = some (.slice Ao42 t351.length co42) := bc_ BK356 1
     have hcz98_2 : w66.cell? ⟨gb356, 2, none⟩ = some (.int .i64 t354) := bc_ BK356 2
     have hfz98_0 := blk_frozen BK356.out 0; have hfz98_1 := blk_frozen BK356.out 1; have hfz98_2 := blk_frozen BK356.out 2
     go_wp2_with (first | ((with_reducible refine gate_callee (f := 15) rfl ?_); refine goesL_ (some 47) rfl rfl Tryd.func15 (by kernel_rfl) rfl #[.agg #[.int .i64 t369, .slice Ao73 t370.length co73, .int .i64 t373], .agg #[.int .i64 t350, .slice Ao42 t351.length co42, .int .i64 t354]] rfl ma_ ?_; (with_reducible refine (laws_eqDyadic.calls k t369 _ _ t370 t373 t350 _ _ t351 t354 false _ ?side1 ?side2 ?side3 ?side4 A74.out).mono ?_); (case side1 => refine (Kd.R_reads' (e := 2) (base := w.heap.size) (ok := fun k_ => (((((True ∧ some k_ ≠ (v342 : Value).ownBlock) ∧ some k_ ≠ (v347 : Value).ownBlock) ∧ some k_ ≠ (.slice Ao42 t351.length co42 : Value).ownBlock) ∧ some k_ ≠ (.slice Ao53 t358.length co53 : Value).ownBlock) ∧ some k_ ≠ (.slice Ao63 t364.length co63 : Value).ownBlock)) (n := t370.length) (c := co73) ?_).2.2; exact (rk_ HO372 BK375)); (case side2 => exact (Kd.R_reads' HO372.out).2.1); (case side3 => refine (Kd.R_reads' (e := 2) (base := w.heap.size) (ok := fun k_ => ((((some k_ ≠ (v342 : Value).ownBlock ∧ some k_ ≠ (v347 : Value).ownBlock) ∧ some k_ ≠ (.slice Ao53 t358.length co53 : Value).ownBlock) ∧ some k_ ≠ (.slice Ao63 t364.length co63 : Value).ownBlock) ∧ some k_ ≠ (.slice Ao73 t370.length co73 : Value).ownBlock)) (n := t351.length) (c := co42) ?_).2.2; exact (rk_ HO353 BK375)); (case side4 => exact (Kd.R_reads' HO353.out).2.1); rintro e w99 ⟨rfl, hb⟩; refine ⟨_, rfl, ?_⟩; replace HO343 := am_ (Kd.R_below (rk_ HO343 BK375) hb); replace HO348 := am_ (Kd.R_below (rk_ HO348 BK375) hb); replace HO353 := am_ (Kd.R_below (rk_ HO353 BK375) hb); replace HO360 := am_ (Kd.R_below (rk_ HO360 BK375) hb); replace HO366 := am_ (Kd.R_below (rk_ HO366 BK375) hb); replace HO372 := am_ (Kd.R_below (rk_ HO372 BK375) hb); replace BK336 := am_ (blk_below (bk_ BK336) hb); replace BK337 := am_ (blk_below (bk_ BK337) hb); replace BK356 := am_ (blk_below (bk_ BK356) hb); replace BK362 := am_ (blk_below (bk_ BK362) hb); replace BK368 := am_ (blk_below (bk_ BK368) hb); replace BK375 := am_ (blk_below (bp3_ BK375) hb); replace HB := am_ (below_step (bl_ HB) hb); (try clear hb); (try clear hb2); (try clear hk); (try clear hi)))
     go_meet
     case rel => exact ⟨_, (true), (by first | rfl | (simp; done) | (simp [*]; done)), H', ⟨by first | omega | exact Nat.le_refl _⟩, ⟨km_ HO353 (fun _ hk => ⟨hk.1.1.2, ⟨hk.1.2, hk.2⟩⟩)⟩, ⟨km_ HO360 (fun _ hk => ⟨hk.1.1.2, ⟨hk.1.2, hk.2⟩⟩)⟩, ⟨km_ HO366 (fun _ hk => ⟨hk.1.1.2, ⟨hk.1.2, hk.2⟩⟩)⟩, ⟨km_ HO372 (fun _ hk => ⟨hk.1.1.2, ⟨hk.1.2, hk.2⟩⟩)⟩, ⟨bk_ BK336⟩, ⟨bk_ BK337⟩, ⟨bk_ BK356⟩, ⟨bk_ BK362⟩, ⟨bk_ BK368⟩, ⟨bk_ BK375⟩, ⟨bl_ HB⟩⟩
   case rest =>
    clear HC25; try clear c1; try clear p2; try clear c4; try clear c5; try clear c6; try clear c7; try clear c8; try clear c9; try clear c12; try clear c13; try clear c14; try clear c15; try clear c45; try clear c49; try clear c50; try clear c51; try clear c54; try clear c58; try clear c59; try clear c60; try clear c61; try clear c67; try clear c68; try clear c69; try clear c70; try clear c71; try clear c75; try clear c76; try clear c77; try clear c78; try clear c79; try clear c80; try clear c82; try clear c83; try clear c84; try clear c85; try clear c88; try clear c89; try clear c90; try clear c91; try clear c92; try clear c94; try clear c95; try clear c96; try clear c97; try clear hcz46_0; try clear hcz46_1; try clear hcz46_2; try clear hcz52_0; try clear hcz52_1; try clear hcz52_2; try clear hcz55_0; try clear hcz55_1; try clear hcz55_2; try clear hcz62_0; try clear hcz62_1; try clear hcz62_2; try clear hcz64_0; try clear hcz64_1; try clear hcz64_2; try clear hcz72_0; try clear hcz72_1; try clear hcz72_2; try clear hcz81_0; try clear hcz81_1; try clear hcz81_2; try clear hcz86_0; try clear hcz86_1; try clear hcz86_2; try clear hcz93_0; try clear hcz93_1; try clear hcz93_2; try clear hcz98_0; try clear hcz98_1; try clear hcz98_2; try clear hfz46_0; try clear hfz46_1; try clear hfz46_2; try clear hfz52_0; try clear hfz52_1; try clear hfz52_2; try clear hfz55_0; try clear hfz55_1; try clear hfz55_2; try clear hfz62_0; try clear hfz62_1; try clear hfz62_2; try clear hfz64_0; try clear hfz64_1; try clear hfz64_2; try clear hfz72_0; try clear hfz72_1; try clear hfz72_2; try clear hfz81_0; try clear hfz81_1; try clear hfz81_2; try clear hfz86_0; try clear hfz86_1; try clear hfz86_2; try clear hfz93_0; try clear hfz93_1; try clear hfz93_2; try clear hfz98_0; try clear hfz98_1; try clear hfz98_2
    obtain ⟨kq, x53_24, rfl, HA, HJ24, HO_357001, HO_363001, HO_369001, HO_376001, BK336, BK337, BK356, BK362, BK368, BK375, HB⟩ := hcut
    cases kq with
    | zero => exact absurd HA.out (by simp [laws_FnExactAddDyadics.j0])
    | succ kj24 =>
     have H := HA.out; clear HA
     simp only [laws_FnExactAddDyadics.j0] at H
     by_cases c100 : x53_24 = true
     ·subst c100
      have H1 : (some false) = some r := by rw [if_pos rfl] at H; exact H
      clear H; have H := H1; clear H1; obtain rfl := Option.some.inj H
      go_wp2
      go_ret
      exact ⟨by first | rfl | (simp [errW_none, errW_some] <;> rfl) | (simp [*, errW_none, errW_some] <;> rfl), bl_ HB⟩
     ·replace c100 := Bool.eq_false_iff.mpr c100
      subst c100
      have H1 : ((laws_toDyadic.f kj24 a0_0 l0_1 a0_2).bind fun bt377 => ((laws_eqDyadic.f kj24 t357 t358 t361 bt377.1 bt377.2.1 bt377.2.2).bind fun t382 => (if t382 = true then ((laws_toDyadic.f kj24 a1_0 l1_1 a1_2).bind fun bt383 => ((laws_eqDyadic.f kj24 t363 t364 t367 bt383.1 bt383.2.1 bt383.2.2).bind fun t388 => (if t388 = true then ((laws_markDyadic.f kj24 t357 t358 t361 1).bind fun bt389 => ((laws_markDyadic.f kj24 t363 t364 t367 bt389.1).bind fun bt391 => (if bt391.1 < 0 then (laws_FnExactAddDyadics.j1 kj24 t355 true a0_0 l0_1 a0_2 a1_0 l1_1 a1_2 t350 t351 t354 t369 t370 t373) else ((laws_eqDyadic.f kj24 t369 t370 t373 t350 t351 t354).bind fun t393 => (if t393 = true then (laws_FnExactAddDyadics.j1 kj24 t355 (t374 != t355) a0_0 l0_1 a0_2 a1_0 l1_1 a1_2 t350 t351 t354 t369 t370 t373) else (laws_FnExactAddDyadics.j1 kj24 t355 true a0_0 l0_1 a0_2 a1_0 l1_1 a1_2 t350 t351 t354 t369 t370 t373)))))) else (some false)))) else (some false)))) = some r := by rw [if_neg (show ¬ (false = true) by decide)] at H; exact H
      clear H; have H := H1; clear H1
      replace H := Option.bind_eq_some_iff.mp H
      obtain ⟨⟨t377, t378, t381⟩, A1010, H⟩ := H
      replace H : ((laws_eqDyadic.f kj24 t357 t358 t361 t377 t378 t381).bind fun t382 => (if t382 = true then ((laws_toDyadic.f kj24 a1_0 l1_1 a1_2).bind fun bt383 => ((laws_eqDyadic.f kj24 t363 t364 t367 bt383.1 bt383.2.1 bt383.2.2).bind fun t388 => (if t388 = true then ((laws_markDyadic.f kj24 t357 t358 t361 1).bind fun bt389 => ((laws_markDyadic.f kj24 t363 t364 t367 bt389.1).bind fun bt391 => (if bt391.1 < 0 then (laws_FnExactAddDyadics.j1 kj24 t355 true a0_0 l0_1 a0_2 a1_0 l1_1 a1_2 t350 t351 t354 t369 t370 t373) else ((laws_eqDyadic.f kj24 t369 t370 t373 t350 t351 t354).bind fun t393 => (if t393 = true then (laws_FnExactAddDyadics.j1 kj24 t355 (t374 != t355) a0_0 l0_1 a0_2 a1_0 l1_1 a1_2 t350 t351 t354 t369 t370 t373) else (laws_FnExactAddDyadics.j1 kj24 t355 true a0_0 l0_1 a0_2 a1_0 l1_1 a1_2 t350 t351 t354 t369 t370 t373)))))) else (some false)))) else (some false))) = some r := H
      have A101 := Aside0.mk A1010; clear A1010
      replace H := Option.bind_eq_some_iff.mp H
      obtain ⟨t382, A1020, H⟩ := H
      replace H : (if t382 = true then ((laws_toDyadic.f kj24 a1_0 l1_1 a1_2).bind fun bt383 => ((laws_eqDyadic.f kj24 t363 t364 t367 bt383.1 bt383.2.1 bt383.2.2).bind fun t388 => (if t388 = true then ((laws_markDyadic.f kj24 t357 t358 t361 1).bind fun bt389 => ((laws_markDyadic.f kj24 t363 t364 t367 bt389.1).bind fun bt391 => (if bt391.1 < 0 then (laws_FnExactAddDyadics.j1 kj24 t355 true a0_0 l0_1 a0_2 a1_0 l1_1 a1_2 t350 t351 t354 t369 t370 t373) else ((laws_eqDyadic.f kj24 t369 t370 t373 t350 t351 t354).bind fun t393 => (if t393 = true then (laws_FnExactAddDyadics.j1 kj24 t355 (t374 != t355) a0_0 l0_1 a0_2 a1_0 l1_1 a1_2 t350 t351 t354 t369 t370 t373) else (laws_FnExactAddDyadics.j1 kj24 t355 true a0_0 l0_1 a0_2 a1_0 l1_1 a1_2 t350 t351 t354 t369 t370 t373)))))) else (some false)))) else (some false)) = some r := H
      have A102 := Aside0.mk A1020; clear A1020
      by_cases c103 : t382 = true
      ·subst c103
       have H1 : ((laws_toDyadic.f kj24 a1_0 l1_1 a1_2).bind fun bt383 => ((laws_eqDyadic.f kj24 t363 t364 t367 bt383.1 bt383.2.1 bt383.2.2).bind fun t388 => (if t388 = true then ((laws_markDyadic.f kj24 t357 t358 t361 1).bind fun bt389 => ((laws_markDyadic.f kj24 t363 t364 t367 bt389.1).bind fun bt391 => (if bt391.1 < 0 then (laws_FnExactAddDyadics.j1 kj24 t355 true a0_0 l0_1 a0_2 a1_0 l1_1 a1_2 t350 t351 t354 t369 t370 t373) else ((laws_eqDyadic.f kj24 t369 t370 t373 t350 t351 t354).bind fun t393 => (if t393 = true then (laws_FnExactAddDyadics.j1 kj24 t355 (t374 != t355) a0_0 l0_1 a0_2 a1_0 l1_1 a1_2 t350 t351 t354 t369 t370 t373) else (laws_FnExactAddDyadics.j1 kj24 t355 true a0_0 l0_1 a0_2 a1_0 l1_1 a1_2 t350 t351 t354 t369 t370 t373)))))) else (some false)))) = some r := by rw [if_pos rfl] at H; exact H
       clear H; have H := H1; clear H1
       replace H := Option.bind_eq_some_iff.mp H
       obtain ⟨⟨t383, t384, t387⟩, A1040, H⟩ := H
       replace H : ((laws_eqDyadic.f kj24 t363 t364 t367 t383 t384 t387).bind fun t388 => (if t388 = true then ((laws_markDyadic.f kj24 t357 t358 t361 1).bind fun bt389 => ((laws_markDyadic.f kj24 t363 t364 t367 bt389.1).bind fun bt391 => (if bt391.1 < 0 then (laws_FnExactAddDyadics.j1 kj24 t355 true a0_0 l0_1 a0_2 a1_0 l1_1 a1_2 t350 t351 t354 t369 t370 t373) else ((laws_eqDyadic.f kj24 t369 t370 t373 t350 t351 t354).bind fun t393 => (if t393 = true then (laws_FnExactAddDyadics.j1 kj24 t355 (t374 != t355) a0_0 l0_1 a0_2 a1_0 l1_1 a1_2 t350 t351 t354 t369 t370 t373) else (laws_FnExactAddDyadics.j1 kj24 t355 true a0_0 l0_1 a0_2 a1_0 l1_1 a1_2 t350 t351 t354 t369 t370 t373)))))) else (some false))) = some r := H
       have A104 := Aside0.mk A1040; clear A1040
       replace H := Option.bind_eq_some_iff.mp H
       obtain ⟨t388, A1050, H⟩ := H
       replace H : (if t388 = true then ((laws_markDyadic.f kj24 t357 t358 t361 1).bind fun bt389 => ((laws_markDyadic.f kj24 t363 t364 t367 bt389.1).bind fun bt391 => (if bt391.1 < 0 then (laws_FnExactAddDyadics.j1 kj24 t355 true a0_0 l0_1 a0_2 a1_0 l1_1 a1_2 t350 t351 t354 t369 t370 t373) else ((laws_eqDyadic.f kj24 t369 t370 t373 t350 t351 t354).bind fun t393 => (if t393 = true then (laws_FnExactAddDyadics.j1 kj24 t355 (t374 != t355) a0_0 l0_1 a0_2 a1_0 l1_1 a1_2 t350 t351 t354 t369 t370 t373) else (laws_FnExactAddDyadics.j1 kj24 t355 true a0_0 l0_1 a0_2 a1_0 l1_1 a1_2 t350 t351 t354 t369 t370 t373)))))) else (some false)) = some r := H
       have A105 := Aside0.mk A1050; clear A1050
       by_cases c106 : t388 = true
       ·subst c106
        have H1 : ((laws_markDyadic.f kj24 t357 t358 t361 1).bind fun bt389 => ((laws_markDyadic.f kj24 t363 t364 t367 bt389.1).bind fun bt391 => (if bt391.1 < 0 then (laws_FnExactAddDyadics.j1 kj24 t355 true a0_0 l0_1 a0_2 a1_0 l1_1 a1_2 t350 t351 t354 t369 t370 t373) else ((laws_eqDyadic.f kj24 t369 t370 t373 t350 t351 t354).bind fun t393 => (if t393 = true then (laws_FnExactAddDyadics.j1 kj24 t355 (t374 != t355) a0_0 l0_1 a0_2 a1_0 l1_1 a1_2 t350 t351 t354 t369 t370 t373) else (laws_FnExactAddDyadics.j1 kj24 t355 true a0_0 l0_1 a0_2 a1_0 l1_1 a1_2 t350 t351 t354 t369 t370 t373)))))) = some r := by rw [if_pos rfl] at H; exact H
        clear H; have H := H1; clear H1
        replace H := Option.bind_eq_some_iff.mp H
        obtain ⟨⟨t389, t390⟩, A1070, H⟩ := H
        replace H : ((laws_markDyadic.f kj24 t363 t364 t367 t389).bind fun bt391 => (if bt391.1 < 0 then (laws_FnExactAddDyadics.j1 kj24 t355 true a0_0 l0_1 a0_2 a1_0 l1_1 a1_2 t350 t351 t354 t369 t370 t373) else ((laws_eqDyadic.f kj24 t369 t370 t373 t350 t351 t354).bind fun t393 => (if t393 = true then (laws_FnExactAddDyadics.j1 kj24 t355 (t374 != t355) a0_0 l0_1 a0_2 a1_0 l1_1 a1_2 t350 t351 t354 t369 t370 t373) else (laws_FnExactAddDyadics.j1 kj24 t355 true a0_0 l0_1 a0_2 a1_0 l1_1 a1_2 t350 t351 t354 t369 t370 t373))))) = some r := H
        have A107 := Aside0.mk A1070; clear A1070
        replace H := Option.bind_eq_some_iff.mp H
        obtain ⟨⟨t391, t392⟩, A1080, H⟩ := H
        replace H : (if t391 < 0 then (laws_FnExactAddDyadics.j1 kj24 t355 true a0_0 l0_1 a0_2 a1_0 l1_1 a1_2 t350 t351 t354 t369 t370 t373) else ((laws_eqDyadic.f kj24 t369 t370 t373 t350 t351 t354).bind fun t393 => (if t393 = true then (laws_FnExactAddDyadics.j1 kj24 t355 (t374 != t355) a0_0 l0_1 a0_2 a1_0 l1_1 a1_2 t350 t351 t354 t369 t370 t373) else (laws_FnExactAddDyadics.j1 kj24 t355 true a0_0 l0_1 a0_2 a1_0 l1_1 a1_2 t350 t351 t354 t369 t370 t373)))) = some r := H
        have A108 := Aside0.mk A1080; clear A1080; have HC109 := Aside0.mk H; clear H
        try go_wp2
        have n0_ := am_ (Kd.R_drew HO_357001.out); have n1_ := am_ (Kd.R_drew HO_363001.out); have n2_ := am_ (Kd.R_drew HO_369001.out); have n3_ := am_ (Kd.R_drew HO_376001.out); have n4_ := am_ (blk_drew BK336.out); have n5_ := am_ (blk_drew BK337.out); have n6_ := am_ (blk_drew BK356.out); have n7_ := am_ (blk_drew BK362.out); have n8_ := am_ (blk_drew BK368.out); have n9_ := am_ (blk_drew BK375.out); have n10_ := am_ (below_drew1 HB.out); clear HO_357001 HO_363001 HO_369001 HO_376001 BK336 BK337 BK356 BK362 BK368 BK375 HB; have HO_357001 := n0_; have HO_363001 := n1_; have HO_369001 := n2_; have HO_376001 := n3_; have BK336 := n4_; have BK337 := n5_; have BK356 := n6_; have BK362 := n7_; have BK368 := n8_; have BK375 := n9_; have HB := n10_; clear n0_ n1_ n2_ n3_ n4_ n5_ n6_ n7_ n8_ n9_ n10_
        refine start_ (n := 5) (S := fun w' => w'.cell? ⟨gb362, 0, none⟩ = some (.int .i64 t357) ∧ w'.cell? ⟨gb362, 1, none⟩ = some (.slice Ao53 t358.length co53) ∧ w'.cell? ⟨gb362, 2, none⟩ = some (.int .i64 t361) ∧ w'.cell? ⟨gb336, 0, none⟩ = some (.int .i64 a0_0) ∧ w'.cell? ⟨gb336, 1, none⟩ = some (.slice A0_1 l0_1.length c0_1) ∧ w'.cell? ⟨gb336, 2, none⟩ = some (.int .i64 a0_2)) (ds := []) #[false, false, false, false, false] (by kernel_rfl) rfl rfl ⟨bc_ BK362 0, bc_ BK362 1, bc_ BK362 2, bc_ BK336 0, bc_ BK336 1, bc_ BK336 2⟩ (fun hHeld => ?_)
        generalize wc.drew = w110 at HO_357001 HO_363001 HO_369001 HO_376001 BK336 BK337 BK356 BK362 BK368 BK375 HB hHeld ⊢
        refine take_ (i := 0) (N := some 54) (v := ?_) (a' := ?_) #[true, false, false, false, false] rfl rfl (by kernel_rfl) (fun _ _ _ h => h) (Or.inl ⟨by rfl, ?_⟩) hHeld ?_ ?_
        rotate_left
        ·rintro w' ⟨s0, s1, s2, s3, s4, s5⟩
         go_simp
         with_reducible rfl
        rotate_left
        ·exact nm_
        refine take_ (i := 1) (N := some 55) (v := ?_) (a' := ?_) #[true, true, false, false, false] rfl rfl (by kernel_rfl) (fun _ _ _ h => h) (Or.inl ⟨by rfl, ?_⟩) hHeld ?_ ?_
        rotate_left
        ·rintro w' ⟨s0, s1, s2, s3, s4, s5⟩
         go_simp
         with_reducible rfl
        rotate_left
        ·exact nm_
        refine one_ (i := 2) (N := some 56) #[true, true, true, false, false] rfl rfl (by kernel_rfl) (by decide) (fun K hK => ?_)
        refine goes_ Tryd.func13 (by kernel_rfl) rfl #[.agg #[.int .i64 a0_0, .slice A0_1 l0_1.length c0_1, .int .i64 a0_2]] (by rfl) rfl rfl ma_ ?_
        with_reducible refine (laws_toDyadic.calls kj24 a0_0 _ _ l0_1 a0_2 t377 t378 t381 _ ?side1 ?side2 A101.out).mono ?_
        (case side1 => exact cb_ HR0_1 HB)
        (case side2 => exact HC0_1.out)
        rintro e w111 ⟨v379, rfl, ho0, hb⟩
        refine ⟨_, rfl, ?_⟩
        have n0_ := am_ (Kd.R_elder' (kr_ HO_357001) (Kd.R_base ho0) hb); have n1_ := am_ (Kd.R_elder' (kr_ HO_363001) (Kd.R_base ho0) hb); have n2_ := am_ (Kd.R_elder' (kr_ HO_369001) (Kd.R_base ho0) hb); have n3_ := am_ (Kd.R_elder' (kr_ HO_376001) (Kd.R_base ho0) hb); have n4_ := am_ (Kd.R_lower (Kd.R_new' (Kd.R_new' (Kd.R_new' (Kd.R_new' ho0 (Kd.R_lt (kr_ HO_357001))) (Kd.R_lt (kr_ HO_363001))) (Kd.R_lt (kr_ HO_369001))) (Kd.R_lt (kr_ HO_376001))) (below_size (bl_ HB))); have n5_ := am_ (blk_below (bk_ BK336) hb); have n6_ := am_ (blk_below (bk_ BK337) hb); have n7_ := am_ (blk_below (bk_ BK356) hb); have n8_ := am_ (blk_below (bk_ BK362) hb); have n9_ := am_ (blk_below (bk_ BK368) hb); have n10_ := am_ (blk_below (bk_ BK375) hb); have n11_ := am_ (below_step (bl_ HB) hb); clear HO_357001 HO_363001 HO_369001 HO_376001 BK336 BK337 BK356 BK362 BK368 BK375 HB; have HO_357001 := n0_; have HO_363001 := n1_; have HO_369001 := n2_; have HO_376001 := n3_; have HO380 := n4_; have BK336 := n5_; have BK337 := n6_; have BK356 := n7_; have BK362 := n8_; have BK368 := n9_; have BK375 := n10_; have HB := n11_; clear n0_ n1_ n2_ n3_ n4_ n5_ n6_ n7_ n8_ n9_ n10_ n11_; (try clear hb); (try clear hb2); (try clear hk); (try clear hi); (try clear ho0)
        obtain ⟨Ao112, co112, eo112⟩ := Kd.R_slice HO380.out
        (first | subst eo112 | (injection eo112 with f1_ f2_ f3_; have f4_ := f1_.symm; have f5_ := f3_.symm; clear f1_ f2_ f3_; subst f4_; subst f5_))
        refine hK.out _ _ ⟨bc_ BK362 0, bc_ BK362 1, bc_ BK362 2, bc_ BK336 0, bc_ BK336 1, bc_ BK336 2⟩ (fun hHeld => ?_)
        clear hK K
        refine norm_ (a' := ?_) ?_ ?_
        rotate_left
        ·show Act.put _ (some 56) _ = _
         exact nm_
        refine one_ (i := 3) (N := some 57) #[true, true, true, true, false] rfl rfl (by kernel_rfl) (by decide) (fun K hK => ?_)
        refine goes_ Tryd.func15 (by kernel_rfl) rfl #[.agg #[.int .i64 t357, .slice Ao53 t358.length co53, .int .i64 t361], .agg #[.int .i64 t377, .slice Ao112 t378.length co112, .int .i64 t381]] (by rfl) rfl rfl ma_ ?_
        with_reducible refine (laws_eqDyadic.calls kj24 t357 _ _ t358 t361 t377 _ _ t378 t381 true _ ?side1 ?side2 ?side3 ?side4 A102.out).mono ?_
        (case side1 => exact cr_ HO_363001)
        (case side2 => exact (Kd.R_reads' HO_363001.out).2.1)
        (case side3 => exact cr_ HO380)
        (case side4 => exact (Kd.R_reads' HO380.out).2.1)
        rintro e w113 ⟨rfl, hb⟩
        refine ⟨_, rfl, ?_⟩
        have n0_ := am_ (Kd.R_below (kr_ HO_357001) hb); have n1_ := am_ (Kd.R_below (kr_ HO_363001) hb); have n2_ := am_ (Kd.R_below (kr_ HO_369001) hb); have n3_ := am_ (Kd.R_below (kr_ HO_376001) hb); have n4_ := am_ (Kd.R_below (kr_ HO380) hb); have n5_ := am_ (blk_below (bk_ BK336) hb); have n6_ := am_ (blk_below (bk_ BK337) hb); have n7_ := am_ (blk_below (bk_ BK356) hb); have n8_ := am_ (blk_below (bk_ BK362) hb); have n9_ := am_ (blk_below (bk_ BK368) hb); have n10_ := am_ (blk_below (bk_ BK375) hb); have n11_ := am_ (below_step (bl_ HB) hb); clear HO_357001 HO_363001 HO_369001 HO_376001 HO380 BK336 BK337 BK356 BK362 BK368 BK375 HB; have HO_357001 := n0_; have HO_363001 := n1_; have HO_369001 := n2_; have HO_376001 := n3_; have HO380 := n4_; have BK336 := n5_; have BK337 := n6_; have BK356 := n7_; have BK362 := n8_; have BK368 := n9_; have BK375 := n10_; have HB := n11_; clear n0_ n1_ n2_ n3_ n4_ n5_ n6_ n7_ n8_ n9_ n10_ n11_; (try clear hb); (try clear hb2); (try clear hk); (try clear hi)
        refine hK.out _ _ ⟨bc_ BK362 0, bc_ BK362 1, bc_ BK362 2, bc_ BK336 0, bc_ BK336 1, bc_ BK336 2⟩ (fun hHeld => ?_)
        clear hK K
        refine norm_ (a' := ?_) ?_ ?_
        rotate_left
        ·show Act.put _ (some 57) _ = _
         exact nm_
        refine pure_ (i := 4) (N := some 58) (v := ?_) (a' := ?_) #[true, true, true, true, true] rfl rfl (by kernel_rfl) (fun _ _ _ h => h) (Or.inl ⟨by rfl, ?_⟩) ?_ ?_
        rotate_left
        ·intro w'
         go_simp
         with_reducible rfl
        rotate_left
        ·exact nm_
        refine done_ (by kernel_rfl) ?_
        try go_wp2
        have n0_ := am_ (Kd.R_drew HO_357001.out); have n1_ := am_ (Kd.R_drew HO_363001.out); have n2_ := am_ (Kd.R_drew HO_369001.out); have n3_ := am_ (Kd.R_drew HO_376001.out); have n4_ := am_ (Kd.R_drew HO380.out); have n5_ := am_ (blk_drew BK336.out); have n6_ := am_ (blk_drew BK337.out); have n7_ := am_ (blk_drew BK356.out); have n8_ := am_ (blk_drew BK362.out); have n9_ := am_ (blk_drew BK368.out); have n10_ := am_ (blk_drew BK375.out); have n11_ := am_ (below_drew1 HB.out); clear HO_357001 HO_363001 HO_369001 HO_376001 HO380 BK336 BK337 BK356 BK362 BK368 BK375 HB; have HO_357001 := n0_; have HO_363001 := n1_; have HO_369001 := n2_; have HO_376001 := n3_; have HO380 := n4_; have BK336 := n5_; have BK337 := n6_; have BK356 := n7_; have BK362 := n8_; have BK368 := n9_; have BK375 := n10_; have HB := n11_; clear n0_ n1_ n2_ n3_ n4_ n5_ n6_ n7_ n8_ n9_ n10_ n11_
        refine start_ (n := 5) (S := fun w' => w'.cell? ⟨gb368, 0, none⟩ = some (.int .i64 t363) ∧ w'.cell? ⟨gb368, 1, none⟩ = some (.slice Ao63 t364.length co63) ∧ w'.cell? ⟨gb368, 2, none⟩ = some (.int .i64 t367) ∧ w'.cell? ⟨gb337, 0, none⟩ = some (.int .i64 a1_0) ∧ w'.cell? ⟨gb337, 1, none⟩ = some (.slice A1_1 l1_1.length c1_1) ∧ w'.cell? ⟨gb337, 2, none⟩ = some (.int .i64 a1_2)) (ds := []) #[false, false, false, false, false] (by kernel_rfl) rfl rfl ⟨bc_ BK368 0, bc_ BK368 1, bc_ BK368 2, bc_ BK337 0, bc_ BK337 1, bc_ BK337 2⟩ (fun hHeld => ?_)
        generalize w113.drew = w114 at HO_357001 HO_363001 HO_369001 HO_376001 HO380 BK336 BK337 BK356 BK362 BK368 BK375 HB hHeld ⊢
        refine take_ (i := 0) (N := some 59) (v := ?_) (a' := ?_) #[true, false, false, false, false] rfl rfl (by kernel_rfl) (fun _ _ _ h => h) (Or.inl ⟨by rfl, ?_⟩) hHeld ?_ ?_
        rotate_left
        ·rintro w' ⟨s0, s1, s2, s3, s4, s5⟩
         go_simp
         with_reducible rfl
        rotate_left
        ·exact nm_
        refine take_ (i := 1) (N := some 60) (v := ?_) (a' := ?_) #[true, true, false, false, false] rfl rfl (by kernel_rfl) (fun _ _ _ h => h) (Or.inl ⟨by rfl, ?_⟩) hHeld ?_ ?_
        rotate_left
        ·rintro w' ⟨s0, s1, s2, s3, s4, s5⟩
         go_simp
         with_reducible rfl
        rotate_left
        ·exact nm_
        refine one_ (i := 2) (N := some 61) #[true, true, true, false, false] rfl rfl (by kernel_rfl) (by decide) (fun K hK => ?_)
        refine goes_ Tryd.func13 (by kernel_rfl) rfl #[.agg #[.int .i64 a1_0, .slice A1_1 l1_1.length c1_1, .int .i64 a1_2]] (by rfl) rfl rfl ma_ ?_
        with_reducible refine (laws_toDyadic.calls kj24 a1_0 _ _ l1_1 a1_2 t383 t384 t387 _ ?side1 ?side2 A104.out).mono ?_
        (case side1 => exact cb_ HR1_1 HB)
        (case side2 => exact HC1_1.out)
        rintro e w115 ⟨v385, rfl, ho0, hb⟩
        refine ⟨_, rfl, ?_⟩
        have n0_ := am_ (Kd.R_elder' (kr_ HO_357001) (Kd.R_base ho0) hb); have n1_ := am_ (Kd.R_elder' (kr_ HO_363001) (Kd.R_base ho0) hb); have n2_ := am_ (Kd.R_elder' (kr_ HO_369001) (Kd.R_base ho0) hb); have n3_ := am_ (Kd.R_elder' (kr_ HO_376001) (Kd.R_base ho0) hb); have n4_ := am_ (Kd.R_elder' (kr_ HO380) (Kd.R_base ho0) hb); have n5_ := am_ (Kd.R_lower (Kd.R_new' (Kd.R_new' (Kd.R_new' (Kd.R_new' (Kd.R_new' ho0 (Kd.R_lt (kr_ HO_357001))) (Kd.R_lt (kr_ HO_363001))) (Kd.R_lt (kr_ HO_369001))) (Kd.R_lt (kr_ HO_376001))) (Kd.R_lt (kr_ HO380))) (below_size (bl_ HB))); have n6_ := am_ (blk_below (bk_ BK336) hb); have n7_ := am_ (blk_below (bk_ BK337) hb); have n8_ := am_ (blk_below (bk_ BK356) hb); have n9_ := am_ (blk_below (bk_ BK362) hb); have n10_ := am_ (blk_below (bk_ BK368) hb); have n11_ := am_ (blk_below (bk_ BK375) hb); have n12_ := am_ (below_step (bl_ HB) hb); clear HO_357001 HO_363001 HO_369001 HO_376001 HO380 BK336 BK337 BK356 BK362 BK368 BK375 HB; have HO_357001 := n0_; have HO_363001 := n1_; have HO_369001 := n2_; have HO_376001 := n3_; have HO380 := n4_; have HO386 := n5_; have BK336 := n6_; have BK337 := n7_; have BK356 := n8_; have BK362 := n9_; have BK368 := n10_; have BK375 := n11_; have HB := n12_; clear n0_ n1_ n2_ n3_ n4_ n5_ n6_ n7_ n8_ n9_ n10_ n11_ n12_; (try clear hb); (try clear hb2); (try clear hk); (try clear hi); (try clear ho0)
        obtain ⟨Ao116, co116, eo116⟩ := Kd.R_slice HO386.out
        (first | subst eo116 | (injection eo116 with f1_ f2_ f3_; have f4_ := f1_.symm; have f5_ := f3_.symm; clear f1_ f2_ f3_; subst f4_; subst f5_))
        refine hK.out _ _ ⟨bc_ BK368 0, bc_ BK368 1, bc_ BK368 2, bc_ BK337 0, bc_ BK337 1, bc_ BK337 2⟩ (fun hHeld => ?_)
        clear hK K
        refine norm_ (a' := ?_) ?_ ?_
        rotate_left
        ·show Act.put _ (some 61) _ = _
         exact nm_
        refine one_ (i := 3) (N := some 62) #[true, true, true, true, false] rfl rfl (by kernel_rfl) (by decide) (fun K hK => ?_)
        refine goes_ Tryd.func15 (by kernel_rfl) rfl #[.agg #[.int .i64 t363, .slice Ao63 t364.length co63, .int .i64 t367], .agg #[.int .i64 t383, .slice Ao116 t384.length co116, .int .i64 t387]] (by rfl) rfl rfl ma_ ?_
        with_reducible refine (laws_eqDyadic.calls kj24 t363 _ _ t364 t367 t383 _ _ t384 t387 true _ ?side1 ?side2 ?side3 ?side4 A105.out).mono ?_
        (case side1 => exact cr_ HO_369001)
        (case side2 => exact (Kd.R_reads' HO_369001.out).2.1)
        (case side3 => exact cr_ HO386)
        (case side4 => exact (Kd.R_reads' HO386.out).2.1)
        rintro e w117 ⟨rfl, hb⟩
        refine ⟨_, rfl, ?_⟩
        have n0_ := am_ (Kd.R_below (kr_ HO_357001) hb); have n1_ := am_ (Kd.R_below (kr_ HO_363001) hb); have n2_ := am_ (Kd.R_below (kr_ HO_369001) hb); have n3_ := am_ (Kd.R_below (kr_ HO_376001) hb); have n4_ := am_ (Kd.R_below (kr_ HO380) hb); have n5_ := am_ (Kd.R_below (kr_ HO386) hb); have n6_ := am_ (blk_below (bk_ BK336) hb); have n7_ := am_ (blk_below (bk_ BK337) hb); have n8_ := am_ (blk_below (bk_ BK356) hb); have n9_ := am_ (blk_below (bk_ BK362) hb); have n10_ := am_ (blk_below (bk_ BK368) hb); have n11_ := am_ (blk_below (bk_ BK375) hb); have n12_ := am_ (below_step (bl_ HB) hb); clear HO_357001 HO_363001 HO_369001 HO_376001 HO380 HO386 BK336 BK337 BK356 BK362 BK368 BK375 HB; have HO_357001 := n0_; have HO_363001 := n1_; have HO_369001 := n2_; have HO_376001 := n3_; have HO380 := n4_; have HO386 := n5_; have BK336 := n6_; have BK337 := n7_; have BK356 := n8_; have BK362 := n9_; have BK368 := n10_; have BK375 := n11_; have HB := n12_; clear n0_ n1_ n2_ n3_ n4_ n5_ n6_ n7_ n8_ n9_ n10_ n11_ n12_; (try clear hb); (try clear hb2); (try clear hk); (try clear hi)
        refine hK.out _ _ ⟨bc_ BK368 0, bc_ BK368 1, bc_ BK368 2, bc_ BK337 0, bc_ BK337 1, bc_ BK337 2⟩ (fun hHeld => ?_)
        clear hK K
        refine norm_ (a' := ?_) ?_ ?_
        rotate_left
        ·show Act.put _ (some 62) _ = _
         exact nm_
        refine pure_ (i := 4) (N := some 63) (v := ?_) (a' := ?_) #[true, true, true, true, true] rfl rfl (by kernel_rfl) (fun _ _ _ h => h) (Or.inl ⟨by rfl, ?_⟩) ?_ ?_
        rotate_left
        ·intro w'
         go_simp
         with_reducible rfl
        rotate_left
        ·exact nm_
        refine done_ (by kernel_rfl) ?_
        have hnb118 := NB362_336.out; have hnc118 := NB336_362.out; have hnb119 := NB362_337.out; have hnc119 := NB337_362.out; have hnb120 := NB362_356.out; have hnc120 := NB356_362.out; have hnb121 := NB362_368.out; have hnc121 := NB368_362.out; have hnb122 := NB362_375.out; have hnc122 := NB375_362.out
        have hcz123_0 : w117.cell? ⟨gb362, 0, none⟩ = some (.int .i64 t357) := bc_ BK362 0
        have hcz123_1 : w117.cell? ⟨gb362, 1, none⟩ = some (.slice Ao53 t358.length co53) := bc_ BK362 1
        have hcz123_2 : w117.cell? ⟨gb362, 2, none⟩ = some (.int .i64 t361) := bc_ BK362 2
        have hfz123_0 := blk_frozen BK362.out 0; have hfz123_1 := blk_frozen BK362.out 1; have hfz123_2 := blk_frozen BK362.out 2
        go_upto_region 21 with (first | ((with_reducible refine gate_callee (f := 16) rfl ?_); refine goesL_ (some 66) rfl rfl Tryd.func16 (by kernel_rfl) rfl #[.agg #[.int .i64 t357, .slice Ao53 t358.length co53, .int .i64 t361], .int .i64 1] rfl ma_ ?_; (with_reducible refine (laws_markDyadic.calls kj24 t357 (fun k_ => some k_ = (.slice Ao53 t358.length co53 : Value).ownBlock) (.slice Ao53 t358.length co53) t358 t361 1 t389 t390 w _ ?side1 ?side2 A107.out).mono ?_); (case side1 => exact bl_ HB); (case side2 => exact Kd.R_tight rfl HO_363001.out); rintro e w124 ⟨rfl, hy0, hb, hkp⟩; refine ⟨_, rfl, ?_⟩; have n0_ := am_ (Kd.R_mono (ok' := fun k_ => some k_ ≠ (.slice Ao53 t358.length co53 : Value).ownBlock ∧ some k_ ≠ (.slice Ao63 t364.length co63 : Value).ownBlock ∧ some k_ ≠ (.slice Ao73 t370.length co73 : Value).ownBlock ∧ some k_ ≠ (.slice Ao112 t378.length co112 : Value).ownBlock ∧ some k_ ≠ (.slice Ao116 t384.length co116 : Value).ownBlock) (Kd.R_keptB (HO_357001.out) hkp (fun k_ hk_ hs_ => (hk_.1.1.1) hs_)) (fun k_ hk_ => ⟨hk_.1.1.1.1, hk_.1.1.1.2.1, hk_.1.1.1.2.2, hk_.1.1.2, hk_.1.2⟩)); have n1_ := am_ (Kd.R_reok rfl hy0 (fun k_ e_ => HO_363001.out.1 k_ e_)); have n2_ := am_ (Kd.R_mono (ok' := fun k_ => some k_ ≠ (.slice Ao42 t351.length co42 : Value).ownBlock ∧ some k_ ≠ (.slice Ao53 t358.length co53 : Value).ownBlock ∧ some k_ ≠ (.slice Ao73 t370.length co73 : Value).ownBlock ∧ some k_ ≠ (.slice Ao112 t378.length co112 : Value).ownBlock ∧ some k_ ≠ (.slice Ao116 t384.length co116 : Value).ownBlock) (Kd.R_keptB (HO_369001.out) hkp (fun k_ hk_ hs_ => (hk_.1.1.2.1) hs_)) (fun k_ hk_ => ⟨hk_.1.1.1.1, hk_.1.1.1.2.1, hk_.1.1.1.2.2, hk_.1.1.2, hk_.1.2⟩)); have n3_ := am_ (Kd.R_mono (ok' := fun k_ => some k_ ≠ (.slice Ao42 t351.length co42 : Value).ownBlock ∧ some k_ ≠ (.slice Ao53 t358.length co53 : Value).ownBlock ∧ some k_ ≠ (.slice Ao63 t364.length co63 : Value).ownBlock ∧ some k_ ≠ (.slice Ao112 t378.length co112 : Value).ownBlock ∧ some k_ ≠ (.slice Ao116 t384.length co116 : Value).ownBlock) (Kd.R_keptB (HO_376001.out) hkp (fun k_ hk_ hs_ => (hk_.1.1.2.1) hs_)) (fun k_ hk_ => ⟨hk_.1.1.1.1, hk_.1.1.1.2.1, hk_.1.1.1.2.2, hk_.1.1.2, hk_.1.2⟩)); have n4_ := am_ (blk_kept (bk_ BK336) hkp (fun hs_ => (fun e_ => (Kd.R_ne HO_363001.out BK336.out (by decide)) e_) hs_)); have n5_ := am_ (blk_kept (bk_ BK337) hkp (fun hs_ => (fun e_ => (Kd.R_ne HO_363001.out BK337.out (by decide)) e_) hs_)); have n6_ := am_ (blk_kept (bk_ BK356) hkp (fun hs_ => (fun e_ => (Kd.R_ne HO_363001.out BK356.out (by decide)) e_) hs_)); have n7_ := am_ (blk_kept (bk_ BK362) hkp (fun hs_ => (fun e_ => (Kd.R_ne HO_363001.out BK362.out (by decide)) e_) hs_)); have n8_ := am_ (blk_kept (bk_ BK368) hkp (fun hs_ => (fun e_ => (Kd.R_ne HO_363001.out BK368.out (by decide)) e_) hs_)); have n9_ := am_ (blk_kept (bk_ BK375) hkp (fun hs_ => (fun e_ => (Kd.R_ne HO_363001.out BK375.out (by decide)) e_) hs_)); have n10_ := am_ (Kd.R_mono (ok' := fun k_ => some k_ ≠ (.slice Ao42 t351.length co42 : Value).ownBlock ∧ some k_ ≠ (.slice Ao53 t358.length co53 : Value).ownBlock ∧ some k_ ≠ (.slice Ao63 t364.length co63 : Value).ownBlock ∧ some k_ ≠ (.slice Ao73 t370.length co73 : Value).ownBlock ∧ some k_ ≠ (.slice Ao116 t384.length co116 : Value).ownBlock) (Kd.R_keptB (HO380.out) hkp (fun k_ hk_ hs_ => (hk_.1.1.1.2) hs_)) (fun k_ hk_ => ⟨hk_.1.1.1.1.1.2, hk_.1.1.1.1.2, hk_.1.1.1.2, hk_.1.1.2, hk_.1.2⟩)); have n11_ := am_ (Kd.R_mono (ok' := fun k_ => some k_ ≠ (.slice Ao42 t351.length co42 : Value).ownBlock ∧ some k_ ≠ (.slice Ao53 t358.length co53 : Value).ownBlock ∧ some k_ ≠ (.slice Ao63 t364.length co63 : Value).ownBlock ∧ some k_ ≠ (.slice Ao73 t370.length co73 : Value).ownBlock ∧ some k_ ≠ (.slice Ao112 t378.length co112 : Value).ownBlock) (Kd.R_keptB (HO386.out) hkp (fun k_ hk_ hs_ => (hk_.1.1.1.2) hs_)) (fun k_ hk_ => ⟨hk_.1.1.1.1.1.2, hk_.1.1.1.1.2, hk_.1.1.1.2, hk_.1.1.2, hk_.1.2⟩)); have n12_ := am_ (hb); clear HO_357001; clear HO_363001; clear HO_369001; clear HO_376001; clear BK336; clear BK337; clear BK356; clear BK362; clear BK368; clear BK375; clear HO380; clear HO386; clear HB; have HO_357001 := n0_; have HO_363001 := n1_; have HO_369001 := n2_; have HO_376001 := n3_; have BK336 := n4_; have BK337 := n5_; have BK356 := n6_; have BK362 := n7_; have BK368 := n8_; have BK375 := n9_; have HO380 := n10_; have HO386 := n11_; have HB := n12_; clear n0_ n1_ n2_ n3_ n4_ n5_ n6_ n7_ n8_ n9_ n10_ n11_ n12_; (try clear hb); (try clear hkp); (try clear hy0); have hnb125 := NB368_336.out; have hnc125 := NB336_368.out; have hnb126 := NB368_337.out; have hnc126 := NB337_368.out; have hnb127 := NB368_356.out; have hnc127 := NB356_368.out; have hnb128 := NB368_375.out; have hnc128 := NB375_368.out; have hcz129_0 : w124.cell? ⟨gb368, 0, none⟩ = some (.int .i64 t363) := bc_ BK368 0; have hcz129_1 : w124.cell? ⟨gb368, 1, none⟩ = some (.slice Ao63 t364.length co63) := bc_ BK368 1; have hcz129_2 : w124.cell? ⟨gb368, 2, none⟩ = some (.int .i64 t367) := bc_ BK368 2; have hfz129_0 := blk_frozen BK368.out 0; have hfz129_1 := blk_frozen BK368.out 1; have hfz129_2 := blk_frozen BK368.out 2) | ((with_reducible refine gate_callee (f := 16) rfl ?_); refine goesL_ (some 69) rfl rfl Tryd.func16 (by kernel_rfl) rfl #[.agg #[.int .i64 t363, .slice Ao63 t364.length co63, .int .i64 t367], .int .i64 t389] rfl ma_ ?_; (with_reducible refine (laws_markDyadic.calls kj24 t363 (fun k_ => some k_ = (.slice Ao63 t364.length co63 : Value).ownBlock) (.slice Ao63 t364.length co63) t364 t367 t389 t391 t392 w _ ?side1 ?side2 A108.out).mono ?_); (case side1 => exact bl_ HB); (case side2 => exact Kd.R_tight rfl HO_369001.out); rintro e w130 ⟨rfl, hy0, hb, hkp⟩; refine ⟨_, rfl, ?_⟩; have n0_ := am_ (Kd.R_mono (ok' := fun k_ => some k_ ≠ (.slice Ao53 t358.length co53 : Value).ownBlock ∧ some k_ ≠ (.slice Ao63 t364.length co63 : Value).ownBlock ∧ some k_ ≠ (.slice Ao73 t370.length co73 : Value).ownBlock ∧ some k_ ≠ (.slice Ao112 t378.length co112 : Value).ownBlock ∧ some k_ ≠ (.slice Ao116 t384.length co116 : Value).ownBlock) (Kd.R_keptB (HO_357001.out) hkp (fun k_ hk_ hs_ => (hk_.2.1) hs_)) (fun k_ hk_ => ⟨hk_.1.1, hk_.1.2.1, hk_.1.2.2.1, hk_.1.2.2.2.1, hk_.1.2.2.2.2⟩)); have n1_ := am_ (Kd.R_mono (ok' := fun k_ => some k_ ≠ (.slice Ao42 t351.length co42 : Value).ownBlock ∧ some k_ ≠ (.slice Ao63 t364.length co63 : Value).ownBlock ∧ some k_ ≠ (.slice Ao73 t370.length co73 : Value).ownBlock ∧ some k_ ≠ (.slice Ao112 t378.length co112 : Value).ownBlock ∧ some k_ ≠ (.slice Ao116 t384.length co116 : Value).ownBlock) (Kd.R_keptB (HO_363001.out) hkp (fun k_ hk_ hs_ => (hk_.1.1.2.1) hs_)) (fun k_ hk_ => ⟨hk_.1.1.1.1, hk_.1.1.1.2.1, hk_.1.1.1.2.2, hk_.1.1.2, hk_.1.2⟩)); have n2_ := am_ (Kd.R_reok rfl hy0 (fun k_ e_ => HO_369001.out.1 k_ e_)); have n3_ := am_ (Kd.R_mono (ok' := fun k_ => some k_ ≠ (.slice Ao42 t351.length co42 : Value).ownBlock ∧ some k_ ≠ (.slice Ao53 t358.length co53 : Value).ownBlock ∧ some k_ ≠ (.slice Ao63 t364.length co63 : Value).ownBlock ∧ some k_ ≠ (.slice Ao112 t378.length co112 : Value).ownBlock ∧ some k_ ≠ (.slice Ao116 t384.length co116 : Value).ownBlock) (Kd.R_keptB (HO_376001.out) hkp (fun k_ hk_ hs_ => (hk_.2.2.1) hs_)) (fun k_ hk_ => ⟨hk_.1.1, hk_.1.2.1, hk_.1.2.2.1, hk_.1.2.2.2.1, hk_.1.2.2.2.2⟩)); have n4_ := am_ (blk_kept (bk_ BK336) hkp (fun hs_ => (fun e_ => (Kd.R_ne HO_369001.out BK336.out (by decide)) e_) hs_)); have n5_ := am_ (blk_kept (bk_ BK337) hkp (fun hs_ => (fun e_ => (Kd.R_ne HO_369001.out BK337.out (by decide)) e_) hs_)); have n6_ := am_ (blk_kept (bk_ BK356) hkp (fun hs_ => (fun e_ => (Kd.R_ne HO_369001.out BK356.out (by decide)) e_) hs_)); have n7_ := am_ (blk_kept (bk_ BK362) hkp (fun hs_ => (fun e_ => (Kd.R_ne HO_369001.out BK362.out (by decide)) e_) hs_)); have n8_ := am_ (blk_kept (bk_ BK368) hkp (fun hs_ => (fun e_ => (Kd.R_ne HO_369001.out BK368.out (by decide)) e_) hs_)); have n9_ := am_ (blk_kept (bk_ BK375) hkp (fun hs_ => (fun e_ => (Kd.R_ne HO_369001.out BK375.out (by decide)) e_) hs_)); have n10_ := am_ (Kd.R_mono (ok' := fun k_ => some k_ ≠ (.slice Ao42 t351.length co42 : Value).ownBlock ∧ some k_ ≠ (.slice Ao53 t358.length co53 : Value).ownBlock ∧ some k_ ≠ (.slice Ao63 t364.length co63 : Value).ownBlock ∧ some k_ ≠ (.slice Ao73 t370.length co73 : Value).ownBlock ∧ some k_ ≠ (.slice Ao116 t384.length co116 : Value).ownBlock) (Kd.R_keptB (HO380.out) hkp (fun k_ hk_ hs_ => (hk_.2.2.1) hs_)) (fun k_ hk_ => ⟨hk_.1.1, hk_.1.2.1, hk_.1.2.2.1, hk_.1.2.2.2.1, hk_.1.2.2.2.2⟩)); have n11_ := am_ (Kd.R_mono (ok' := fun k_ => some k_ ≠ (.slice Ao42 t351.length co42 : Value).ownBlock ∧ some k_ ≠ (.slice Ao53 t358.length co53 : Value).ownBlock ∧ some k_ ≠ (.slice Ao63 t364.length co63 : Value).ownBlock ∧ some k_ ≠ (.slice Ao73 t370.length co73 : Value).ownBlock ∧ some k_ ≠ (.slice Ao112 t378.length co112 : Value).ownBlock) (Kd.R_keptB (HO386.out) hkp (fun k_ hk_ hs_ => (hk_.2.2.1) hs_)) (fun k_ hk_ => ⟨hk_.1.1, hk_.1.2.1, hk_.1.2.2.1, hk_.1.2.2.2.1, hk_.1.2.2.2.2⟩)); have n12_ := am_ (hb); clear HO_357001; clear HO_363001; clear HO_369001; clear HO_376001; clear BK336; clear BK337; clear BK356; clear BK362; clear BK368; clear BK375; clear HO380; clear HO386; clear HB; have HO_357001 := n0_; have HO_363001 := n1_; have HO_369001 := n2_; have HO_376001 := n3_; have BK336 := n4_; have BK337 := n5_; have BK356 := n6_; have BK362 := n7_; have BK368 := n8_; have BK375 := n9_; have HO380 := n10_; have HO386 := n11_; have HB := n12_; clear n0_ n1_ n2_ n3_ n4_ n5_ n6_ n7_ n8_ n9_ n10_ n11_ n12_; (try clear hb); (try clear hkp); (try clear hy0)))
        (try simp only [Act.put, List.setIfInBounds_toArray, List.set_cons_zero, List.set_cons_succ])
        go_cut [82] (fun v82 wc => ∃ (kq : Nat) (x82_108 : Bool), v82 = .bool x82_108 ∧ Aside0 (laws_FnExactAddDyadics.j1 kq t355 x82_108 a0_0 l0_1 a0_2 a1_0 l1_1 a1_2 t350 t351 t354 t369 t370 t373 = some r) ∧ Aside0 (kq ≤ kj24) ∧ Aside0 (Kd.R (Kd.int .i64) 2 wc w.heap.size (fun k_ => some k_ ≠ ((.slice Ao53 t358.length co53) : Value).ownBlock ∧ some k_ ≠ ((.slice Ao63 t364.length co63) : Value).ownBlock ∧ some k_ ≠ ((.slice Ao73 t370.length co73) : Value).ownBlock) (.slice Ao42 t351.length co42) t351) ∧ Aside0 (Kd.R (Kd.int .i64) 2 wc w.heap.size (fun k_ => some k_ ≠ ((.slice Ao42 t351.length co42) : Value).ownBlock ∧ some k_ ≠ ((.slice Ao63 t364.length co63) : Value).ownBlock ∧ some k_ ≠ ((.slice Ao73 t370.length co73) : Value).ownBlock) (.slice Ao53 t358.length co53) t390) ∧ Aside0 (Kd.R (Kd.int .i64) 2 wc w.heap.size (fun k_ => some k_ ≠ ((.slice Ao42 t351.length co42) : Value).ownBlock ∧ some k_ ≠ ((.slice Ao53 t358.length co53) : Value).ownBlock ∧ some k_ ≠ ((.slice Ao73 t370.length co73) : Value).ownBlock) (.slice Ao63 t364.length co63) t392) ∧ Aside0 (Kd.R (Kd.int .i64) 2 wc w.heap.size (fun k_ => some k_ ≠ ((.slice Ao42 t351.length co42) : Value).ownBlock ∧ some k_ ≠ ((.slice Ao53 t358.length co53) : Value).ownBlock ∧ some k_ ≠ ((.slice Ao63 t364.length co63) : Value).ownBlock) (.slice Ao73 t370.length co73) t370) ∧ Aside0 (wc.heap[gb336]? = some (.cells #[.int .i64 a0_0, (.slice A0_1 l0_1.length c0_1), .int .i64 a0_2] 26 (0, 0))) ∧ Aside0 (wc.heap[gb337]? = some (.cells #[.int .i64 a1_0, (.slice A1_1 l1_1.length c1_1), .int .i64 a1_2] 26 (0, 0))) ∧ Aside0 (wc.heap[gb356]? = some (.cells #[.int .i64 t350, (.slice Ao42 t351.length co42), .int .i64 t354] 30 (0, 0))) ∧ Aside0 (wc.heap[gb362]? = some (.cells #[.int .i64 t357, (.slice Ao53 t358.length co53), .int .i64 t361] 30 (0, 0))) ∧ Aside0 (wc.heap[gb368]? = some (.cells #[.int .i64 t363, (.slice Ao63 t364.length co63), .int .i64 t367] 30 (0, 0))) ∧ Aside0 (wc.heap[gb375]? = some (.cells #[.int .i64 t369, (.slice Ao73 t370.length co73), .int .i64 t373] 30 (0, 0))) ∧ Aside0 (Below w.heap.size w wc))
        case first =>
         have H := HC109.out; clear HC109
         by_cases c131 : t391 < 0
         ·rw [if_pos c131] at H
          have c131b0 : decide (t391 < 0) = true := decide_eq_true c131
          clear c131
          (first | rw [c131b0] | (simp only [i64_w, i32_w]; rw [c131b0]) | skip)
          have H' := Aside0.mk H
          clear H
          go_wp2
          go_meet
          case rel => exact ⟨_, (true), (by first | rfl | (simp; done) | (simp [*]; done)), H', ⟨by have := HJ24.out; first | omega | exact Nat.le_refl _⟩, ⟨km_ HO_357001 (fun _ hk => ⟨hk.1, ⟨hk.2.1, hk.2.2.1⟩⟩)⟩, ⟨km_ HO_363001 (fun _ hk => ⟨hk.1, ⟨hk.2.1, hk.2.2.1⟩⟩)⟩, ⟨km_ HO_369001 (fun _ hk => ⟨hk.1, ⟨hk.2.1, hk.2.2.1⟩⟩)⟩, ⟨km_ HO_376001 (fun _ hk => ⟨hk.1, ⟨hk.2.1, hk.2.2.1⟩⟩)⟩, ⟨bk_ BK336⟩, ⟨bk_ BK337⟩, ⟨bk_ BK356⟩, ⟨bk_ BK362⟩, ⟨bk_ BK368⟩, ⟨bk_ BK375⟩, ⟨bl_ HB⟩⟩
         ·rw [if_neg c131] at H
          have c131b0 : decide (t391 < 0) = false := decide_eq_false c131
          clear c131
          (first | rw [c131b0] | (simp only [i64_w, i32_w]; rw [c131b0]) | skip)
          replace H := Option.bind_eq_some_iff.mp H
          obtain ⟨t393, A1320, H⟩ := H
          replace H : (if t393 = true then (laws_FnExactAddDyadics.j1 kj24 t355 (t374 != t355) a0_0 l0_1 a0_2 a1_0 l1_1 a1_2 t350 t351 t354 t369 t370 t373) else (laws_FnExactAddDyadics.j1 kj24 t355 true a0_0 l0_1 a0_2 a1_0 l1_1 a1_2 t350 t351 t354 t369 t370 t373)) = some r := H
          have A132 := Aside0.mk A1320; clear A1320
          by_cases c133 : t393 = true
          ·subst c133
           have H1 : (laws_FnExactAddDyadics.j1 kj24 t355 (t374 != t355) a0_0 l0_1 a0_2 a1_0 l1_1 a1_2 t350 t351 t354 t369 t370 t373) = some r := by rw [if_pos rfl] at H; exact H
           clear H; have H := H1; clear H1
           have H' := Aside0.mk H
           clear H; have hnb134 := NB375_336.out; have hnc134 := NB336_375.out; have hnb135 := NB375_337.out; have hnc135 := NB337_375.out; have hnb136 := NB375_356.out; have hnc136 := NB356_375.out; have hnb137 := NB375_362.out; have hnc137 := NB362_375.out; have hnb138 := NB375_368.out; have hnc138 := NB368_375.out
           have hcz139_0 : w130.cell? ⟨gb375, 0, none⟩ = some (.int .i64 t369) := bc_ BK375 0
           have hcz139_1 : w130.cell? ⟨gb375, 1, none⟩ = some (.slice Ao73 t370.length co73) := bc_ BK375 1
           have hcz139_2 : w130.cell? ⟨gb375, 2, none⟩ = some (.int .i64 t373) := bc_ BK375 2
           have hfz139_0 := blk_frozen BK375.out 0; have hfz139_1 := blk_frozen BK375.out 1; have hfz139_2 := blk_frozen BK375.out 2; have hnb140 := NB356_336.out; have hnc140 := NB336_356.out; have hnb141 := NB356_337.out; have hnc141 := NB337_356.out; have hnb142 := NB356_362.out; have hnc142 := NB362_356.out; have hnb143 := NB356_368.out; have hnc143 := NB368_356.out
           have hcz144_0 : w130.cell? ⟨gb356, 0, none⟩ = some (.int .i64 t350) := bc_ BK356 0
           have hcz144_1 : w130.cell? ⟨gb356, 1, none⟩ = some (.slice Ao42 t351.length co42) := bc_ BK356 1
           have hcz144_2 : w130.cell? ⟨gb356, 2, none⟩ = some (.int .i64 t354) := bc_ BK356 2
           have hfz144_0 := blk_frozen BK356.out 0; have hfz144_1 := blk_frozen BK356.out 1; have hfz144_2 := blk_frozen BK356.out 2
           go_wp2_with (first | (go_at_call 15; (with_reducible refine (laws_eqDyadic.calls kj24 t369 _ _ t370 t373 t350 _ _ t351 t354 true _ ?side1 ?side2 ?side3 ?side4 A132.out).mono ?_); (case side1 => exact cr_ HO_376001); (case side2 => exact (Kd.R_reads' HO_376001.out).2.1); (case side3 => exact cr_ HO_357001); (case side4 => exact (Kd.R_reads' HO_357001.out).2.1); rintro e w145 ⟨rfl, hb⟩; replace HO_357001 := am_ (Kd.R_below (kr_ HO_357001) hb); replace HO_363001 := am_ (Kd.R_below (kr_ HO_363001) hb); replace HO_369001 := am_ (Kd.R_below (kr_ HO_369001) hb); replace HO_376001 := am_ (Kd.R_below (kr_ HO_376001) hb); replace HO380 := am_ (Kd.R_below (kr_ HO380) hb); replace HO386 := am_ (Kd.R_below (kr_ HO386) hb); replace BK336 := am_ (blk_below (bk_ BK336) hb); replace BK337 := am_ (blk_below (bk_ BK337) hb); replace BK356 := am_ (blk_below (bk_ BK356) hb); replace BK362 := am_ (blk_below (bk_ BK362) hb); replace BK368 := am_ (blk_below (bk_ BK368) hb); replace BK375 := am_ (blk_below (bk_ BK375) hb); replace HB := am_ (below_step (bl_ HB) hb); (try clear hb); (try clear hb2); (try clear hk); (try clear hi)))
           go_meet
           case rel => exact ⟨_, ((t374 != t355)), (by first | rfl | (simp; done) | (simp [*]; done)), H', ⟨by have := HJ24.out; first | omega | exact Nat.le_refl _⟩, ⟨km_ HO_357001 (fun _ hk => ⟨hk.1, ⟨hk.2.1, hk.2.2.1⟩⟩)⟩, ⟨km_ HO_363001 (fun _ hk => ⟨hk.1, ⟨hk.2.1, hk.2.2.1⟩⟩)⟩, ⟨km_ HO_369001 (fun _ hk => ⟨hk.1, ⟨hk.2.1, hk.2.2.1⟩⟩)⟩, ⟨km_ HO_376001 (fun _ hk => ⟨hk.1, ⟨hk.2.1, hk.2.2.1⟩⟩)⟩, ⟨bk_ BK336⟩, ⟨bk_ BK337⟩, ⟨bk_ BK356⟩, ⟨bk_ BK362⟩, ⟨bk_ BK368⟩, ⟨bk_ BK375⟩, ⟨bl_ HB⟩⟩
          ·replace c133 := Bool.eq_false_iff.mpr c133
           subst c133
           have H1 : (laws_FnExactAddDyadics.j1 kj24 t355 true a0_0 l0_1 a0_2 a1_0 l1_1 a1_2 t350 t351 t354 t369 t370 t373) = some r := by rw [if_neg (show ¬ (false = true) by decide)] at H; exact H
           clear H; have H := H1; clear H1
           have H' := Aside0.mk H
           clear H; have hnb146 := NB375_336.out; have hnc146 := NB336_375.out; have hnb147 := NB375_337.out; have hnc147 := NB337_375.out; have hnb148 := NB375_356.out; have hnc148 := NB356_375.out; have hnb149 := NB375_362.out; have hnc149 := NB362_375.out; have hnb150 := NB375_368.out; have hnc150 := NB368_375.out
           have hcz151_0 : w130.cell? ⟨gb375, 0, none⟩ = some (.int .i64 t369) := bc_ BK375 0
           have hcz151_1 : w130.cell? ⟨gb375, 1, none⟩ = some (.slice Ao73 t370.length co73) := bc_ BK375 1
           have hcz151_2 : w130.cell? ⟨gb375, 2, none⟩ = some (.int .i64 t373) := bc_ BK375 2
           have hfz151_0 := blk_frozen BK375.out 0; have hfz151_1 := blk_frozen BK375.out 1; have hfz151_2 := blk_frozen BK375.out 2; have hnb152 := NB356_336.out; have hnc152 := NB336_356.out; have hnb153 := NB356_337.out; have hnc153 := NB337_356.out; have hnb154 := NB356_362.out; have hnc154 := NB362_356.out; have hnb155 := NB356_368.out; have hnc155 := NB368_356.out
           have hcz156_0 : w130.cell? ⟨gb356, 0, none⟩ = some (.int .i64 t350) := bc_ BK356 0
           have hcz156_1 : w130.cell? ⟨gb356, 1, none⟩ = some (.slice Ao42 t351.length co42) := bc_ BK356 1
           have hcz156_2 : w130.cell? ⟨gb356, 2, none⟩ = some (.int .i64 t354) := bc_ BK356 2
           have hfz156_0 := blk_frozen BK356.out 0; have hfz156_1 := blk_frozen BK356.out 1; have hfz156_2 := blk_frozen BK356.out 2
           go_wp2_with (first | (go_at_call 15; (with_reducible refine (laws_eqDyadic.calls kj24 t369 _ _ t370 t373 t350 _ _ t351 t354 false _ ?side1 ?side2 ?side3 ?side4 A132.out).mono ?_); (case side1 => exact cr_ HO_376001); (case side2 => exact (Kd.R_reads' HO_376001.out).2.1); (case side3 => exact cr_ HO_357001); (case side4 => exact (Kd.R_reads' HO_357001.out).2.1); rintro e w157 ⟨rfl, hb⟩; replace HO_357001 := am_ (Kd.R_below (kr_ HO_357001) hb); replace HO_363001 := am_ (Kd.R_below (kr_ HO_363001) hb); replace HO_369001 := am_ (Kd.R_below (kr_ HO_369001) hb); replace HO_376001 := am_ (Kd.R_below (kr_ HO_376001) hb); replace HO380 := am_ (Kd.R_below (kr_ HO380) hb); replace HO386 := am_ (Kd.R_below (kr_ HO386) hb); replace BK336 := am_ (blk_below (bk_ BK336) hb); replace BK337 := am_ (blk_below (bk_ BK337) hb); replace BK356 := am_ (blk_below (bk_ BK356) hb); replace BK362 := am_ (blk_below (bk_ BK362) hb); replace BK368 := am_ (blk_below (bk_ BK368) hb); replace BK375 := am_ (blk_below (bk_ BK375) hb); replace HB := am_ (below_step (bl_ HB) hb); (try clear hb); (try clear hb2); (try clear hk); (try clear hi)))
           go_meet
           case rel => exact ⟨_, (true), (by first | rfl | (simp; done) | (simp [*]; done)), H', ⟨by have := HJ24.out; first | omega | exact Nat.le_refl _⟩, ⟨km_ HO_357001 (fun _ hk => ⟨hk.1, ⟨hk.2.1, hk.2.2.1⟩⟩)⟩, ⟨km_ HO_363001 (fun _ hk => ⟨hk.1, ⟨hk.2.1, hk.2.2.1⟩⟩)⟩, ⟨km_ HO_369001 (fun _ hk => ⟨hk.1, ⟨hk.2.1, hk.2.2.1⟩⟩)⟩, ⟨km_ HO_376001 (fun _ hk => ⟨hk.1, ⟨hk.2.1, hk.2.2.1⟩⟩)⟩, ⟨bk_ BK336⟩, ⟨bk_ BK337⟩, ⟨bk_ BK356⟩, ⟨bk_ BK362⟩, ⟨bk_ BK368⟩, ⟨bk_ BK375⟩, ⟨bl_ HB⟩⟩
        case rest =>
         clear HC109; try clear c1; try clear p2; try clear c10; try clear c11; try clear c12; try clear c13; try clear c14; try clear c15; try clear c16; try clear c100; try clear c103; try clear c106; try clear c118; try clear c119; try clear c120; try clear c121; try clear c122; try clear c125; try clear c126; try clear c127; try clear c128; try clear c131; try clear c131b0; try clear c133; try clear c134; try clear c135; try clear c136; try clear c137; try clear c138; try clear c140; try clear c141; try clear c142; try clear c143; try clear c146; try clear c147; try clear c148; try clear c149; try clear c150; try clear c152; try clear c153; try clear c154; try clear c155; try clear hcz123_0; try clear hcz123_1; try clear hcz123_2; try clear hcz129_0; try clear hcz129_1; try clear hcz129_2; try clear hcz139_0; try clear hcz139_1; try clear hcz139_2; try clear hcz144_0; try clear hcz144_1; try clear hcz144_2; try clear hcz151_0; try clear hcz151_1; try clear hcz151_2; try clear hcz156_0; try clear hcz156_1; try clear hcz156_2; try clear hcz64_1; try clear hcz64_2; try clear hcz72_0; try clear hcz72_1; try clear hcz72_2; try clear hcz81_0; try clear hcz81_1; try clear hcz81_2; try clear hcz86_0; try clear hcz86_1; try clear hcz86_2; try clear hcz93_0; try clear hcz93_1; try clear hcz93_2; try clear hcz98_0; try clear hcz98_1; try clear hcz98_2; try clear hfz123_0; try clear hfz123_1; try clear hfz123_2; try clear hfz129_0; try clear hfz129_1; try clear hfz129_2; try clear hfz139_0; try clear hfz139_1; try clear hfz139_2; try clear hfz144_0; try clear hfz144_1; try clear hfz144_2; try clear hfz151_0; try clear hfz151_1; try clear hfz151_2; try clear hfz156_0; try clear hfz156_1; try clear hfz156_2; try clear hfz46_0; try clear hfz46_1; try clear hfz46_2; try clear hfz52_0; try clear hfz52_1; try clear hfz52_2; try clear hfz55_0; try clear hfz55_1; try clear hfz55_2; try clear hfz62_0; try clear hfz62_1; try clear hfz62_2; try clear hfz64_0; try clear hfz64_1; try clear hfz64_2
         try clear hfz72_0; try clear hfz72_1; try clear hfz72_2; try clear hfz81_0; try clear hfz81_1; try clear hfz81_2; try clear hfz86_0; try clear hfz86_1; try clear hfz86_2; try clear hfz93_0; try clear hfz93_1; try clear hfz93_2; try clear hfz98_0; try clear hfz98_1; try clear hfz98_2
         obtain ⟨kq, x82_108, rfl, HA, HJ108, HO_357001, HO_363001, HO_369001, HO_376001, BK336, BK337, BK356, BK362, BK368, BK375, HB⟩ := hcut
         have hl363001_108 := (Kd.R_reads' HO_363001.out).1
         rw [hl363001_108] at HO_363001
         (try simp only [hl363001_108])
         (try simp only [hl363001_108] at BK336)
         (try simp only [hl363001_108] at BK337)
         (try simp only [hl363001_108] at BK356)
         (try simp only [hl363001_108] at BK362)
         (try simp only [hl363001_108] at BK368)
         (try simp only [hl363001_108] at BK375)
         (try simp only [hl363001_108] at HO_357001)
         (try simp only [hl363001_108] at HO_369001)
         (try simp only [hl363001_108] at HO_376001)
         have hl369001_108 := (Kd.R_reads' HO_369001.out).1
         rw [hl369001_108] at HO_369001
         (try simp only [hl369001_108])
         (try simp only [hl369001_108] at BK336)
         (try simp only [hl369001_108] at BK337)
         (try simp only [hl369001_108] at BK356)
         (try simp only [hl369001_108] at BK362)
         (try simp only [hl369001_108] at BK368)
         (try simp only [hl369001_108] at BK375)
         (try simp only [hl369001_108] at HO_357001)
         (try simp only [hl369001_108] at HO_363001)
         (try simp only [hl369001_108] at HO_376001)
         cases kq with
         | zero => exact absurd HA.out (by simp [laws_FnExactAddDyadics.j1])
         | succ kj108 =>
          have H := HA.out; clear HA
          simp only [laws_FnExactAddDyadics.j1] at H
          by_cases c158 : x82_108 = true
          ·subst c158
           have H1 : (some false) = some r := by rw [if_pos rfl] at H; exact H
           clear H; have H := H1; clear H1; obtain rfl := Option.some.inj H
           go_wp2
           go_ret
           exact ⟨by first | rfl | (simp [errW_none, errW_some] <;> rfl) | (simp [*, errW_none, errW_some] <;> rfl), bl_ HB⟩
          ·replace c158 := Bool.eq_false_iff.mpr c158
           subst c158
           have H1 : ((laws_markDyadic.f kj108 t369 t370 t373 1).bind fun bt394 => ((laws_heldDyadic.f kj108 t369 bt394.2 t373 1).bind fun t396 => (if t396 < 0 then (some false) else (if t396 = bt394.1 then ((laws_toDyadic.f kj108 a0_0 l0_1 a0_2).bind fun bt397 => ((laws_toDyadic.f kj108 a1_0 l1_1 a1_2).bind fun bt402 => ((impl_AddDyadics.f bt397.1 bt397.2.1 bt397.2.2 bt402.1 bt402.2.1 bt402.2.2).bind fun bt407 => ((laws_eqDyadic.f kj108 bt407.1 bt407.2.1 bt407.2.2.1 t350 t351 t354).bind fun t414 => (if t414 = true then (laws_FnExactAddDyadics.j2 kj108 bt394.1 (bt407.2.2.2 != t355) t369 bt394.2 t373) else (laws_FnExactAddDyadics.j2 kj108 bt394.1 true t369 bt394.2 t373)))))) else (some false))))) = some r := by rw [if_neg (show ¬ (false = true) by decide)] at H; exact H
           clear H; have H := H1; clear H1
           replace H := Option.bind_eq_some_iff.mp H
           obtain ⟨⟨t394, t395⟩, A1590, H⟩ := H
           replace H : ((laws_heldDyadic.f kj108 t369 t395 t373 1).bind fun t396 => (if t396 < 0 then (some false) else (if t396 = t394 then ((laws_toDyadic.f kj108 a0_0 l0_1 a0_2).bind fun bt397 => ((laws_toDyadic.f kj108 a1_0 l1_1 a1_2).bind fun bt402 => ((impl_AddDyadics.f bt397.1 bt397.2.1 bt397.2.2 bt402.1 bt402.2.1 bt402.2.2).bind fun bt407 => ((laws_eqDyadic.f kj108 bt407.1 bt407.2.1 bt407.2.2.1 t350 t351 t354).bind fun t414 => (if t414 = true then (laws_FnExactAddDyadics.j2 kj108 t394 (bt407.2.2.2 != t355) t369 t395 t373) else (laws_FnExactAddDyadics.j2 kj108 t394 true t369 t395 t373)))))) else (some false)))) = some r := H
           have A159 := Aside0.mk A1590; clear A1590
           replace H := Option.bind_eq_some_iff.mp H
           obtain ⟨t396, A1600, H⟩ := H
           replace H : (if t396 < 0 then (some false) else (if t396 = t394 then ((laws_toDyadic.f kj108 a0_0 l0_1 a0_2).bind fun bt397 => ((laws_toDyadic.f kj108 a1_0 l1_1 a1_2).bind fun bt402 => ((impl_AddDyadics.f bt397.1 bt397.2.1 bt397.2.2 bt402.1 bt402.2.1 bt402.2.2).bind fun bt407 => ((laws_eqDyadic.f kj108 bt407.1 bt407.2.1 bt407.2.2.1 t350 t351 t354).bind fun t414 => (if t414 = true then (laws_FnExactAddDyadics.j2 kj108 t394 (bt407.2.2.2 != t355) t369 t395 t373) else (laws_FnExactAddDyadics.j2 kj108 t394 true t369 t395 t373)))))) else (some false))) = some r := H
           have A160 := Aside0.mk A1600; clear A1600
           by_cases c161 : t396 < 0
           ·rw [if_pos c161] at H
            have c161b0 : decide (t396 < 0) = true := decide_eq_true c161
            clear c161; obtain rfl := Option.some.inj H; have hnb162 := NB375_336.out; have hnc162 := NB336_375.out; have hnb163 := NB375_337.out; have hnc163 := NB337_375.out; have hnb164 := NB375_356.out; have hnc164 := NB356_375.out; have hnb165 := NB375_362.out; have hnc165 := NB362_375.out; have hnb166 := NB375_368.out; have hnc166 := NB368_375.out
            have hcz167_0 : wc.cell? ⟨gb375, 0, none⟩ = some (.int .i64 t369) := bc_ BK375 0
            have hcz167_1 : wc.cell? ⟨gb375, 1, none⟩ = some (.slice Ao73 t370.length co73) := bc_ BK375 1
            have hcz167_2 : wc.cell? ⟨gb375, 2, none⟩ = some (.int .i64 t373) := bc_ BK375 2
            have hfz167_0 := blk_frozen BK375.out 0; have hfz167_1 := blk_frozen BK375.out 1; have hfz167_2 := blk_frozen BK375.out 2
            go_wp2_with (first | ((with_reducible refine gate_callee (f := 16) rfl ?_); refine goesL_ (some 85) rfl rfl Tryd.func16 (by kernel_rfl) rfl #[.agg #[.int .i64 t369, .slice Ao73 t370.length co73, .int .i64 t373], .int .i64 1] rfl ma_ ?_; (with_reducible refine (laws_markDyadic.calls kj108 t369 (fun k_ => some k_ = (.slice Ao73 t370.length co73 : Value).ownBlock) (.slice Ao73 t370.length co73) t370 t373 1 t394 t395 w _ ?side1 ?side2 A159.out).mono ?_); (case side1 => exact bl_ HB); (case side2 => exact Kd.R_tight rfl HO_376001.out); rintro e w168 ⟨rfl, hy0, hb, hkp⟩; refine ⟨_, rfl, ?_⟩; have n0_ := am_ (Kd.R_mono (ok' := fun k_ => some k_ ≠ (.slice Ao53 t390.length co53 : Value).ownBlock ∧ some k_ ≠ (.slice Ao63 t392.length co63 : Value).ownBlock ∧ some k_ ≠ (.slice Ao73 t370.length co73 : Value).ownBlock) (Kd.R_keptB (HO_357001.out) hkp (fun k_ hk_ hs_ => (hk_.2.2) hs_)) (fun k_ hk_ => ⟨hk_.1.1, hk_.1.2.1, hk_.1.2.2⟩)); have n1_ := am_ (Kd.R_mono (ok' := fun k_ => some k_ ≠ (.slice Ao42 t351.length co42 : Value).ownBlock ∧ some k_ ≠ (.slice Ao63 t392.length co63 : Value).ownBlock ∧ some k_ ≠ (.slice Ao73 t370.length co73 : Value).ownBlock) (Kd.R_keptB (HO_363001.out) hkp (fun k_ hk_ hs_ => (hk_.2.2) hs_)) (fun k_ hk_ => ⟨hk_.1.1, hk_.1.2.1, hk_.1.2.2⟩)); have n2_ := am_ (Kd.R_mono (ok' := fun k_ => some k_ ≠ (.slice Ao42 t351.length co42 : Value).ownBlock ∧ some k_ ≠ (.slice Ao53 t390.length co53 : Value).ownBlock ∧ some k_ ≠ (.slice Ao73 t370.length co73 : Value).ownBlock) (Kd.R_keptB (HO_369001.out) hkp (fun k_ hk_ hs_ => (hk_.2.2) hs_)) (fun k_ hk_ => ⟨hk_.1.1, hk_.1.2.1, hk_.1.2.2⟩)); have n3_ := am_ (Kd.R_reok rfl hy0 (fun k_ e_ => HO_376001.out.1 k_ e_)); have n4_ := am_ (blk_kept (bk_ BK336) hkp (fun hs_ => (fun e_ => (Kd.R_ne HO_376001.out BK336.out (by decide)) e_) hs_)); have n5_ := am_ (blk_kept (bk_ BK337) hkp (fun hs_ => (fun e_ => (Kd.R_ne HO_376001.out BK337.out (by decide)) e_) hs_)); have n6_ := am_ (blk_kept (bk_ BK356) hkp (fun hs_ => (fun e_ => (Kd.R_ne HO_376001.out BK356.out (by decide)) e_) hs_)); have n7_ := am_ (blk_kept (bk_ BK362) hkp (fun hs_ => (fun e_ => (Kd.R_ne HO_376001.out BK362.out (by decide)) e_) hs_)); have n8_ := am_ (blk_kept (bk_ BK368) hkp (fun hs_ => (fun e_ => (Kd.R_ne HO_376001.out BK368.out (by decide)) e_) hs_)); have n9_ := am_ (blk_kept (bk_ BK375) hkp (fun hs_ => (fun e_ => (Kd.R_ne HO_376001.out BK375.out (by decide)) e_) hs_)); have n10_ := am_ (hb); clear HO_357001; clear HO_363001; clear HO_369001; clear HO_376001; clear BK336; clear BK337; clear BK356; clear BK362; clear BK368; clear BK375; clear HB; have HO_357001 := n0_; have HO_363001 := n1_; have HO_369001 := n2_; have HO_376001 := n3_; have BK336 := n4_; have BK337 := n5_; have BK356 := n6_; have BK362 := n7_; have BK368 := n8_; have BK375 := n9_; have HB := n10_; clear n0_ n1_ n2_ n3_ n4_ n5_ n6_ n7_ n8_ n9_ n10_; (try clear hb); (try clear hkp); (try clear hy0); have hcz169_0 : w168.cell? ⟨gb375, 0, none⟩ = some (.int .i64 t369) := bc_ BK375 0; have hcz169_1 : w168.cell? ⟨gb375, 1, none⟩ = some (.slice Ao73 t370.length co73) := bc_ BK375 1; have hcz169_2 : w168.cell? ⟨gb375, 2, none⟩ = some (.int .i64 t373) := bc_ BK375 2; have hfz169_0 := blk_frozen BK375.out 0; have hfz169_1 := blk_frozen BK375.out 1; have hfz169_2 := blk_frozen BK375.out 2) | ((with_reducible refine gate_callee (f := 17) rfl ?_); refine goesL_ (some 88) rfl rfl Tryd.func17 (by kernel_rfl) rfl #[.agg #[.int .i64 t369, .slice Ao73 t395.length co73, .int .i64 t373], .int .i64 1] rfl (by (try simp only [List.map_toArray, List.map_cons, List.map_nil]); first | done | (rw [show t395.length = t370.length from (Kd.R_reads' HO_376001.out).1.symm] <;> rfl) | rfl | (simp only [List.length_drop, List.length_take]; rfl)) ?_; (with_reducible refine (laws_heldDyadic.calls kj108 t369 _ _ t395 t373 1 t396 _ ?side1 ?side2 A160.out).mono ?_); (case side1 => exact cr_ HO_376001); (case side2 => rw [show t395.length = t370.length from (Kd.R_reads' HO_376001.out).1.symm]; exact (Kd.R_reads' HO_376001.out).2.1); rintro e w170 ⟨rfl, hb⟩; refine ⟨_, rfl, ?_⟩; replace HO_357001 := am_ (Kd.R_below (kr_ HO_357001) hb); replace HO_363001 := am_ (Kd.R_below (kr_ HO_363001) hb); replace HO_369001 := am_ (Kd.R_below (kr_ HO_369001) hb); replace HO_376001 := am_ (Kd.R_below (kr_ HO_376001) hb); replace BK336 := am_ (blk_below (bk_ BK336) hb); replace BK337 := am_ (blk_below (bk_ BK337) hb); replace BK356 := am_ (blk_below (bk_ BK356) hb); replace BK362 := am_ (blk_below (bk_ BK362) hb); replace BK368 := am_ (blk_below (bk_ BK368) hb); replace BK375 := am_ (blk_below (bk_ BK375) hb); replace HB := am_ (below_step (bl_ HB) hb); (try clear hb); (try clear hb2); (try clear hk); (try clear hi)))
            go_ret
            exact ⟨by first | rfl | (simp [errW_none, errW_some] <;> rfl) | (simp [*, errW_none, errW_some] <;> rfl), bl_ HB⟩
           ·rw [if_neg c161] at H
            have c161b0 : decide (t396 < 0) = false := decide_eq_false c161
            clear c161
            by_cases c171 : t396 = t394
            ·rw [if_pos c171] at H
             have c171b0 : (t396 == t394) = true := beq_iff_eq.mpr c171
             have c171b1 : (t396 != t394) = false := bne_eq_false_iff_eq.mpr c171
             clear c171
             replace H := Option.bind_eq_some_iff.mp H
             obtain ⟨⟨t397, t398, t401⟩, A1720, H⟩ := H
             replace H : ((laws_toDyadic.f kj108 a1_0 l1_1 a1_2).bind fun bt402 => ((impl_AddDyadics.f t397 t398 t401 bt402.1 bt402.2.1 bt402.2.2).bind fun bt407 => ((laws_eqDyadic.f kj108 bt407.1 bt407.2.1 bt407.2.2.1 t350 t351 t354).bind fun t414 => (if t414 = true then (laws_FnExactAddDyadics.j2 kj108 t394 (bt407.2.2.2 != t355) t369 t395 t373) else (laws_FnExactAddDyadics.j2 kj108 t394 true t369 t395 t373))))) = some r := H
             have A172 := Aside0.mk A1720; clear A1720
             replace H := Option.bind_eq_some_iff.mp H
             obtain ⟨⟨t402, t403, t406⟩, A1730, H⟩ := H
             replace H : ((impl_AddDyadics.f t397 t398 t401 t402 t403 t406).bind fun bt407 => ((laws_eqDyadic.f kj108 bt407.1 bt407.2.1 bt407.2.2.1 t350 t351 t354).bind fun t414 => (if t414 = true then (laws_FnExactAddDyadics.j2 kj108 t394 (bt407.2.2.2 != t355) t369 t395 t373) else (laws_FnExactAddDyadics.j2 kj108 t394 true t369 t395 t373)))) = some r := H
             have A173 := Aside0.mk A1730; clear A1730
             replace H := Option.bind_eq_some_iff.mp H
             obtain ⟨⟨t407, t408, t411, t412⟩, A1740, H⟩ := H
             replace H : ((laws_eqDyadic.f kj108 t407 t408 t411 t350 t351 t354).bind fun t414 => (if t414 = true then (laws_FnExactAddDyadics.j2 kj108 t394 (t412 != t355) t369 t395 t373) else (laws_FnExactAddDyadics.j2 kj108 t394 true t369 t395 t373))) = some r := H
             have A174 := Aside0.mk A1740; clear A1740; have HC175 := Aside0.mk H; clear H; have hnb176 := NB375_336.out; have hnc176 := NB336_375.out; have hnb177 := NB375_337.out; have hnc177 := NB337_375.out; have hnb178 := NB375_356.out; have hnc178 := NB356_375.out; have hnb179 := NB375_362.out; have hnc179 := NB362_375.out; have hnb180 := NB375_368.out; have hnc180 := NB368_375.out
             have hcz181_0 : wc.cell? ⟨gb375, 0, none⟩ = some (.int .i64 t369) := bc_ BK375 0
             have hcz181_1 : wc.cell? ⟨gb375, 1, none⟩ = some (.slice Ao73 t370.length co73) := bc_ BK375 1
             have hcz181_2 : wc.cell? ⟨gb375, 2, none⟩ = some (.int .i64 t373) := bc_ BK375 2
             have hfz181_0 := blk_frozen BK375.out 0; have hfz181_1 := blk_frozen BK375.out 1; have hfz181_2 := blk_frozen BK375.out 2
             try go_wp2_with (first | ((with_reducible refine gate_callee (f := 16) rfl ?_); refine goesL_ (some 85) rfl rfl Tryd.func16 (by kernel_rfl) rfl #[.agg #[.int .i64 t369, .slice Ao73 t370.length co73, .int .i64 t373], .int .i64 1] rfl ma_ ?_; (with_reducible refine (laws_markDyadic.calls kj108 t369 (fun k_ => some k_ = (.slice Ao73 t370.length co73 : Value).ownBlock) (.slice Ao73 t370.length co73) t370 t373 1 t394 t395 w _ ?side1 ?side2 A159.out).mono ?_); (case side1 => exact bl_ HB); (case side2 => exact Kd.R_tight rfl HO_376001.out); rintro e w182 ⟨rfl, hy0, hb, hkp⟩; refine ⟨_, rfl, ?_⟩; have n0_ := am_ (Kd.R_mono (ok' := fun k_ => some k_ ≠ (.slice Ao53 t390.length co53 : Value).ownBlock ∧ some k_ ≠ (.slice Ao63 t392.length co63 : Value).ownBlock ∧ some k_ ≠ (.slice Ao73 t370.length co73 : Value).ownBlock) (Kd.R_keptB (HO_357001.out) hkp (fun k_ hk_ hs_ => (hk_.2.2) hs_)) (fun k_ hk_ => ⟨hk_.1.1, hk_.1.2.1, hk_.1.2.2⟩)); have n1_ := am_ (Kd.R_mono (ok' := fun k_ => some k_ ≠ (.slice Ao42 t351.length co42 : Value).ownBlock ∧ some k_ ≠ (.slice Ao63 t392.length co63 : Value).ownBlock ∧ some k_ ≠ (.slice Ao73 t370.length co73 : Value).ownBlock) (Kd.R_keptB (HO_363001.out) hkp (fun k_ hk_ hs_ => (hk_.2.2) hs_)) (fun k_ hk_ => ⟨hk_.1.1, hk_.1.2.1, hk_.1.2.2⟩)); have n2_ := am_ (Kd.R_mono (ok' := fun k_ => some k_ ≠ (.slice Ao42 t351.length co42 : Value).ownBlock ∧ some k_ ≠ (.slice Ao53 t390.length co53 : Value).ownBlock ∧ some k_ ≠ (.slice Ao73 t370.length co73 : Value).ownBlock) (Kd.R_keptB (HO_369001.out) hkp (fun k_ hk_ hs_ => (hk_.2.2) hs_)) (fun k_ hk_ => ⟨hk_.1.1, hk_.1.2.1, hk_.1.2.2⟩)); have n3_ := am_ (Kd.R_reok rfl hy0 (fun k_ e_ => HO_376001.out.1 k_ e_)); have n4_ := am_ (blk_kept (bk_ BK336) hkp (fun hs_ => (fun e_ => (Kd.R_ne HO_376001.out BK336.out (by decide)) e_) hs_)); have n5_ := am_ (blk_kept (bk_ BK337) hkp (fun hs_ => (fun e_ => (Kd.R_ne HO_376001.out BK337.out (by decide)) e_) hs_)); have n6_ := am_ (blk_kept (bk_ BK356) hkp (fun hs_ => (fun e_ => (Kd.R_ne HO_376001.out BK356.out (by decide)) e_) hs_)); have n7_ := am_ (blk_kept (bk_ BK362) hkp (fun hs_ => (fun e_ => (Kd.R_ne HO_376001.out BK362.out (by decide)) e_) hs_)); have n8_ := am_ (blk_kept (bk_ BK368) hkp (fun hs_ => (fun e_ => (Kd.R_ne HO_376001.out BK368.out (by decide)) e_) hs_)); have n9_ := am_ (blk_kept (bk_ BK375) hkp (fun hs_ => (fun e_ => (Kd.R_ne HO_376001.out BK375.out (by decide)) e_) hs_)); have n10_ := am_ (hb); clear HO_357001; clear HO_363001; clear HO_369001; clear HO_376001; clear BK336; clear BK337; clear BK356; clear BK362; clear BK368; clear BK375; clear HB; have HO_357001 := n0_; have HO_363001 := n1_; have HO_369001 := n2_; have HO_376001 := n3_; have BK336 := n4_; have BK337 := n5_; have BK356 := n6_; have BK362 := n7_; have BK368 := n8_; have BK375 := n9_; have HB := n10_; clear n0_ n1_ n2_ n3_ n4_ n5_ n6_ n7_ n8_ n9_ n10_; (try clear hb); (try clear hkp); (try clear hy0); have hcz183_0 : w182.cell? ⟨gb375, 0, none⟩ = some (.int .i64 t369) := bc_ BK375 0; have hcz183_1 : w182.cell? ⟨gb375, 1, none⟩ = some (.slice Ao73 t370.length co73) := bc_ BK375 1; have hcz183_2 : w182.cell? ⟨gb375, 2, none⟩ = some (.int .i64 t373) := bc_ BK375 2; have hfz183_0 := blk_frozen BK375.out 0; have hfz183_1 := blk_frozen BK375.out 1; have hfz183_2 := blk_frozen BK375.out 2) | ((with_reducible refine gate_callee (f := 17) rfl ?_); refine goesL_ (some 88) rfl rfl Tryd.func17 (by kernel_rfl) rfl #[.agg #[.int .i64 t369, .slice Ao73 t395.length co73, .int .i64 t373], .int .i64 1] rfl (by (try simp only [List.map_toArray, List.map_cons, List.map_nil]); first | done | (rw [show t395.length = t370.length from (Kd.R_reads' HO_376001.out).1.symm] <;> rfl) | rfl | (simp only [List.length_drop, List.length_take]; rfl)) ?_; (with_reducible refine (laws_heldDyadic.calls kj108 t369 _ _ t395 t373 1 t396 _ ?side1 ?side2 A160.out).mono ?_); (case side1 => exact cr_ HO_376001); (case side2 => rw [show t395.length = t370.length from (Kd.R_reads' HO_376001.out).1.symm]; exact (Kd.R_reads' HO_376001.out).2.1); rintro e w184 ⟨rfl, hb⟩; refine ⟨_, rfl, ?_⟩; replace HO_357001 := am_ (Kd.R_below (kr_ HO_357001) hb); replace HO_363001 := am_ (Kd.R_below (kr_ HO_363001) hb); replace HO_369001 := am_ (Kd.R_below (kr_ HO_369001) hb); replace HO_376001 := am_ (Kd.R_below (kr_ HO_376001) hb); replace BK336 := am_ (blk_below (bk_ BK336) hb); replace BK337 := am_ (blk_below (bk_ BK337) hb); replace BK356 := am_ (blk_below (bk_ BK356) hb); replace BK362 := am_ (blk_below (bk_ BK362) hb); replace BK368 := am_ (blk_below (bk_ BK368) hb); replace BK375 := am_ (blk_below (bk_ BK375) hb); replace HB := am_ (below_step (bl_ HB) hb); (try clear hb); (try clear hb2); (try clear hk); (try clear hi)))
             have n0_ := am_ (Kd.R_drew HO_357001.out); have n1_ := am_ (Kd.R_drew HO_363001.out); have n2_ := am_ (Kd.R_drew HO_369001.out); have n3_ := am_ (Kd.R_drew HO_376001.out); have n4_ := am_ (blk_drew BK336.out); have n5_ := am_ (blk_drew BK337.out); have n6_ := am_ (blk_drew BK356.out); have n7_ := am_ (blk_drew BK362.out); have n8_ := am_ (blk_drew BK368.out); have n9_ := am_ (blk_drew BK375.out); have n10_ := am_ (below_drew1 HB.out); clear HO_357001 HO_363001 HO_369001 HO_376001 BK336 BK337 BK356 BK362 BK368 BK375 HB; have HO_357001 := n0_; have HO_363001 := n1_; have HO_369001 := n2_; have HO_376001 := n3_; have BK336 := n4_; have BK337 := n5_; have BK356 := n6_; have BK362 := n7_; have BK368 := n8_; have BK375 := n9_; have HB := n10_; clear n0_ n1_ n2_ n3_ n4_ n5_ n6_ n7_ n8_ n9_ n10_
             refine start_ (n := 11) (S := fun w' => w'.cell? ⟨gb336, 0, none⟩ = some (.int .i64 a0_0) ∧ w'.cell? ⟨gb336, 1, none⟩ = some (.slice A0_1 l0_1.length c0_1) ∧ w'.cell? ⟨gb336, 2, none⟩ = some (.int .i64 a0_2) ∧ w'.cell? ⟨gb337, 0, none⟩ = some (.int .i64 a1_0) ∧ w'.cell? ⟨gb337, 1, none⟩ = some (.slice A1_1 l1_1.length c1_1) ∧ w'.cell? ⟨gb337, 2, none⟩ = some (.int .i64 a1_2)) (ds := []) #[false, false, false, false, false, false, false, false, false, false, false] (by kernel_rfl) rfl rfl ⟨bc_ BK336 0, bc_ BK336 1, bc_ BK336 2, bc_ BK337 0, bc_ BK337 1, bc_ BK337 2⟩ (fun hHeld => ?_); refine with_tabW laws_FnExactAddDyadics.tab31 laws_FnExactAddDyadics.bits31 (fun HT_ HW_ => ?_)
             generalize w184.drew = w185 at HO_357001 HO_363001 HO_369001 HO_376001 BK336 BK337 BK356 BK362 BK368 BK375 HB hHeld ⊢
             refine take_ (i := 0) (N := some 95) (v := ?_) (a' := ?_) #[true, false, false, false, false, false, false, false, false, false, false] rfl rfl (take_ofW HT_.out HW_.out (by kernel_rfl)) (fun _ _ _ h => h) (Or.inl ⟨by rfl, ?_⟩) hHeld ?_ ?_
             rotate_left
             ·rintro w' ⟨s0, s1, s2, s3, s4, s5⟩
              go_simp
              with_reducible rfl
             rotate_left
             ·exact nm_
             refine take_ (i := 2) (N := some 97) (v := ?_) (a' := ?_) #[true, false, true, false, false, false, false, false, false, false, false] rfl rfl (take_ofW HT_.out HW_.out (by kernel_rfl)) (fun _ _ _ h => h) (Or.inl ⟨by rfl, ?_⟩) hHeld ?_ ?_
             rotate_left
             ·rintro w' ⟨s0, s1, s2, s3, s4, s5⟩
              go_simp
              with_reducible rfl
             rotate_left
             ·exact nm_
             refine join_ (σ := Value × Value × Value × Nat) 2 #[true, true, true, true, true, true, true, true, true, false, false] (fun s_ => [(96, .agg #[.int .i64 t397, s_.1, .int .i64 t401]), (98, .agg #[.int .i64 t402, s_.2.1, .int .i64 t406]), (99, .tuple #[.agg #[.int .i64 t407, s_.2.2.1, .int .i64 t411], .int .i64 t412]), (15, .pointer (some ⟨s_.2.2.2, 0, none⟩)), (94, .tuple #[.agg #[.int .i64 t407, s_.2.2.1, .int .i64 t411], .int .i64 t412]), (100, .agg #[.int .i64 t407, s_.2.2.1, .int .i64 t411]), (101, .int .i64 t412)]) (fun s_ w' => (w'.cell? ⟨gb336, 0, none⟩ = some (.int .i64 a0_0) ∧ w'.cell? ⟨gb336, 1, none⟩ = some (.slice A0_1 l0_1.length c0_1) ∧ w'.cell? ⟨gb336, 2, none⟩ = some (.int .i64 a0_2) ∧ w'.cell? ⟨gb337, 0, none⟩ = some (.int .i64 a1_0) ∧ w'.cell? ⟨gb337, 1, none⟩ = some (.slice A1_1 l1_1.length c1_1) ∧ w'.cell? ⟨gb337, 2, none⟩ = some (.int .i64 a1_2)) ∧ (Kd.R (Kd.int .i64) 2 w' w.heap.size (fun k_ => some k_ ≠ (s_.2.1 : Value).ownBlock ∧ some k_ ≠ (s_.2.2.1 : Value).ownBlock ∧ some k_ ≠ (.slice Ao42 t351.length co42 : Value).ownBlock ∧ some k_ ≠ (.slice Ao53 t390.length co53 : Value).ownBlock ∧ some k_ ≠ (.slice Ao63 t392.length co63 : Value).ownBlock ∧ some k_ ≠ (.slice Ao73 t370.length co73 : Value).ownBlock) s_.1 t398) ∧ (Kd.R (Kd.int .i64) 2 w' w.heap.size (fun k_ => some k_ ≠ (s_.1 : Value).ownBlock ∧ some k_ ≠ (s_.2.2.1 : Value).ownBlock ∧ some k_ ≠ (.slice Ao42 t351.length co42 : Value).ownBlock ∧ some k_ ≠ (.slice Ao53 t390.length co53 : Value).ownBlock ∧ some k_ ≠ (.slice Ao63 t392.length co63 : Value).ownBlock ∧ some k_ ≠ (.slice Ao73 t370.length co73 : Value).ownBlock) s_.2.1 t403) ∧ (Kd.R (Kd.int .i64) 2 w' w.heap.size (fun k_ => some k_ ≠ (s_.1 : Value).ownBlock ∧ some k_ ≠ (s_.2.1 : Value).ownBlock ∧ some k_ ≠ (.slice Ao42 t351.length co42 : Value).ownBlock ∧ some k_ ≠ (.slice Ao53 t390.length co53 : Value).ownBlock ∧ some k_ ≠ (.slice Ao63 t392.length co63 : Value).ownBlock ∧ some k_ ≠ (.slice Ao73 t370.length co73 : Value).ownBlock) s_.2.2.1 t408) ∧ (Kd.R (Kd.int .i64) 2 w' w.heap.size (fun k_ => some k_ ≠ (s_.1 : Value).ownBlock ∧ some k_ ≠ (s_.2.1 : Value).ownBlock ∧ some k_ ≠ (s_.2.2.1 : Value).ownBlock ∧ some k_ ≠ (.slice Ao53 t390.length co53 : Value).ownBlock ∧ some k_ ≠ (.slice Ao63 t392.length co63 : Value).ownBlock ∧ some k_ ≠ (.slice Ao73 t370.length co73 : Value).ownBlock) (.slice Ao42 t351.length co42) t351) ∧ (Kd.R (Kd.int .i64) 2 w' w.heap.size (fun k_ => some k_ ≠ (s_.1 : Value).ownBlock ∧ some k_ ≠ (s_.2.1 : Value).ownBlock ∧ some k_ ≠ (s_.2.2.1 : Value).ownBlock ∧ some k_ ≠ (.slice Ao42 t351.length co42 : Value).ownBlock ∧ some k_ ≠ (.slice Ao63 t392.length co63 : Value).ownBlock ∧ some k_ ≠ (.slice Ao73 t370.length co73 : Value).ownBlock) (.slice Ao53 t390.length co53) t390) ∧ (Kd.R (Kd.int .i64) 2 w' w.heap.size (fun k_ => some k_ ≠ (s_.1 : Value).ownBlock ∧ some k_ ≠ (s_.2.1 : Value).ownBlock ∧ some k_ ≠ (s_.2.2.1 : Value).ownBlock ∧ some k_ ≠ (.slice Ao42 t351.length co42 : Value).ownBlock ∧ some k_ ≠ (.slice Ao53 t390.length co53 : Value).ownBlock ∧ some k_ ≠ (.slice Ao73 t370.length co73 : Value).ownBlock) (.slice Ao63 t392.length co63) t392) ∧ (Kd.R (Kd.int .i64) 2 w' w.heap.size (fun k_ => some k_ ≠ (s_.1 : Value).ownBlock ∧ some k_ ≠ (s_.2.1 : Value).ownBlock ∧ some k_ ≠ (s_.2.2.1 : Value).ownBlock ∧ some k_ ≠ (.slice Ao42 t351.length co42 : Value).ownBlock ∧ some k_ ≠ (.slice Ao53 t390.length co53 : Value).ownBlock ∧ some k_ ≠ (.slice Ao63 t392.length co63 : Value).ownBlock) (.slice Ao73 t370.length co73) t395) ∧ (w'.heap[gb336]? = some (.cells #[.int .i64 a0_0, .slice A0_1 l0_1.length c0_1, .int .i64 a0_2] 26 (0, 0))) ∧ (w'.heap[gb337]? = some (.cells #[.int .i64 a1_0, .slice A1_1 l1_1.length c1_1, .int .i64 a1_2] 26 (0, 0))) ∧ (w'.heap[gb356]? = some (.cells #[.int .i64 t350, .slice Ao42 t351.length co42, .int .i64 t354] 30 (0, 0))) ∧ (w'.heap[gb362]? = some (.cells #[.int .i64 t357, .slice Ao53 t390.length co53, .int .i64 t361] 30 (0, 0))) ∧ (w'.heap[gb368]? = some (.cells #[.int .i64 t363, .slice Ao63 t392.length co63, .int .i64 t367] 30 (0, 0))) ∧ (w'.heap[gb375]? = some (.cells #[.int .i64 t369, .slice Ao73 t370.length co73, .int .i64 t373] 30 (0, 0))) ∧ (w'.heap[s_.2.2.2]? = some (.cells #[.int .i64 0, .slice none 0 0, .int .i64 0] 30 (0, 0))) ∧ (w.heap.size ≤ s_.2.2.2) ∧ (w.heap.size ≤ s_.2.2.2) ∧ (gb336 ≠ s_.2.2.2) ∧ (s_.2.2.2 ≠ gb336) ∧ (gb337 ≠ s_.2.2.2) ∧ (s_.2.2.2 ≠ gb337) ∧ (gb356 ≠ s_.2.2.2) ∧ (s_.2.2.2 ≠ gb356) ∧ (gb362 ≠ s_.2.2.2) ∧ (s_.2.2.2 ≠ gb362) ∧ (gb368 ≠ s_.2.2.2) ∧ (s_.2.2.2 ≠ gb368) ∧ (gb375 ≠ s_.2.2.2) ∧ (s_.2.2.2 ≠ gb375) ∧ (Below w.heap.size w w')) ?_ ?_
             rotate_left
             ·intro hCont
              refine two_ (i := 1) (j := 8) (Ni := some 96) (Nj := some 15) #[true, true, true, false, false, false, false, false, false, false, false] #[true, false, true, false, false, false, false, false, true, false, false] rfl rfl rfl rfl (two_of HT_.out (by kernel_rfl)) (by decide) (by decide) (fun K hK => ?_) (fun K hK => ?_)
              ·skip
               refine goes_ Tryd.func13 (by kernel_rfl) rfl #[.agg #[.int .i64 a0_0, .slice A0_1 l0_1.length c0_1, .int .i64 a0_2]] (by rfl) rfl rfl ma_ ?_
               with_reducible refine (laws_toDyadic.calls kj108 a0_0 _ _ l0_1 a0_2 t397 t398 t401 _ ?side1 ?side2 A172.out).mono ?_
               (case side1 => exact cb_ HR0_1 HB)
               (case side2 => exact HC0_1.out)
               rintro e w186 ⟨v399, rfl, ho0, hb⟩
               refine ⟨_, rfl, ?_⟩
               have n0_ := am_ (Kd.R_elder' (kr_ HO_357001) (Kd.R_base ho0) hb); have n1_ := am_ (Kd.R_elder' (kr_ HO_363001) (Kd.R_base ho0) hb); have n2_ := am_ (Kd.R_elder' (kr_ HO_369001) (Kd.R_base ho0) hb); have n3_ := am_ (Kd.R_elder' (kr_ HO_376001) (Kd.R_base ho0) hb); have n4_ := am_ (Kd.R_lower (Kd.R_new' (Kd.R_new' (Kd.R_new' (Kd.R_new' ho0 (Kd.R_lt (kr_ HO_357001))) (Kd.R_lt (kr_ HO_363001))) (Kd.R_lt (kr_ HO_369001))) (Kd.R_lt (kr_ HO_376001))) (below_size (bl_ HB))); have n5_ := am_ (blk_below (bk_ BK336) hb); have n6_ := am_ (blk_below (bk_ BK337) hb); have n7_ := am_ (blk_below (bk_ BK356) hb); have n8_ := am_ (blk_below (bk_ BK362) hb); have n9_ := am_ (blk_below (bk_ BK368) hb); have n10_ := am_ (blk_below (bk_ BK375) hb); have n11_ := am_ (below_step (bl_ HB) hb); clear HO_357001 HO_363001 HO_369001 HO_376001 BK336 BK337 BK356 BK362 BK368 BK375 HB; have HO_357001 := n0_; have HO_363001 := n1_; have HO_369001 := n2_; have HO_376001 := n3_; have HO400 := n4_; have BK336 := n5_; have BK337 := n6_; have BK356 := n7_; have BK362 := n8_; have BK368 := n9_; have BK375 := n10_; have HB := n11_; clear n0_ n1_ n2_ n3_ n4_ n5_ n6_ n7_ n8_ n9_ n10_ n11_; (try clear hb); (try clear hb2); (try clear hk); (try clear hi); (try clear ho0)
               refine hK.out _ _ ⟨bc_ BK336 0, bc_ BK336 1, bc_ BK336 2, bc_ BK337 0, bc_ BK337 1, bc_ BK337 2⟩ (fun hHeld => ?_)
               clear hK K
               refine norm_ (a' := ?_) ?_ ?_
               rotate_left
               ·show Act.put _ (some 96) _ = _
                exact nm_
               refine two_ (i := 3) (j := 8) (Ni := some 98) (Nj := some 15) #[true, true, true, true, false, false, false, false, false, false, false] #[true, true, true, false, false, false, false, false, true, false, false] rfl rfl rfl rfl (two_of HT_.out (by kernel_rfl)) (by decide) (by decide) (fun K hK => ?_) (fun K hK => ?_)
               ·skip
                refine goes_ Tryd.func13 (by kernel_rfl) rfl #[.agg #[.int .i64 a1_0, .slice A1_1 l1_1.length c1_1, .int .i64 a1_2]] (by rfl) rfl rfl ma_ ?_
                with_reducible refine (laws_toDyadic.calls kj108 a1_0 _ _ l1_1 a1_2 t402 t403 t406 _ ?side1 ?side2 A173.out).mono ?_
                (case side1 => exact cb_ HR1_1 HB)
                (case side2 => exact HC1_1.out)
                rintro e w187 ⟨v404, rfl, ho0, hb⟩
                refine ⟨_, rfl, ?_⟩
                have n0_ := am_ (Kd.R_elder' (kr_ HO_357001) (Kd.R_base ho0) hb); have n1_ := am_ (Kd.R_elder' (kr_ HO_363001) (Kd.R_base ho0) hb); have n2_ := am_ (Kd.R_elder' (kr_ HO_369001) (Kd.R_base ho0) hb); have n3_ := am_ (Kd.R_elder' (kr_ HO_376001) (Kd.R_base ho0) hb); have n4_ := am_ (Kd.R_elder' (kr_ HO400) (Kd.R_base ho0) hb); have n5_ := am_ (Kd.R_lower (Kd.R_new' (Kd.R_new' (Kd.R_new' (Kd.R_new' (Kd.R_new' ho0 (Kd.R_lt (kr_ HO_357001))) (Kd.R_lt (kr_ HO_363001))) (Kd.R_lt (kr_ HO_369001))) (Kd.R_lt (kr_ HO_376001))) (Kd.R_lt (kr_ HO400))) (below_size (bl_ HB))); have n6_ := am_ (blk_below (bk_ BK336) hb); have n7_ := am_ (blk_below (bk_ BK337) hb); have n8_ := am_ (blk_below (bk_ BK356) hb); have n9_ := am_ (blk_below (bk_ BK362) hb); have n10_ := am_ (blk_below (bk_ BK368) hb); have n11_ := am_ (blk_below (bk_ BK375) hb); have n12_ := am_ (below_step (bl_ HB) hb); clear HO_357001 HO_363001 HO_369001 HO_376001 HO400 BK336 BK337 BK356 BK362 BK368 BK375 HB; have HO_357001 := n0_; have HO_363001 := n1_; have HO_369001 := n2_; have HO_376001 := n3_; have HO400 := n4_; have HO405 := n5_; have BK336 := n6_; have BK337 := n7_; have BK356 := n8_; have BK362 := n9_; have BK368 := n10_; have BK375 := n11_; have HB := n12_; clear n0_ n1_ n2_ n3_ n4_ n5_ n6_ n7_ n8_ n9_ n10_ n11_ n12_; (try clear hb); (try clear hb2); (try clear hk); (try clear hi); (try clear ho0)
                obtain ⟨Ao188, co188, eo188⟩ := Kd.R_slice HO400.out
                (first | subst eo188 | (injection eo188 with f1_ f2_ f3_; have f4_ := f1_.symm; have f5_ := f3_.symm; clear f1_ f2_ f3_; subst f4_; subst f5_))
                obtain ⟨Ao189, co189, eo189⟩ := Kd.R_slice HO405.out
                (first | subst eo189 | (injection eo189 with f1_ f2_ f3_; have f4_ := f1_.symm; have f5_ := f3_.symm; clear f1_ f2_ f3_; subst f4_; subst f5_))
                refine hK.out _ _ ⟨bc_ BK336 0, bc_ BK336 1, bc_ BK336 2, bc_ BK337 0, bc_ BK337 1, bc_ BK337 2⟩ (fun hHeld => ?_)
                clear hK K
                refine norm_ (a' := ?_) ?_ ?_
                rotate_left
                ·show Act.put _ (some 98) _ = _
                 exact nm_
                refine two_ (i := 4) (j := 8) (Ni := some 99) (Nj := some 15) #[true, true, true, true, true, false, false, false, false, false, false] #[true, true, true, true, false, false, false, false, true, false, false] rfl rfl rfl rfl (two_of HT_.out (by kernel_rfl)) (by decide) (by decide) (fun K hK => ?_) (fun K hK => ?_)
                ·skip
                 refine goes_ Tryd.func14 (by kernel_rfl) rfl #[.agg #[.int .i64 t397, .slice Ao188 t398.length co188, .int .i64 t401], .agg #[.int .i64 t402, .slice Ao189 t403.length co189, .int .i64 t406]] (by rfl) rfl rfl ma_ ?_
                 with_reducible refine (impl_AddDyadics.calls t397 _ _ t398 t401 t402 _ _ t403 t406 t407 t408 t411 t412 _ ?side1 ?side2 ?side3 ?side4 ?sideT A174.out).mono ?_
                 (case sideT => exact Go.Proofs.YthddlechoibdkaaDoor.Big.Tab.below HTab.out (bl_ HB))
                 (case side1 => exact cr_ HO400)
                 (case side2 => exact (Kd.R_reads' HO400.out).2.1)
                 (case side3 => exact cr_ HO405)
                 (case side4 => exact (Kd.R_reads' HO405.out).2.1)
                 rintro e w190 ⟨v409, rfl, ho0, hb⟩
                 refine ⟨_, rfl, ?_⟩
                 have n0_ := am_ (Kd.R_elder' (kr_ HO_357001) (Kd.R_base ho0) hb); have n1_ := am_ (Kd.R_elder' (kr_ HO_363001) (Kd.R_base ho0) hb); have n2_ := am_ (Kd.R_elder' (kr_ HO_369001) (Kd.R_base ho0) hb); have n3_ := am_ (Kd.R_elder' (kr_ HO_376001) (Kd.R_base ho0) hb); have n4_ := am_ (Kd.R_elder' (kr_ HO400) (Kd.R_base ho0) hb); have n5_ := am_ (Kd.R_elder' (kr_ HO405) (Kd.R_base ho0) hb); have n6_ := am_ (Kd.R_lower (Kd.R_new' (Kd.R_new' (Kd.R_new' (Kd.R_new' (Kd.R_new' (Kd.R_new' ho0 (Kd.R_lt (kr_ HO_357001))) (Kd.R_lt (kr_ HO_363001))) (Kd.R_lt (kr_ HO_369001))) (Kd.R_lt (kr_ HO_376001))) (Kd.R_lt (kr_ HO400))) (Kd.R_lt (kr_ HO405))) (below_size (bl_ HB))); have n7_ := am_ (blk_below (bk_ BK336) hb); have n8_ := am_ (blk_below (bk_ BK337) hb); have n9_ := am_ (blk_below (bk_ BK356) hb); have n10_ := am_ (blk_below (bk_ BK362) hb); have n11_ := am_ (blk_below (bk_ BK368) hb); have n12_ := am_ (blk_below (bk_ BK375) hb); have n13_ := am_ (below_step (bl_ HB) hb); clear HO_357001 HO_363001 HO_369001 HO_376001 HO400 HO405 BK336 BK337 BK356 BK362 BK368 BK375 HB; have HO_357001 := n0_; have HO_363001 := n1_; have HO_369001 := n2_; have HO_376001 := n3_; have HO400 := n4_; have HO405 := n5_; have HO410 := n6_; have BK336 := n7_; have BK337 := n8_; have BK356 := n9_; have BK362 := n10_; have BK368 := n11_; have BK375 := n12_; have HB := n13_; clear n0_ n1_ n2_ n3_ n4_ n5_ n6_ n7_ n8_ n9_ n10_ n11_ n12_ n13_; (try clear hb); (try clear hb2); (try clear hk); (try clear hi); (try clear ho0)
                 refine hK.out _ _ ⟨bc_ BK336 0, bc_ BK336 1, bc_ BK336 2, bc_ BK337 0, bc_ BK337 1, bc_ BK337 2⟩ (fun hHeld => ?_)
                 clear hK K
                 refine norm_ (a' := ?_) ?_ ?_
                 rotate_left
                 ·show Act.put _ (some 99) _ = _
                  exact nm_
                 refine pure_ (i := 5) (N := some 94) (v := ?_) (a' := ?_) #[true, true, true, true, true, true, false, false, false, false, false] rfl rfl (any_of HT_.out (by kernel_rfl)) (fun _ _ _ h => h) (Or.inl ⟨by rfl, ?_⟩) ?_ ?_
                 rotate_left
                 ·intro w'
                  go_simp
                  with_reducible rfl
                 rotate_left
                 ·exact nm_
                 refine pure_ (i := 6) (N := some 100) (v := ?_) (a' := ?_) #[true, true, true, true, true, true, true, false, false, false, false] rfl rfl (any_of HT_.out (by kernel_rfl)) (fun _ _ _ h => h) (Or.inl ⟨by rfl, ?_⟩) ?_ ?_
                 rotate_left
                 ·intro w'
                  go_simp
                  with_reducible rfl
                 rotate_left
                 ·exact nm_
                 refine pure_ (i := 7) (N := some 101) (v := ?_) (a' := ?_) #[true, true, true, true, true, true, true, true, false, false, false] rfl rfl (any_of HT_.out (by kernel_rfl)) (fun _ _ _ h => h) (Or.inl ⟨by rfl, ?_⟩) ?_ ?_
                 rotate_left
                 ·intro w'
                  go_simp
                  with_reducible rfl
                 rotate_left
                 ·exact nm_
                 refine one_ (i := 8) (N := some 15) #[true, true, true, true, true, true, true, true, true, false, false] rfl rfl (one_of HT_.out (by kernel_rfl)) (by decide) (fun K hK => ?_)
                 refine box_step ?hg (N := 15) ?hd (cs := #[.int .i64 0, .slice none 0 0, .int .i64 0]) (t := 30) ?hr ?_; (case hd => rfl); (case hg => rfl); (case hr => first | (go_simp; done) | (go_simp; rfl))
                 intro gb413 hg w191 hbox hb
                 have n0_ := am_ (Kd.R_below (kr_ HO_357001) hb); have n1_ := am_ (Kd.R_below (kr_ HO_363001) hb); have n2_ := am_ (Kd.R_below (kr_ HO_369001) hb); have n3_ := am_ (Kd.R_below (kr_ HO_376001) hb); have n4_ := am_ (Kd.R_below (kr_ HO400) hb); have n5_ := am_ (Kd.R_below (kr_ HO405) hb); have n6_ := am_ (Kd.R_below (kr_ HO410) hb); have n7_ := am_ (blk_below (bk_ BK336) hb); have n8_ := am_ (blk_below (bk_ BK337) hb); have n9_ := am_ (blk_below (bk_ BK356) hb); have n10_ := am_ (blk_below (bk_ BK362) hb); have n11_ := am_ (blk_below (bk_ BK368) hb); have n12_ := am_ (blk_below (bk_ BK375) hb); have n13_ := am_ (below_step (bl_ HB) hb); have n14_ := am_ (hbox); have n15_ := am_ (gs_ hg HB); have n16_ := am_ (gs_ hg HB); have n17_ := am_ (nl_ hg BK336); have n18_ := am_ (ng_ hg BK336); have n19_ := am_ (nl_ hg BK337); have n20_ := am_ (ng_ hg BK337); have n21_ := am_ (nl_ hg BK356); have n22_ := am_ (ng_ hg BK356); have n23_ := am_ (nl_ hg BK362); have n24_ := am_ (ng_ hg BK362); have n25_ := am_ (nl_ hg BK368); have n26_ := am_ (ng_ hg BK368); have n27_ := am_ (nl_ hg BK375); have n28_ := am_ (ng_ hg BK375); clear HO_357001 HO_363001 HO_369001 HO_376001 HO400 HO405 HO410 BK336 BK337 BK356 BK362 BK368 BK375 HB; have HO_357001 := n0_; have HO_363001 := n1_; have HO_369001 := n2_; have HO_376001 := n3_; have HO400 := n4_; have HO405 := n5_; have HO410 := n6_; have BK336 := n7_; have BK337 := n8_; have BK356 := n9_; have BK362 := n10_; have BK368 := n11_; have BK375 := n12_; have HB := n13_; have BK413 := n14_; have GW413 := n15_; have GE413 := n16_; have NB336_413 := n17_; have NB413_336 := n18_; have NB337_413 := n19_; have NB413_337 := n20_; have NB356_413 := n21_; have NB413_356 := n22_; have NB362_413 := n23_; have NB413_362 := n24_; have NB368_413 := n25_; have NB413_368 := n26_; have NB375_413 := n27_; have NB413_375 := n28_; clear n0_ n1_ n2_ n3_ n4_ n5_ n6_ n7_ n8_ n9_ n10_ n11_ n12_ n13_ n14_ n15_ n16_ n17_ n18_ n19_ n20_ n21_ n22_ n23_ n24_ n25_ n26_ n27_ n28_ hb hbox hg
                 refine hK.out _ _ ⟨bc_ BK336 0, bc_ BK336 1, bc_ BK336 2, bc_ BK337 0, bc_ BK337 1, bc_ BK337 2⟩ (fun hHeld => ?_)
                 clear hK K
                 refine norm_ (a' := ?_) ?_ ?_
                 rotate_left
                 ·show Act.put _ (some 15) _ = _
                  exact nm_
                 exact norm_ (by simp only [putAll, Act.put, List.setIfInBounds_toArray, List.set_cons_zero, List.set_cons_succ]) (hCont (.slice Ao188 t398.length co188, .slice Ao189 t403.length co189, v409, gb413) _ ⟨hHeld, (km_ HO400 (fun _ hk => ⟨hk.1.2, ⟨hk.2, ⟨hk.1.1.1.1.1.2, ⟨hk.1.1.1.1.2, ⟨hk.1.1.1.2, hk.1.1.2⟩⟩⟩⟩⟩)), (km_ HO405 (fun _ hk => ⟨hk.1.2, ⟨hk.2, ⟨hk.1.1.1.1.1.2, ⟨hk.1.1.1.1.2, ⟨hk.1.1.1.2, hk.1.1.2⟩⟩⟩⟩⟩)), (km_ HO410 (fun _ hk => ⟨hk.1.2, ⟨hk.2, ⟨hk.1.1.1.1.1.2, ⟨hk.1.1.1.1.2, ⟨hk.1.1.1.2, hk.1.1.2⟩⟩⟩⟩⟩)), (km_ HO_357001 (fun _ hk => ⟨hk.1.1.2, ⟨hk.1.2, ⟨hk.2, ⟨hk.1.1.1.1, ⟨hk.1.1.1.2.1, hk.1.1.1.2.2⟩⟩⟩⟩⟩)), (km_ HO_363001 (fun _ hk => ⟨hk.1.1.2, ⟨hk.1.2, ⟨hk.2, ⟨hk.1.1.1.1, ⟨hk.1.1.1.2.1, hk.1.1.1.2.2⟩⟩⟩⟩⟩)), (km_ HO_369001 (fun _ hk => ⟨hk.1.1.2, ⟨hk.1.2, ⟨hk.2, ⟨hk.1.1.1.1, ⟨hk.1.1.1.2.1, hk.1.1.1.2.2⟩⟩⟩⟩⟩)), (km_ HO_376001 (fun _ hk => ⟨hk.1.1.2, ⟨hk.1.2, ⟨hk.2, ⟨hk.1.1.1.1, ⟨hk.1.1.1.2.1, hk.1.1.1.2.2⟩⟩⟩⟩⟩)), (bk_ BK336), (bk_ BK337), (bk_ BK356), (bk_ BK362), (bk_ BK368), (bk_ BK375), (bk_ BK413), GW413.out, GE413.out, NB336_413.out, NB413_336.out, NB337_413.out, NB413_337.out, NB356_413.out, NB413_356.out, NB362_413.out, NB413_362.out, NB368_413.out, NB413_368.out, NB375_413.out, NB413_375.out, (bl_ HB)⟩)
                ·skip
                 refine box_step ?hg (N := 15) ?hd (cs := #[.int .i64 0, .slice none 0 0, .int .i64 0]) (t := 30) ?hr ?_; (case hd => rfl); (case hg => rfl); (case hr => first | (go_simp; done) | (go_simp; rfl))
                 intro gb413 hg w188 hbox hb
                 have n0_ := am_ (Kd.R_below (kr_ HO_357001) hb); have n1_ := am_ (Kd.R_below (kr_ HO_363001) hb); have n2_ := am_ (Kd.R_below (kr_ HO_369001) hb); have n3_ := am_ (Kd.R_below (kr_ HO_376001) hb); have n4_ := am_ (Kd.R_below (kr_ HO400) hb); have n5_ := am_ (Kd.R_below (kr_ HO405) hb); have n6_ := am_ (blk_below (bk_ BK336) hb); have n7_ := am_ (blk_below (bk_ BK337) hb); have n8_ := am_ (blk_below (bk_ BK356) hb); have n9_ := am_ (blk_below (bk_ BK362) hb); have n10_ := am_ (blk_below (bk_ BK368) hb); have n11_ := am_ (blk_below (bk_ BK375) hb); have n12_ := am_ (below_step (bl_ HB) hb); have n13_ := am_ (hbox); have n14_ := am_ (gs_ hg HB); have n15_ := am_ (gs_ hg HB); have n16_ := am_ (nl_ hg BK336); have n17_ := am_ (ng_ hg BK336); have n18_ := am_ (nl_ hg BK337); have n19_ := am_ (ng_ hg BK337); have n20_ := am_ (nl_ hg BK356); have n21_ := am_ (ng_ hg BK356); have n22_ := am_ (nl_ hg BK362); have n23_ := am_ (ng_ hg BK362); have n24_ := am_ (nl_ hg BK368); have n25_ := am_ (ng_ hg BK368); have n26_ := am_ (nl_ hg BK375); have n27_ := am_ (ng_ hg BK375); clear HO_357001 HO_363001 HO_369001 HO_376001 HO400 HO405 BK336 BK337 BK356 BK362 BK368 BK375 HB; have HO_357001 := n0_; have HO_363001 := n1_; have HO_369001 := n2_; have HO_376001 := n3_; have HO400 := n4_; have HO405 := n5_; have BK336 := n6_; have BK337 := n7_; have BK356 := n8_; have BK362 := n9_; have BK368 := n10_; have BK375 := n11_; have HB := n12_; have BK413 := n13_; have GW413 := n14_; have GE413 := n15_; have NB336_413 := n16_; have NB413_336 := n17_; have NB337_413 := n18_; have NB413_337 := n19_; have NB356_413 := n20_; have NB413_356 := n21_; have NB362_413 := n22_; have NB413_362 := n23_; have NB368_413 := n24_; have NB413_368 := n25_; have NB375_413 := n26_; have NB413_375 := n27_; clear n0_ n1_ n2_ n3_ n4_ n5_ n6_ n7_ n8_ n9_ n10_ n11_ n12_ n13_ n14_ n15_ n16_ n17_ n18_ n19_ n20_ n21_ n22_ n23_ n24_ n25_ n26_ n27_ hb hbox hg
                 obtain ⟨Ao189, co189, eo189⟩ := Kd.R_slice HO400.out
                 (first | subst eo189 | (injection eo189 with f1_ f2_ f3_; have f4_ := f1_.symm; have f5_ := f3_.symm; clear f1_ f2_ f3_; subst f4_; subst f5_))
                 obtain ⟨Ao190, co190, eo190⟩ := Kd.R_slice HO405.out
                 (first | subst eo190 | (injection eo190 with f1_ f2_ f3_; have f4_ := f1_.symm; have f5_ := f3_.symm; clear f1_ f2_ f3_; subst f4_; subst f5_))
                 refine hK.out _ _ ⟨bc_ BK336 0, bc_ BK336 1, bc_ BK336 2, bc_ BK337 0, bc_ BK337 1, bc_ BK337 2⟩ (fun hHeld => ?_)
                 clear hK K
                 refine norm_ (a' := ?_) ?_ ?_
                 rotate_left
                 ·show Act.put _ (some 15) _ = _
                  exact nm_
                 refine one_ (i := 4) (N := some 99) #[true, true, true, true, true, false, false, false, true, false, false] rfl rfl (one_of HT_.out (by kernel_rfl)) (by decide) (fun K hK => ?_)
                 refine goes_ Tryd.func14 (by kernel_rfl) rfl #[.agg #[.int .i64 t397, .slice Ao189 t398.length co189, .int .i64 t401], .agg #[.int .i64 t402, .slice Ao190 t403.length co190, .int .i64 t406]] (by rfl) rfl rfl ma_ ?_
                 with_reducible refine (impl_AddDyadics.calls t397 _ _ t398 t401 t402 _ _ t403 t406 t407 t408 t411 t412 _ ?side1 ?side2 ?side3 ?side4 ?sideT A174.out).mono ?_
                 (case sideT => exact Go.Proofs.YthddlechoibdkaaDoor.Big.Tab.below HTab.out (bl_ HB))
                 (case side1 => exact cr_ HO400)
                 (case side2 => exact (Kd.R_reads' HO400.out).2.1)
                 (case side3 => exact cr_ HO405)
                 (case side4 => exact (Kd.R_reads' HO405.out).2.1)
                 rintro e w191 ⟨v409, rfl, ho0, hb⟩
                 refine ⟨_, rfl, ?_⟩
                 have n0_ := am_ (Kd.R_elder' (kr_ HO_357001) (Kd.R_base ho0) hb); have n1_ := am_ (Kd.R_elder' (kr_ HO_363001) (Kd.R_base ho0) hb); have n2_ := am_ (Kd.R_elder' (kr_ HO_369001) (Kd.R_base ho0) hb); have n3_ := am_ (Kd.R_elder' (kr_ HO_376001) (Kd.R_base ho0) hb); have n4_ := am_ (Kd.R_elder' (kr_ HO400) (Kd.R_base ho0) hb); have n5_ := am_ (Kd.R_elder' (kr_ HO405) (Kd.R_base ho0) hb); have n6_ := am_ (Kd.R_lower (Kd.R_new' (Kd.R_new' (Kd.R_new' (Kd.R_new' (Kd.R_new' (Kd.R_new' ho0 (Kd.R_lt (kr_ HO_357001))) (Kd.R_lt (kr_ HO_363001))) (Kd.R_lt (kr_ HO_369001))) (Kd.R_lt (kr_ HO_376001))) (Kd.R_lt (kr_ HO400))) (Kd.R_lt (kr_ HO405))) (below_size (bl_ HB))); have n7_ := am_ (blk_below (bk_ BK336) hb); have n8_ := am_ (blk_below (bk_ BK337) hb); have n9_ := am_ (blk_below (bk_ BK356) hb); have n10_ := am_ (blk_below (bk_ BK362) hb); have n11_ := am_ (blk_below (bk_ BK368) hb); have n12_ := am_ (blk_below (bk_ BK375) hb); have n13_ := am_ (blk_below (bk_ BK413) hb); have n14_ := am_ (below_step (bl_ HB) hb); clear HO_357001 HO_363001 HO_369001 HO_376001 HO400 HO405 BK336 BK337 BK356 BK362 BK368 BK375 BK413 HB; have HO_357001 := n0_; have HO_363001 := n1_; have HO_369001 := n2_; have HO_376001 := n3_; have HO400 := n4_; have HO405 := n5_; have HO410 := n6_; have BK336 := n7_; have BK337 := n8_; have BK356 := n9_; have BK362 := n10_; have BK368 := n11_; have BK375 := n12_; have BK413 := n13_; have HB := n14_; clear n0_ n1_ n2_ n3_ n4_ n5_ n6_ n7_ n8_ n9_ n10_ n11_ n12_ n13_ n14_; (try clear hb); (try clear hb2); (try clear hk); (try clear hi); (try clear ho0)
                 refine hK.out _ _ ⟨bc_ BK336 0, bc_ BK336 1, bc_ BK336 2, bc_ BK337 0, bc_ BK337 1, bc_ BK337 2⟩ (fun hHeld => ?_)
                 clear hK K
                 refine norm_ (a' := ?_) ?_ ?_
                 rotate_left
                 ·show Act.put _ (some 99) _ = _
                  exact nm_
                 refine pure_ (i := 5) (N := some 94) (v := ?_) (a' := ?_) #[true, true, true, true, true, true, false, false, true, false, false] rfl rfl (any_of HT_.out (by kernel_rfl)) (fun _ _ _ h => h) (Or.inl ⟨by rfl, ?_⟩) ?_ ?_
                 rotate_left
                 ·intro w'
                  go_simp
                  with_reducible rfl
                 rotate_left
                 ·exact nm_
                 refine pure_ (i := 6) (N := some 100) (v := ?_) (a' := ?_) #[true, true, true, true, true, true, true, false, true, false, false] rfl rfl (any_of HT_.out (by kernel_rfl)) (fun _ _ _ h => h) (Or.inl ⟨by rfl, ?_⟩) ?_ ?_
                 rotate_left
                 ·intro w'
                  go_simp
                  with_reducible rfl
                 rotate_left
                 ·exact nm_
                 refine pure_ (i := 7) (N := some 101) (v := ?_) (a' := ?_) #[true, true, true, true, true, true, true, true, true, false, false] rfl rfl (any_of HT_.out (by kernel_rfl)) (fun _ _ _ h => h) (Or.inl ⟨by rfl, ?_⟩) ?_ ?_
                 rotate_left
                 ·intro w'
                  go_simp
                  with_reducible rfl
                 rotate_left
                 ·exact nm_
                 exact norm_ (by simp only [putAll, Act.put, List.setIfInBounds_toArray, List.set_cons_zero, List.set_cons_succ]) (hCont (.slice Ao189 t398.length co189, .slice Ao190 t403.length co190, v409, gb413) _ ⟨hHeld, (km_ HO400 (fun _ hk => ⟨hk.1.2, ⟨hk.2, ⟨hk.1.1.1.1.1.2, ⟨hk.1.1.1.1.2, ⟨hk.1.1.1.2, hk.1.1.2⟩⟩⟩⟩⟩)), (km_ HO405 (fun _ hk => ⟨hk.1.2, ⟨hk.2, ⟨hk.1.1.1.1.1.2, ⟨hk.1.1.1.1.2, ⟨hk.1.1.1.2, hk.1.1.2⟩⟩⟩⟩⟩)), (km_ HO410 (fun _ hk => ⟨hk.1.2, ⟨hk.2, ⟨hk.1.1.1.1.1.2, ⟨hk.1.1.1.1.2, ⟨hk.1.1.1.2, hk.1.1.2⟩⟩⟩⟩⟩)), (km_ HO_357001 (fun _ hk => ⟨hk.1.1.2, ⟨hk.1.2, ⟨hk.2, ⟨hk.1.1.1.1, ⟨hk.1.1.1.2.1, hk.1.1.1.2.2⟩⟩⟩⟩⟩)), (km_ HO_363001 (fun _ hk => ⟨hk.1.1.2, ⟨hk.1.2, ⟨hk.2, ⟨hk.1.1.1.1, ⟨hk.1.1.1.2.1, hk.1.1.1.2.2⟩⟩⟩⟩⟩)), (km_ HO_369001 (fun _ hk => ⟨hk.1.1.2, ⟨hk.1.2, ⟨hk.2, ⟨hk.1.1.1.1, ⟨hk.1.1.1.2.1, hk.1.1.1.2.2⟩⟩⟩⟩⟩)), (km_ HO_376001 (fun _ hk => ⟨hk.1.1.2, ⟨hk.1.2, ⟨hk.2, ⟨hk.1.1.1.1, ⟨hk.1.1.1.2.1, hk.1.1.1.2.2⟩⟩⟩⟩⟩)), (bk_ BK336), (bk_ BK337), (bk_ BK356), (bk_ BK362), (bk_ BK368), (bk_ BK375), (bk_ BK413), GW413.out, GE413.out, NB336_413.out, NB413_336.out, NB337_413.out, NB413_337.out, NB356_413.out, NB413_356.out, NB362_413.out, NB413_362.out, NB368_413.out, NB413_368.out, NB375_413.out, NB413_375.out, (bl_ HB)⟩)
               ·skip
                refine box_step ?hg (N := 15) ?hd (cs := #[.int .i64 0, .slice none 0 0, .int .i64 0]) (t := 30) ?hr ?_; (case hd => rfl); (case hg => rfl); (case hr => first | (go_simp; done) | (go_simp; rfl))
                intro gb413 hg w187 hbox hb
                have n0_ := am_ (Kd.R_below (kr_ HO_357001) hb); have n1_ := am_ (Kd.R_below (kr_ HO_363001) hb); have n2_ := am_ (Kd.R_below (kr_ HO_369001) hb); have n3_ := am_ (Kd.R_below (kr_ HO_376001) hb); have n4_ := am_ (Kd.R_below (kr_ HO400) hb); have n5_ := am_ (blk_below (bk_ BK336) hb); have n6_ := am_ (blk_below (bk_ BK337) hb); have n7_ := am_ (blk_below (bk_ BK356) hb); have n8_ := am_ (blk_below (bk_ BK362) hb); have n9_ := am_ (blk_below (bk_ BK368) hb); have n10_ := am_ (blk_below (bk_ BK375) hb); have n11_ := am_ (below_step (bl_ HB) hb); have n12_ := am_ (hbox); have n13_ := am_ (gs_ hg HB); have n14_ := am_ (gs_ hg HB); have n15_ := am_ (nl_ hg BK336); have n16_ := am_ (ng_ hg BK336); have n17_ := am_ (nl_ hg BK337); have n18_ := am_ (ng_ hg BK337); have n19_ := am_ (nl_ hg BK356); have n20_ := am_ (ng_ hg BK356); have n21_ := am_ (nl_ hg BK362); have n22_ := am_ (ng_ hg BK362); have n23_ := am_ (nl_ hg BK368); have n24_ := am_ (ng_ hg BK368); have n25_ := am_ (nl_ hg BK375); have n26_ := am_ (ng_ hg BK375); clear HO_357001 HO_363001 HO_369001 HO_376001 HO400 BK336 BK337 BK356 BK362 BK368 BK375 HB; have HO_357001 := n0_; have HO_363001 := n1_; have HO_369001 := n2_; have HO_376001 := n3_; have HO400 := n4_; have BK336 := n5_; have BK337 := n6_; have BK356 := n7_; have BK362 := n8_; have BK368 := n9_; have BK375 := n10_; have HB := n11_; have BK413 := n12_; have GW413 := n13_; have GE413 := n14_; have NB336_413 := n15_; have NB413_336 := n16_; have NB337_413 := n17_; have NB413_337 := n18_; have NB356_413 := n19_; have NB413_356 := n20_; have NB362_413 := n21_; have NB413_362 := n22_; have NB368_413 := n23_; have NB413_368 := n24_; have NB375_413 := n25_; have NB413_375 := n26_; clear n0_ n1_ n2_ n3_ n4_ n5_ n6_ n7_ n8_ n9_ n10_ n11_ n12_ n13_ n14_ n15_ n16_ n17_ n18_ n19_ n20_ n21_ n22_ n23_ n24_ n25_ n26_ hb hbox hg
                refine hK.out _ _ ⟨bc_ BK336 0, bc_ BK336 1, bc_ BK336 2, bc_ BK337 0, bc_ BK337 1, bc_ BK337 2⟩ (fun hHeld => ?_)
                clear hK K
                refine norm_ (a' := ?_) ?_ ?_
                rotate_left
                ·show Act.put _ (some 15) _ = _
                 exact nm_
                refine one_ (i := 3) (N := some 98) #[true, true, true, true, false, false, false, false, true, false, false] rfl rfl (one_of HT_.out (by kernel_rfl)) (by decide) (fun K hK => ?_)
                refine goes_ Tryd.func13 (by kernel_rfl) rfl #[.agg #[.int .i64 a1_0, .slice A1_1 l1_1.length c1_1, .int .i64 a1_2]] (by rfl) rfl rfl ma_ ?_
                with_reducible refine (laws_toDyadic.calls kj108 a1_0 _ _ l1_1 a1_2 t402 t403 t406 _ ?side1 ?side2 A173.out).mono ?_
                (case side1 => exact cb_ HR1_1 HB)
                (case side2 => exact HC1_1.out)
                rintro e w188 ⟨v404, rfl, ho0, hb⟩
                refine ⟨_, rfl, ?_⟩
                have n0_ := am_ (Kd.R_elder' (kr_ HO_357001) (Kd.R_base ho0) hb); have n1_ := am_ (Kd.R_elder' (kr_ HO_363001) (Kd.R_base ho0) hb); have n2_ := am_ (Kd.R_elder' (kr_ HO_369001) (Kd.R_base ho0) hb); have n3_ := am_ (Kd.R_elder' (kr_ HO_376001) (Kd.R_base ho0) hb); have n4_ := am_ (Kd.R_elder' (kr_ HO400) (Kd.R_base ho0) hb); have n5_ := am_ (Kd.R_lower (Kd.R_new' (Kd.R_new' (Kd.R_new' (Kd.R_new' (Kd.R_new' ho0 (Kd.R_lt (kr_ HO_357001))) (Kd.R_lt (kr_ HO_363001))) (Kd.R_lt (kr_ HO_369001))) (Kd.R_lt (kr_ HO_376001))) (Kd.R_lt (kr_ HO400))) (below_size (bl_ HB))); have n6_ := am_ (blk_below (bk_ BK336) hb); have n7_ := am_ (blk_below (bk_ BK337) hb); have n8_ := am_ (blk_below (bk_ BK356) hb); have n9_ := am_ (blk_below (bk_ BK362) hb); have n10_ := am_ (blk_below (bk_ BK368) hb); have n11_ := am_ (blk_below (bk_ BK375) hb); have n12_ := am_ (blk_below (bk_ BK413) hb); have n13_ := am_ (below_step (bl_ HB) hb); clear HO_357001 HO_363001 HO_369001 HO_376001 HO400 BK336 BK337 BK356 BK362 BK368 BK375 BK413 HB; have HO_357001 := n0_; have HO_363001 := n1_; have HO_369001 := n2_; have HO_376001 := n3_; have HO400 := n4_; have HO405 := n5_; have BK336 := n6_; have BK337 := n7_; have BK356 := n8_; have BK362 := n9_; have BK368 := n10_; have BK375 := n11_; have BK413 := n12_; have HB := n13_; clear n0_ n1_ n2_ n3_ n4_ n5_ n6_ n7_ n8_ n9_ n10_ n11_ n12_ n13_; (try clear hb); (try clear hb2); (try clear hk); (try clear hi); (try clear ho0)
                obtain ⟨Ao189, co189, eo189⟩ := Kd.R_slice HO400.out
                (first | subst eo189 | (injection eo189 with f1_ f2_ f3_; have f4_ := f1_.symm; have f5_ := f3_.symm; clear f1_ f2_ f3_; subst f4_; subst f5_))
                obtain ⟨Ao190, co190, eo190⟩ := Kd.R_slice HO405.out
                (first | subst eo190 | (injection eo190 with f1_ f2_ f3_; have f4_ := f1_.symm; have f5_ := f3_.symm; clear f1_ f2_ f3_; subst f4_; subst f5_))
                refine hK.out _ _ ⟨bc_ BK336 0, bc_ BK336 1, bc_ BK336 2, bc_ BK337 0, bc_ BK337 1, bc_ BK337 2⟩ (fun hHeld => ?_)
                clear hK K
                refine norm_ (a' := ?_) ?_ ?_
                rotate_left
                ·show Act.put _ (some 98) _ = _
                 exact nm_
                refine one_ (i := 4) (N := some 99) #[true, true, true, true, true, false, false, false, true, false, false] rfl rfl (one_of HT_.out (by kernel_rfl)) (by decide) (fun K hK => ?_)
                refine goes_ Tryd.func14 (by kernel_rfl) rfl #[.agg #[.int .i64 t397, .slice Ao189 t398.length co189, .int .i64 t401], .agg #[.int .i64 t402, .slice Ao190 t403.length co190, .int .i64 t406]] (by rfl) rfl rfl ma_ ?_
                with_reducible refine (impl_AddDyadics.calls t397 _ _ t398 t401 t402 _ _ t403 t406 t407 t408 t411 t412 _ ?side1 ?side2 ?side3 ?side4 ?sideT A174.out).mono ?_
                (case sideT => exact Go.Proofs.YthddlechoibdkaaDoor.Big.Tab.below HTab.out (bl_ HB))
                (case side1 => exact cr_ HO400)
                (case side2 => exact (Kd.R_reads' HO400.out).2.1)
                (case side3 => exact cr_ HO405)
                (case side4 => exact (Kd.R_reads' HO405.out).2.1)
                rintro e w191 ⟨v409, rfl, ho0, hb⟩
                refine ⟨_, rfl, ?_⟩
                have n0_ := am_ (Kd.R_elder' (kr_ HO_357001) (Kd.R_base ho0) hb); have n1_ := am_ (Kd.R_elder' (kr_ HO_363001) (Kd.R_base ho0) hb); have n2_ := am_ (Kd.R_elder' (kr_ HO_369001) (Kd.R_base ho0) hb); have n3_ := am_ (Kd.R_elder' (kr_ HO_376001) (Kd.R_base ho0) hb); have n4_ := am_ (Kd.R_elder' (kr_ HO400) (Kd.R_base ho0) hb); have n5_ := am_ (Kd.R_elder' (kr_ HO405) (Kd.R_base ho0) hb); have n6_ := am_ (Kd.R_lower (Kd.R_new' (Kd.R_new' (Kd.R_new' (Kd.R_new' (Kd.R_new' (Kd.R_new' ho0 (Kd.R_lt (kr_ HO_357001))) (Kd.R_lt (kr_ HO_363001))) (Kd.R_lt (kr_ HO_369001))) (Kd.R_lt (kr_ HO_376001))) (Kd.R_lt (kr_ HO400))) (Kd.R_lt (kr_ HO405))) (below_size (bl_ HB))); have n7_ := am_ (blk_below (bk_ BK336) hb); have n8_ := am_ (blk_below (bk_ BK337) hb); have n9_ := am_ (blk_below (bk_ BK356) hb); have n10_ := am_ (blk_below (bk_ BK362) hb); have n11_ := am_ (blk_below (bk_ BK368) hb); have n12_ := am_ (blk_below (bk_ BK375) hb); have n13_ := am_ (blk_below (bk_ BK413) hb); have n14_ := am_ (below_step (bl_ HB) hb); clear HO_357001 HO_363001 HO_369001 HO_376001 HO400 HO405 BK336 BK337 BK356 BK362 BK368 BK375 BK413 HB; have HO_357001 := n0_; have HO_363001 := n1_; have HO_369001 := n2_; have HO_376001 := n3_; have HO400 := n4_; have HO405 := n5_; have HO410 := n6_; have BK336 := n7_; have BK337 := n8_; have BK356 := n9_; have BK362 := n10_; have BK368 := n11_; have BK375 := n12_; have BK413 := n13_; have HB := n14_; clear n0_ n1_ n2_ n3_ n4_ n5_ n6_ n7_ n8_ n9_ n10_ n11_ n12_ n13_ n14_; (try clear hb); (try clear hb2); (try clear hk); (try clear hi); (try clear ho0)
                refine hK.out _ _ ⟨bc_ BK336 0, bc_ BK336 1, bc_ BK336 2, bc_ BK337 0, bc_ BK337 1, bc_ BK337 2⟩ (fun hHeld => ?_)
                clear hK K
                refine norm_ (a' := ?_) ?_ ?_
                rotate_left
                ·show Act.put _ (some 99) _ = _
                 exact nm_
                refine pure_ (i := 5) (N := some 94) (v := ?_) (a' := ?_) #[true, true, true, true, true, true, false, false, true, false, false] rfl rfl (any_of HT_.out (by kernel_rfl)) (fun _ _ _ h => h) (Or.inl ⟨by rfl, ?_⟩) ?_ ?_
                rotate_left
                ·intro w'
                 go_simp
                 with_reducible rfl
                rotate_left
                ·exact nm_
                refine pure_ (i := 6) (N := some 100) (v := ?_) (a' := ?_) #[true, true, true, true, true, true, true, false, true, false, false] rfl rfl (any_of HT_.out (by kernel_rfl)) (fun _ _ _ h => h) (Or.inl ⟨by rfl, ?_⟩) ?_ ?_
                rotate_left
                ·intro w'
                 go_simp
                 with_reducible rfl
                rotate_left
                ·exact nm_
                refine pure_ (i := 7) (N := some 101) (v := ?_) (a' := ?_) #[true, true, true, true, true, true, true, true, true, false, false] rfl rfl (any_of HT_.out (by kernel_rfl)) (fun _ _ _ h => h) (Or.inl ⟨by rfl, ?_⟩) ?_ ?_
                rotate_left
                ·intro w'
                 go_simp
                 with_reducible rfl
                rotate_left
                ·exact nm_
                exact norm_ (by simp only [putAll, Act.put, List.setIfInBounds_toArray, List.set_cons_zero, List.set_cons_succ]) (hCont (.slice Ao189 t398.length co189, .slice Ao190 t403.length co190, v409, gb413) _ ⟨hHeld, (km_ HO400 (fun _ hk => ⟨hk.1.2, ⟨hk.2, ⟨hk.1.1.1.1.1.2, ⟨hk.1.1.1.1.2, ⟨hk.1.1.1.2, hk.1.1.2⟩⟩⟩⟩⟩)), (km_ HO405 (fun _ hk => ⟨hk.1.2, ⟨hk.2, ⟨hk.1.1.1.1.1.2, ⟨hk.1.1.1.1.2, ⟨hk.1.1.1.2, hk.1.1.2⟩⟩⟩⟩⟩)), (km_ HO410 (fun _ hk => ⟨hk.1.2, ⟨hk.2, ⟨hk.1.1.1.1.1.2, ⟨hk.1.1.1.1.2, ⟨hk.1.1.1.2, hk.1.1.2⟩⟩⟩⟩⟩)), (km_ HO_357001 (fun _ hk => ⟨hk.1.1.2, ⟨hk.1.2, ⟨hk.2, ⟨hk.1.1.1.1, ⟨hk.1.1.1.2.1, hk.1.1.1.2.2⟩⟩⟩⟩⟩)), (km_ HO_363001 (fun _ hk => ⟨hk.1.1.2, ⟨hk.1.2, ⟨hk.2, ⟨hk.1.1.1.1, ⟨hk.1.1.1.2.1, hk.1.1.1.2.2⟩⟩⟩⟩⟩)), (km_ HO_369001 (fun _ hk => ⟨hk.1.1.2, ⟨hk.1.2, ⟨hk.2, ⟨hk.1.1.1.1, ⟨hk.1.1.1.2.1, hk.1.1.1.2.2⟩⟩⟩⟩⟩)), (km_ HO_376001 (fun _ hk => ⟨hk.1.1.2, ⟨hk.1.2, ⟨hk.2, ⟨hk.1.1.1.1, ⟨hk.1.1.1.2.1, hk.1.1.1.2.2⟩⟩⟩⟩⟩)), (bk_ BK336), (bk_ BK337), (bk_ BK356), (bk_ BK362), (bk_ BK368), (bk_ BK375), (bk_ BK413), GW413.out, GE413.out, NB336_413.out, NB413_336.out, NB337_413.out, NB413_337.out, NB356_413.out, NB413_356.out, NB362_413.out, NB413_362.out, NB368_413.out, NB413_368.out, NB375_413.out, NB413_375.out, (bl_ HB)⟩)
              ·skip
               refine box_step ?hg (N := 15) ?hd (cs := #[.int .i64 0, .slice none 0 0, .int .i64 0]) (t := 30) ?hr ?_; (case hd => rfl); (case hg => rfl); (case hr => first | (go_simp; done) | (go_simp; rfl))
               intro gb413 hg w186 hbox hb
               have n0_ := am_ (Kd.R_below (kr_ HO_357001) hb); have n1_ := am_ (Kd.R_below (kr_ HO_363001) hb); have n2_ := am_ (Kd.R_below (kr_ HO_369001) hb); have n3_ := am_ (Kd.R_below (kr_ HO_376001) hb); have n4_ := am_ (blk_below (bk_ BK336) hb); have n5_ := am_ (blk_below (bk_ BK337) hb); have n6_ := am_ (blk_below (bk_ BK356) hb); have n7_ := am_ (blk_below (bk_ BK362) hb); have n8_ := am_ (blk_below (bk_ BK368) hb); have n9_ := am_ (blk_below (bk_ BK375) hb); have n10_ := am_ (below_step (bl_ HB) hb); have n11_ := am_ (hbox); have n12_ := am_ (gs_ hg HB); have n13_ := am_ (gs_ hg HB); have n14_ := am_ (nl_ hg BK336); have n15_ := am_ (ng_ hg BK336); have n16_ := am_ (nl_ hg BK337); have n17_ := am_ (ng_ hg BK337); have n18_ := am_ (nl_ hg BK356); have n19_ := am_ (ng_ hg BK356); have n20_ := am_ (nl_ hg BK362); have n21_ := am_ (ng_ hg BK362); have n22_ := am_ (nl_ hg BK368); have n23_ := am_ (ng_ hg BK368); have n24_ := am_ (nl_ hg BK375); have n25_ := am_ (ng_ hg BK375); clear HO_357001 HO_363001 HO_369001 HO_376001 BK336 BK337 BK356 BK362 BK368 BK375 HB; have HO_357001 := n0_; have HO_363001 := n1_; have HO_369001 := n2_; have HO_376001 := n3_; have BK336 := n4_; have BK337 := n5_; have BK356 := n6_; have BK362 := n7_; have BK368 := n8_; have BK375 := n9_; have HB := n10_; have BK413 := n11_; have GW413 := n12_; have GE413 := n13_; have NB336_413 := n14_; have NB413_336 := n15_; have NB337_413 := n16_; have NB413_337 := n17_; have NB356_413 := n18_; have NB413_356 := n19_; have NB362_413 := n20_; have NB413_362 := n21_; have NB368_413 := n22_; have NB413_368 := n23_; have NB375_413 := n24_; have NB413_375 := n25_; clear n0_ n1_ n2_ n3_ n4_ n5_ n6_ n7_ n8_ n9_ n10_ n11_ n12_ n13_ n14_ n15_ n16_ n17_ n18_ n19_ n20_ n21_ n22_ n23_ n24_ n25_ hb hbox hg
               refine hK.out _ _ ⟨bc_ BK336 0, bc_ BK336 1, bc_ BK336 2, bc_ BK337 0, bc_ BK337 1, bc_ BK337 2⟩ (fun hHeld => ?_)
               clear hK K
               refine norm_ (a' := ?_) ?_ ?_
               rotate_left
               ·show Act.put _ (some 15) _ = _
                exact nm_
               refine one_ (i := 1) (N := some 96) #[true, true, true, false, false, false, false, false, true, false, false] rfl rfl (one_of HT_.out (by kernel_rfl)) (by decide) (fun K hK => ?_)
               refine goes_ Tryd.func13 (by kernel_rfl) rfl #[.agg #[.int .i64 a0_0, .slice A0_1 l0_1.length c0_1, .int .i64 a0_2]] (by rfl) rfl rfl ma_ ?_
               with_reducible refine (laws_toDyadic.calls kj108 a0_0 _ _ l0_1 a0_2 t397 t398 t401 _ ?side1 ?side2 A172.out).mono ?_
               (case side1 => exact cb_ HR0_1 HB)
               (case side2 => exact HC0_1.out)
               rintro e w187 ⟨v399, rfl, ho0, hb⟩
               refine ⟨_, rfl, ?_⟩
               have n0_ := am_ (Kd.R_elder' (kr_ HO_357001) (Kd.R_base ho0) hb); have n1_ := am_ (Kd.R_elder' (kr_ HO_363001) (Kd.R_base ho0) hb); have n2_ := am_ (Kd.R_elder' (kr_ HO_369001) (Kd.R_base ho0) hb); have n3_ := am_ (Kd.R_elder' (kr_ HO_376001) (Kd.R_base ho0) hb); have n4_ := am_ (Kd.R_lower (Kd.R_new' (Kd.R_new' (Kd.R_new' (Kd.R_new' ho0 (Kd.R_lt (kr_ HO_357001))) (Kd.R_lt (kr_ HO_363001))) (Kd.R_lt (kr_ HO_369001))) (Kd.R_lt (kr_ HO_376001))) (below_size (bl_ HB))); have n5_ := am_ (blk_below (bk_ BK336) hb); have n6_ := am_ (blk_below (bk_ BK337) hb); have n7_ := am_ (blk_below (bk_ BK356) hb); have n8_ := am_ (blk_below (bk_ BK362) hb); have n9_ := am_ (blk_below (bk_ BK368) hb); have n10_ := am_ (blk_below (bk_ BK375) hb); have n11_ := am_ (blk_below (bk_ BK413) hb); have n12_ := am_ (below_step (bl_ HB) hb); clear HO_357001 HO_363001 HO_369001 HO_376001 BK336 BK337 BK356 BK362 BK368 BK375 BK413 HB; have HO_357001 := n0_; have HO_363001 := n1_; have HO_369001 := n2_; have HO_376001 := n3_; have HO400 := n4_; have BK336 := n5_; have BK337 := n6_; have BK356 := n7_; have BK362 := n8_; have BK368 := n9_; have BK375 := n10_; have BK413 := n11_; have HB := n12_; clear n0_ n1_ n2_ n3_ n4_ n5_ n6_ n7_ n8_ n9_ n10_ n11_ n12_; (try clear hb); (try clear hb2); (try clear hk); (try clear hi); (try clear ho0)
               refine hK.out _ _ ⟨bc_ BK336 0, bc_ BK336 1, bc_ BK336 2, bc_ BK337 0, bc_ BK337 1, bc_ BK337 2⟩ (fun hHeld => ?_)
               clear hK K
               refine norm_ (a' := ?_) ?_ ?_
               rotate_left
               ·show Act.put _ (some 96) _ = _
                exact nm_
               refine one_ (i := 3) (N := some 98) #[true, true, true, true, false, false, false, false, true, false, false] rfl rfl (one_of HT_.out (by kernel_rfl)) (by decide) (fun K hK => ?_)
               refine goes_ Tryd.func13 (by kernel_rfl) rfl #[.agg #[.int .i64 a1_0, .slice A1_1 l1_1.length c1_1, .int .i64 a1_2]] (by rfl) rfl rfl ma_ ?_
               with_reducible refine (laws_toDyadic.calls kj108 a1_0 _ _ l1_1 a1_2 t402 t403 t406 _ ?side1 ?side2 A173.out).mono ?_
               (case side1 => exact cb_ HR1_1 HB)
               (case side2 => exact HC1_1.out)
               rintro e w188 ⟨v404, rfl, ho0, hb⟩
               refine ⟨_, rfl, ?_⟩
               have n0_ := am_ (Kd.R_elder' (kr_ HO_357001) (Kd.R_base ho0) hb); have n1_ := am_ (Kd.R_elder' (kr_ HO_363001) (Kd.R_base ho0) hb); have n2_ := am_ (Kd.R_elder' (kr_ HO_369001) (Kd.R_base ho0) hb); have n3_ := am_ (Kd.R_elder' (kr_ HO_376001) (Kd.R_base ho0) hb); have n4_ := am_ (Kd.R_elder' (kr_ HO400) (Kd.R_base ho0) hb); have n5_ := am_ (Kd.R_lower (Kd.R_new' (Kd.R_new' (Kd.R_new' (Kd.R_new' (Kd.R_new' ho0 (Kd.R_lt (kr_ HO_357001))) (Kd.R_lt (kr_ HO_363001))) (Kd.R_lt (kr_ HO_369001))) (Kd.R_lt (kr_ HO_376001))) (Kd.R_lt (kr_ HO400))) (below_size (bl_ HB))); have n6_ := am_ (blk_below (bk_ BK336) hb); have n7_ := am_ (blk_below (bk_ BK337) hb); have n8_ := am_ (blk_below (bk_ BK356) hb); have n9_ := am_ (blk_below (bk_ BK362) hb); have n10_ := am_ (blk_below (bk_ BK368) hb); have n11_ := am_ (blk_below (bk_ BK375) hb); have n12_ := am_ (blk_below (bk_ BK413) hb); have n13_ := am_ (below_step (bl_ HB) hb); clear HO_357001 HO_363001 HO_369001 HO_376001 HO400 BK336 BK337 BK356 BK362 BK368 BK375 BK413 HB; have HO_357001 := n0_; have HO_363001 := n1_; have HO_369001 := n2_; have HO_376001 := n3_; have HO400 := n4_; have HO405 := n5_; have BK336 := n6_; have BK337 := n7_; have BK356 := n8_; have BK362 := n9_; have BK368 := n10_; have BK375 := n11_; have BK413 := n12_; have HB := n13_; clear n0_ n1_ n2_ n3_ n4_ n5_ n6_ n7_ n8_ n9_ n10_ n11_ n12_ n13_; (try clear hb); (try clear hb2); (try clear hk); (try clear hi); (try clear ho0)
               obtain ⟨Ao189, co189, eo189⟩ := Kd.R_slice HO400.out
               (first | subst eo189 | (injection eo189 with f1_ f2_ f3_; have f4_ := f1_.symm; have f5_ := f3_.symm; clear f1_ f2_ f3_; subst f4_; subst f5_))
               obtain ⟨Ao190, co190, eo190⟩ := Kd.R_slice HO405.out
               (first | subst eo190 | (injection eo190 with f1_ f2_ f3_; have f4_ := f1_.symm; have f5_ := f3_.symm; clear f1_ f2_ f3_; subst f4_; subst f5_))
               refine hK.out _ _ ⟨bc_ BK336 0, bc_ BK336 1, bc_ BK336 2, bc_ BK337 0, bc_ BK337 1, bc_ BK337 2⟩ (fun hHeld => ?_)
               clear hK K
               refine norm_ (a' := ?_) ?_ ?_
               rotate_left
               ·show Act.put _ (some 98) _ = _
                exact nm_
               refine one_ (i := 4) (N := some 99) #[true, true, true, true, true, false, false, false, true, false, false] rfl rfl (one_of HT_.out (by kernel_rfl)) (by decide) (fun K hK => ?_)
               refine goes_ Tryd.func14 (by kernel_rfl) rfl #[.agg #[.int .i64 t397, .slice Ao189 t398.length co189, .int .i64 t401], .agg #[.int .i64 t402, .slice Ao190 t403.length co190, .int .i64 t406]] (by rfl) rfl rfl ma_ ?_
               with_reducible refine (impl_AddDyadics.calls t397 _ _ t398 t401 t402 _ _ t403 t406 t407 t408 t411 t412 _ ?side1 ?side2 ?side3 ?side4 ?sideT A174.out).mono ?_
               (case sideT => exact Go.Proofs.YthddlechoibdkaaDoor.Big.Tab.below HTab.out (bl_ HB))
               (case side1 => exact cr_ HO400)
               (case side2 => exact (Kd.R_reads' HO400.out).2.1)
               (case side3 => exact cr_ HO405)
               (case side4 => exact (Kd.R_reads' HO405.out).2.1)
               rintro e w191 ⟨v409, rfl, ho0, hb⟩
               refine ⟨_, rfl, ?_⟩
               have n0_ := am_ (Kd.R_elder' (kr_ HO_357001) (Kd.R_base ho0) hb); have n1_ := am_ (Kd.R_elder' (kr_ HO_363001) (Kd.R_base ho0) hb); have n2_ := am_ (Kd.R_elder' (kr_ HO_369001) (Kd.R_base ho0) hb); have n3_ := am_ (Kd.R_elder' (kr_ HO_376001) (Kd.R_base ho0) hb); have n4_ := am_ (Kd.R_elder' (kr_ HO400) (Kd.R_base ho0) hb); have n5_ := am_ (Kd.R_elder' (kr_ HO405) (Kd.R_base ho0) hb); have n6_ := am_ (Kd.R_lower (Kd.R_new' (Kd.R_new' (Kd.R_new' (Kd.R_new' (Kd.R_new' (Kd.R_new' ho0 (Kd.R_lt (kr_ HO_357001))) (Kd.R_lt (kr_ HO_363001))) (Kd.R_lt (kr_ HO_369001))) (Kd.R_lt (kr_ HO_376001))) (Kd.R_lt (kr_ HO400))) (Kd.R_lt (kr_ HO405))) (below_size (bl_ HB))); have n7_ := am_ (blk_below (bk_ BK336) hb); have n8_ := am_ (blk_below (bk_ BK337) hb); have n9_ := am_ (blk_below (bk_ BK356) hb); have n10_ := am_ (blk_below (bk_ BK362) hb); have n11_ := am_ (blk_below (bk_ BK368) hb); have n12_ := am_ (blk_below (bk_ BK375) hb); have n13_ := am_ (blk_below (bk_ BK413) hb); have n14_ := am_ (below_step (bl_ HB) hb); clear HO_357001 HO_363001 HO_369001 HO_376001 HO400 HO405 BK336 BK337 BK356 BK362 BK368 BK375 BK413 HB; have HO_357001 := n0_; have HO_363001 := n1_; have HO_369001 := n2_; have HO_376001 := n3_; have HO400 := n4_; have HO405 := n5_; have HO410 := n6_; have BK336 := n7_; have BK337 := n8_; have BK356 := n9_; have BK362 := n10_; have BK368 := n11_; have BK375 := n12_; have BK413 := n13_; have HB := n14_; clear n0_ n1_ n2_ n3_ n4_ n5_ n6_ n7_ n8_ n9_ n10_ n11_ n12_ n13_ n14_; (try clear hb); (try clear hb2); (try clear hk); (try clear hi); (try clear ho0)
               refine hK.out _ _ ⟨bc_ BK336 0, bc_ BK336 1, bc_ BK336 2, bc_ BK337 0, bc_ BK337 1, bc_ BK337 2⟩ (fun hHeld => ?_)
               clear hK K
               refine norm_ (a' := ?_) ?_ ?_
               rotate_left
               ·show Act.put _ (some 99) _ = _
                exact nm_
               refine pure_ (i := 5) (N := some 94) (v := ?_) (a' := ?_) #[true, true, true, true, true, true, false, false, true, false, false] rfl rfl (any_of HT_.out (by kernel_rfl)) (fun _ _ _ h => h) (Or.inl ⟨by rfl, ?_⟩) ?_ ?_
               rotate_left
               ·intro w'
                go_simp
                with_reducible rfl
               rotate_left
               ·exact nm_
               refine pure_ (i := 6) (N := some 100) (v := ?_) (a' := ?_) #[true, true, true, true, true, true, true, false, true, false, false] rfl rfl (any_of HT_.out (by kernel_rfl)) (fun _ _ _ h => h) (Or.inl ⟨by rfl, ?_⟩) ?_ ?_
               rotate_left
               ·intro w'
                go_simp
                with_reducible rfl
               rotate_left
               ·exact nm_
               refine pure_ (i := 7) (N := some 101) (v := ?_) (a' := ?_) #[true, true, true, true, true, true, true, true, true, false, false] rfl rfl (any_of HT_.out (by kernel_rfl)) (fun _ _ _ h => h) (Or.inl ⟨by rfl, ?_⟩) ?_ ?_
               rotate_left
               ·intro w'
                go_simp
                with_reducible rfl
               rotate_left
               ·exact nm_
               exact norm_ (by simp only [putAll, Act.put, List.setIfInBounds_toArray, List.set_cons_zero, List.set_cons_succ]) (hCont (.slice Ao189 t398.length co189, .slice Ao190 t403.length co190, v409, gb413) _ ⟨hHeld, (km_ HO400 (fun _ hk => ⟨hk.1.2, ⟨hk.2, ⟨hk.1.1.1.1.1.2, ⟨hk.1.1.1.1.2, ⟨hk.1.1.1.2, hk.1.1.2⟩⟩⟩⟩⟩)), (km_ HO405 (fun _ hk => ⟨hk.1.2, ⟨hk.2, ⟨hk.1.1.1.1.1.2, ⟨hk.1.1.1.1.2, ⟨hk.1.1.1.2, hk.1.1.2⟩⟩⟩⟩⟩)), (km_ HO410 (fun _ hk => ⟨hk.1.2, ⟨hk.2, ⟨hk.1.1.1.1.1.2, ⟨hk.1.1.1.1.2, ⟨hk.1.1.1.2, hk.1.1.2⟩⟩⟩⟩⟩)), (km_ HO_357001 (fun _ hk => ⟨hk.1.1.2, ⟨hk.1.2, ⟨hk.2, ⟨hk.1.1.1.1, ⟨hk.1.1.1.2.1, hk.1.1.1.2.2⟩⟩⟩⟩⟩)), (km_ HO_363001 (fun _ hk => ⟨hk.1.1.2, ⟨hk.1.2, ⟨hk.2, ⟨hk.1.1.1.1, ⟨hk.1.1.1.2.1, hk.1.1.1.2.2⟩⟩⟩⟩⟩)), (km_ HO_369001 (fun _ hk => ⟨hk.1.1.2, ⟨hk.1.2, ⟨hk.2, ⟨hk.1.1.1.1, ⟨hk.1.1.1.2.1, hk.1.1.1.2.2⟩⟩⟩⟩⟩)), (km_ HO_376001 (fun _ hk => ⟨hk.1.1.2, ⟨hk.1.2, ⟨hk.2, ⟨hk.1.1.1.1, ⟨hk.1.1.1.2.1, hk.1.1.1.2.2⟩⟩⟩⟩⟩)), (bk_ BK336), (bk_ BK337), (bk_ BK356), (bk_ BK362), (bk_ BK368), (bk_ BK375), (bk_ BK413), GW413.out, GE413.out, NB336_413.out, NB413_336.out, NB337_413.out, NB413_337.out, NB356_413.out, NB413_356.out, NB362_413.out, NB413_362.out, NB368_413.out, NB413_368.out, NB375_413.out, NB413_375.out, (bl_ HB)⟩)
             rintro ⟨v399, v404, v409, gb413⟩ w192 ⟨hS_, h0_, h1_, h2_, h3_, h4_, h5_, h6_, h7_, h8_, h9_, h10_, h11_, h12_, h13_, h14_, h15_, h16_, h17_, h18_, h19_, h20_, h21_, h22_, h23_, h24_, h25_, h26_, h27_, h28_⟩
             have n0_ : Aside0 (Kd.R (Kd.int .i64) 2 w192 w.heap.size (fun k_ => some k_ ≠ (v404 : Value).ownBlock ∧ some k_ ≠ (v409 : Value).ownBlock ∧ some k_ ≠ (.slice Ao42 t351.length co42 : Value).ownBlock ∧ some k_ ≠ (.slice Ao53 t390.length co53 : Value).ownBlock ∧ some k_ ≠ (.slice Ao63 t392.length co63 : Value).ownBlock ∧ some k_ ≠ (.slice Ao73 t370.length co73 : Value).ownBlock) v399 t398) := ⟨h0_⟩
             have n1_ : Aside0 (Kd.R (Kd.int .i64) 2 w192 w.heap.size (fun k_ => some k_ ≠ (v399 : Value).ownBlock ∧ some k_ ≠ (v409 : Value).ownBlock ∧ some k_ ≠ (.slice Ao42 t351.length co42 : Value).ownBlock ∧ some k_ ≠ (.slice Ao53 t390.length co53 : Value).ownBlock ∧ some k_ ≠ (.slice Ao63 t392.length co63 : Value).ownBlock ∧ some k_ ≠ (.slice Ao73 t370.length co73 : Value).ownBlock) v404 t403) := ⟨h1_⟩
             have n2_ : Aside0 (Kd.R (Kd.int .i64) 2 w192 w.heap.size (fun k_ => some k_ ≠ (v399 : Value).ownBlock ∧ some k_ ≠ (v404 : Value).ownBlock ∧ some k_ ≠ (.slice Ao42 t351.length co42 : Value).ownBlock ∧ some k_ ≠ (.slice Ao53 t390.length co53 : Value).ownBlock ∧ some k_ ≠ (.slice Ao63 t392.length co63 : Value).ownBlock ∧ some k_ ≠ (.slice Ao73 t370.length co73 : Value).ownBlock) v409 t408) := ⟨h2_⟩
             have n3_ : Aside0 (Kd.R (Kd.int .i64) 2 w192 w.heap.size (fun k_ => some k_ ≠ (v399 : Value).ownBlock ∧ some k_ ≠ (v404 : Value).ownBlock ∧ some k_ ≠ (v409 : Value).ownBlock ∧ some k_ ≠ (.slice Ao53 t390.length co53 : Value).ownBlock ∧ some k_ ≠ (.slice Ao63 t392.length co63 : Value).ownBlock ∧ some k_ ≠ (.slice Ao73 t370.length co73 : Value).ownBlock) (.slice Ao42 t351.length co42) t351) := ⟨h3_⟩
             have n4_ : Aside0 (Kd.R (Kd.int .i64) 2 w192 w.heap.size (fun k_ => some k_ ≠ (v399 : Value).ownBlock ∧ some k_ ≠ (v404 : Value).ownBlock ∧ some k_ ≠ (v409 : Value).ownBlock ∧ some k_ ≠ (.slice Ao42 t351.length co42 : Value).ownBlock ∧ some k_ ≠ (.slice Ao63 t392.length co63 : Value).ownBlock ∧ some k_ ≠ (.slice Ao73 t370.length co73 : Value).ownBlock) (.slice Ao53 t390.length co53) t390) := ⟨h4_⟩
             have n5_ : Aside0 (Kd.R (Kd.int .i64) 2 w192 w.heap.size (fun k_ => some k_ ≠ (v399 : Value).ownBlock ∧ some k_ ≠ (v404 : Value).ownBlock ∧ some k_ ≠ (v409 : Value).ownBlock ∧ some k_ ≠ (.slice Ao42 t351.length co42 : Value).ownBlock ∧ some k_ ≠ (.slice Ao53 t390.length co53 : Value).ownBlock ∧ some k_ ≠ (.slice Ao73 t370.length co73 : Value).ownBlock) (.slice Ao63 t392.length co63) t392) := ⟨h5_⟩
             have n6_ : Aside0 (Kd.R (Kd.int .i64) 2 w192 w.heap.size (fun k_ => some k_ ≠ (v399 : Value).ownBlock ∧ some k_ ≠ (v404 : Value).ownBlock ∧ some k_ ≠ (v409 : Value).ownBlock ∧ some k_ ≠ (.slice Ao42 t351.length co42 : Value).ownBlock ∧ some k_ ≠ (.slice Ao53 t390.length co53 : Value).ownBlock ∧ some k_ ≠ (.slice Ao63 t392.length co63 : Value).ownBlock) (.slice Ao73 t370.length co73) t395) := ⟨h6_⟩
             have n7_ : Aside0 (w192.heap[gb336]? = some (.cells #[.int .i64 a0_0, .slice A0_1 l0_1.length c0_1, .int .i64 a0_2] 26 (0, 0))) := ⟨h7_⟩
             have n8_ : Aside0 (w192.heap[gb337]? = some (.cells #[.int .i64 a1_0, .slice A1_1 l1_1.length c1_1, .int .i64 a1_2] 26 (0, 0))) := ⟨h8_⟩
             have n9_ : Aside0 (w192.heap[gb356]? = some (.cells #[.int .i64 t350, .slice Ao42 t351.length co42, .int .i64 t354] 30 (0, 0))) := ⟨h9_⟩
             have n10_ : Aside0 (w192.heap[gb362]? = some (.cells #[.int .i64 t357, .slice Ao53 t390.length co53, .int .i64 t361] 30 (0, 0))) := ⟨h10_⟩
             have n11_ : Aside0 (w192.heap[gb368]? = some (.cells #[.int .i64 t363, .slice Ao63 t392.length co63, .int .i64 t367] 30 (0, 0))) := ⟨h11_⟩
             have n12_ : Aside0 (w192.heap[gb375]? = some (.cells #[.int .i64 t369, .slice Ao73 t370.length co73, .int .i64 t373] 30 (0, 0))) := ⟨h12_⟩
             have n13_ : Aside0 (w192.heap[gb413]? = some (.cells #[.int .i64 0, .slice none 0 0, .int .i64 0] 30 (0, 0))) := ⟨h13_⟩
             have n14_ : Aside0 (w.heap.size ≤ gb413) := ⟨h14_⟩
             have n15_ : Aside0 (w.heap.size ≤ gb413) := ⟨h15_⟩
             have n16_ : Aside0 (gb336 ≠ gb413) := ⟨h16_⟩
             have n17_ : Aside0 (gb413 ≠ gb336) := ⟨h17_⟩
             have n18_ : Aside0 (gb337 ≠ gb413) := ⟨h18_⟩
             have n19_ : Aside0 (gb413 ≠ gb337) := ⟨h19_⟩
             have n20_ : Aside0 (gb356 ≠ gb413) := ⟨h20_⟩
             have n21_ : Aside0 (gb413 ≠ gb356) := ⟨h21_⟩
             have n22_ : Aside0 (gb362 ≠ gb413) := ⟨h22_⟩
             have n23_ : Aside0 (gb413 ≠ gb362) := ⟨h23_⟩
             have n24_ : Aside0 (gb368 ≠ gb413) := ⟨h24_⟩
             have n25_ : Aside0 (gb413 ≠ gb368) := ⟨h25_⟩
             have n26_ : Aside0 (gb375 ≠ gb413) := ⟨h26_⟩
             have n27_ : Aside0 (gb413 ≠ gb375) := ⟨h27_⟩
             have n28_ : Aside0 (Below w.heap.size w w192) := ⟨h28_⟩
             clear HO_357001 HO_363001 HO_369001 HO_376001 BK336 BK337 BK356 BK362 BK368 BK375 HB h0_ h1_ h2_ h3_ h4_ h5_ h6_ h7_ h8_ h9_ h10_ h11_ h12_ h13_ h14_ h15_ h16_ h17_ h18_ h19_ h20_ h21_ h22_ h23_ h24_ h25_ h26_ h27_ h28_; have HO400 := n0_; have HO405 := n1_; have HO410 := n2_; have HO_357001 := n3_; have HO_363001 := n4_; have HO_369001 := n5_; have HO_376001 := n6_; have BK336 := n7_; have BK337 := n8_; have BK356 := n9_; have BK362 := n10_; have BK368 := n11_; have BK375 := n12_; have BK413 := n13_; have GW413 := n14_; have GE413 := n15_; have NB336_413 := n16_; have NB413_336 := n17_; have NB337_413 := n18_; have NB413_337 := n19_; have NB356_413 := n20_; have NB413_356 := n21_; have NB362_413 := n22_; have NB413_362 := n23_; have NB368_413 := n24_; have NB413_368 := n25_; have NB375_413 := n26_; have NB413_375 := n27_; have HB := n28_; clear n0_ n1_ n2_ n3_ n4_ n5_ n6_ n7_ n8_ n9_ n10_ n11_ n12_ n13_ n14_ n15_ n16_ n17_ n18_ n19_ n20_ n21_ n22_ n23_ n24_ n25_ n26_ n27_ n28_
             have hHeld : w192.cell? ⟨gb336, 0, none⟩ = some (.int .i64 a0_0) ∧ w192.cell? ⟨gb336, 1, none⟩ = some (.slice A0_1 l0_1.length c0_1) ∧ w192.cell? ⟨gb336, 2, none⟩ = some (.int .i64 a0_2) ∧ w192.cell? ⟨gb337, 0, none⟩ = some (.int .i64 a1_0) ∧ w192.cell? ⟨gb337, 1, none⟩ = some (.slice A1_1 l1_1.length c1_1) ∧ w192.cell? ⟨gb337, 2, none⟩ = some (.int .i64 a1_2) := hS_
             obtain ⟨Ao194, co194, eo194⟩ := Kd.R_slice HO410.out
             (first | subst eo194 | (injection eo194 with f1_ f2_ f3_; have f4_ := f1_.symm; have f5_ := f3_.symm; clear f1_ f2_ f3_; subst f4_; subst f5_))
             refine norm_ (a' := ?_) ?_ ?_
             rotate_left
             ·simp only [putAll, Act.put, List.setIfInBounds_toArray, List.set_cons_zero, List.set_cons_succ]
              rfl
             refine one_ (i := 9) (N := none) #[true, true, true, true, true, true, true, true, true, true, false] rfl rfl (one_of HT_.out (by kernel_rfl)) (by decide) (fun K hK => ?_)
             have hs193 : w192.cell? ⟨gb413, 0, none⟩ = some (.int .i64 0) := bc_ BK413 0
             have hfs193 := blk_frozen BK413.out 0; have hns193_0 := NB336_413.out; have hns193_1 := NB337_413.out; have hns193_2 := NB356_413.out; have hns193_3 := NB362_413.out; have hns193_4 := NB368_413.out; have hns193_5 := NB375_413.out; have hms193_0 := NB413_336.out; have hms193_1 := NB413_337.out; have hms193_2 := NB413_356.out; have hms193_3 := NB413_362.out; have hms193_4 := NB413_368.out; have hms193_5 := NB413_375.out
             have hs195 : w192.cell? ⟨gb413, 1, none⟩ = some (.slice none 0 0) := bc_ BK413 1
             have hfs195 := blk_frozen BK413.out 1; have hns195_0 := NB336_413.out; have hns195_1 := NB337_413.out; have hns195_2 := NB356_413.out; have hns195_3 := NB362_413.out; have hns195_4 := NB368_413.out; have hns195_5 := NB375_413.out; have hms195_0 := NB413_336.out; have hms195_1 := NB413_337.out; have hms195_2 := NB413_356.out; have hms195_3 := NB413_362.out; have hms195_4 := NB413_368.out; have hms195_5 := NB413_375.out
             have hs196 : w192.cell? ⟨gb413, 2, none⟩ = some (.int .i64 0) := bc_ BK413 2
             have hfs196 := blk_frozen BK413.out 2; have hns196_0 := NB336_413.out; have hns196_1 := NB337_413.out; have hns196_2 := NB356_413.out; have hns196_3 := NB362_413.out; have hns196_4 := NB368_413.out; have hns196_5 := NB375_413.out; have hms196_0 := NB413_336.out; have hms196_1 := NB413_337.out; have hms196_2 := NB413_356.out; have hms196_3 := NB413_362.out; have hms196_4 := NB413_368.out; have hms196_5 := NB413_375.out
             refine skip_ (w1 := ?_) (by rfl) rfl ?_ ?_
             rotate_left
             ·go_simp
              rfl
             refine hK.out _ _ ⟨((cell_far (p := ⟨gb413, _, none⟩) NB336_413.out _).trans (((cell_far (p := ⟨gb413, _, none⟩) NB336_413.out _).trans (((cell_far (p := ⟨gb413, _, none⟩) NB336_413.out _).trans (hHeld.1)))))), ((cell_far (p := ⟨gb413, _, none⟩) NB336_413.out _).trans (((cell_far (p := ⟨gb413, _, none⟩) NB336_413.out _).trans (((cell_far (p := ⟨gb413, _, none⟩) NB336_413.out _).trans (hHeld.2.1)))))), ((cell_far (p := ⟨gb413, _, none⟩) NB336_413.out _).trans (((cell_far (p := ⟨gb413, _, none⟩) NB336_413.out _).trans (((cell_far (p := ⟨gb413, _, none⟩) NB336_413.out _).trans (hHeld.2.2.1)))))), ((cell_far (p := ⟨gb413, _, none⟩) NB337_413.out _).trans (((cell_far (p := ⟨gb413, _, none⟩) NB337_413.out _).trans (((cell_far (p := ⟨gb413, _, none⟩) NB337_413.out _).trans (hHeld.2.2.2.1)))))), ((cell_far (p := ⟨gb413, _, none⟩) NB337_413.out _).trans (((cell_far (p := ⟨gb413, _, none⟩) NB337_413.out _).trans (((cell_far (p := ⟨gb413, _, none⟩) NB337_413.out _).trans (hHeld.2.2.2.2.1)))))), ((cell_far (p := ⟨gb413, _, none⟩) NB337_413.out _).trans (((cell_far (p := ⟨gb413, _, none⟩) NB337_413.out _).trans (((cell_far (p := ⟨gb413, _, none⟩) NB337_413.out _).trans (hHeld.2.2.2.2.2))))))⟩ (fun hHeld => ?_)
             clear hK K
             refine pure_ (i := 10) (N := some 16) (v := ?_) (a' := ?_) #[true, true, true, true, true, true, true, true, true, true, true] rfl rfl (any_of HT_.out (by kernel_rfl)) (fun _ _ _ h => h) (Or.inl ⟨by rfl, ?_⟩) ?_ ?_
             rotate_left
             ·intro w'
              go_simp
              with_reducible rfl
             rotate_left
             ·exact nm_
             refine done_ (done_of HT_.out (by kernel_rfl)) ?_
             go_upto_region 32 with (fail)
             go_cut [110] (fun v110 wc => ∃ (kq : Nat) (x110_174 : Bool), v110 = .bool x110_174 ∧ Aside0 (laws_FnExactAddDyadics.j2 kq t394 x110_174 t369 t395 t373 = some r) ∧ Aside0 (kq ≤ kj108) ∧ Aside0 (Kd.R (Kd.int .i64) 2 wc w.heap.size (fun k_ => some k_ ≠ ((.slice Ao53 t390.length co53) : Value).ownBlock ∧ some k_ ≠ ((.slice Ao63 t392.length co63) : Value).ownBlock ∧ some k_ ≠ ((.slice Ao73 t370.length co73) : Value).ownBlock ∧ some k_ ≠ ((.slice Ao194 t408.length co194) : Value).ownBlock) (.slice Ao42 t351.length co42) t351) ∧ Aside0 (Kd.R (Kd.int .i64) 2 wc w.heap.size (fun k_ => some k_ ≠ ((.slice Ao42 t351.length co42) : Value).ownBlock ∧ some k_ ≠ ((.slice Ao63 t392.length co63) : Value).ownBlock ∧ some k_ ≠ ((.slice Ao73 t370.length co73) : Value).ownBlock ∧ some k_ ≠ ((.slice Ao194 t408.length co194) : Value).ownBlock) (.slice Ao53 t390.length co53) t390) ∧ Aside0 (Kd.R (Kd.int .i64) 2 wc w.heap.size (fun k_ => some k_ ≠ ((.slice Ao42 t351.length co42) : Value).ownBlock ∧ some k_ ≠ ((.slice Ao53 t390.length co53) : Value).ownBlock ∧ some k_ ≠ ((.slice Ao73 t370.length co73) : Value).ownBlock ∧ some k_ ≠ ((.slice Ao194 t408.length co194) : Value).ownBlock) (.slice Ao63 t392.length co63) t392) ∧ Aside0 (Kd.R (Kd.int .i64) 2 wc w.heap.size (fun k_ => some k_ ≠ ((.slice Ao42 t351.length co42) : Value).ownBlock ∧ some k_ ≠ ((.slice Ao53 t390.length co53) : Value).ownBlock ∧ some k_ ≠ ((.slice Ao63 t392.length co63) : Value).ownBlock ∧ some k_ ≠ ((.slice Ao194 t408.length co194) : Value).ownBlock) (.slice Ao73 t370.length co73) t395) ∧ Aside0 (Kd.R (Kd.int .i64) 2 wc w.heap.size (fun k_ => some k_ ≠ ((.slice Ao42 t351.length co42) : Value).ownBlock ∧ some k_ ≠ ((.slice Ao53 t390.length co53) : Value).ownBlock ∧ some k_ ≠ ((.slice Ao63 t392.length co63) : Value).ownBlock ∧ some k_ ≠ ((.slice Ao73 t370.length co73) : Value).ownBlock) (.slice Ao194 t408.length co194) t408) ∧ Aside0 (wc.heap[gb336]? = some (.cells #[.int .i64 a0_0, (.slice A0_1 l0_1.length c0_1), .int .i64 a0_2] 26 (0, 0))) ∧ Aside0 (wc.heap[gb337]? = some (.cells #[.int .i64 a1_0, (.slice A1_1 l1_1.length c1_1), .int .i64 a1_2] 26 (0, 0))) ∧ Aside0 (wc.heap[gb356]? = some (.cells #[.int .i64 t350, (.slice Ao42 t351.length co42), .int .i64 t354] 30 (0, 0))) ∧ Aside0 (wc.heap[gb362]? = some (.cells #[.int .i64 t357, (.slice Ao53 t390.length co53), .int .i64 t361] 30 (0, 0))) ∧ Aside0 (wc.heap[gb368]? = some (.cells #[.int .i64 t363, (.slice Ao63 t392.length co63), .int .i64 t367] 30 (0, 0))) ∧ Aside0 (wc.heap[gb375]? = some (.cells #[.int .i64 t369, (.slice Ao73 t370.length co73), .int .i64 t373] 30 (0, 0))) ∧ Aside0 (wc.heap[gb413]? = some (.cells #[.int .i64 t407, (.slice Ao194 t408.length co194), .int .i64 t411] 30 (0, 0))) ∧ Aside0 (Below w.heap.size w wc))
             case first =>
              have H := HC175.out; clear HC175
              replace H := Option.bind_eq_some_iff.mp H
              obtain ⟨t414, A1970, H⟩ := H
              replace H : (if t414 = true then (laws_FnExactAddDyadics.j2 kj108 t394 (t412 != t355) t369 t395 t373) else (laws_FnExactAddDyadics.j2 kj108 t394 true t369 t395 t373)) = some r := H
              have A197 := Aside0.mk A1970; clear A1970
              by_cases c198 : t414 = true
              ·subst c198
               have H1 : (laws_FnExactAddDyadics.j2 kj108 t394 (t412 != t355) t369 t395 t373) = some r := by rw [if_pos rfl] at H; exact H
               clear H; have H := H1; clear H1
               have H' := Aside0.mk H
               clear H; have hnb199 := NB413_336.out; have hnc199 := NB336_413.out; have hnb200 := NB413_337.out; have hnc200 := NB337_413.out; have hnb201 := NB413_356.out; have hnc201 := NB356_413.out; have hnb202 := NB413_362.out; have hnc202 := NB362_413.out; have hnb203 := NB413_368.out; have hnc203 := NB368_413.out; have hnb204 := NB413_375.out; have hnc204 := NB375_413.out
               have hcz205_0 : w192.cell? ⟨gb413, 0, none⟩ = some (.int .i64 0) := bc_ BK413 0
               have hcz205_1 : w192.cell? ⟨gb413, 1, none⟩ = some (.slice none 0 0) := bc_ BK413 1
               have hcz205_2 : w192.cell? ⟨gb413, 2, none⟩ = some (.int .i64 0) := bc_ BK413 2
               have hfz205_0 := blk_frozen BK413.out 0; have hfz205_1 := blk_frozen BK413.out 1; have hfz205_2 := blk_frozen BK413.out 2; have hnb206 := NB356_336.out; have hnc206 := NB336_356.out; have hnb207 := NB356_337.out; have hnc207 := NB337_356.out; have hnb208 := NB356_362.out; have hnc208 := NB362_356.out; have hnb209 := NB356_368.out; have hnc209 := NB368_356.out; have hnb210 := NB356_375.out; have hnc210 := NB375_356.out
               have hcz211_0 : w192.cell? ⟨gb356, 0, none⟩ = some (.int .i64 t350) := bc_ BK356 0
               have hcz211_1 : w192.cell? ⟨gb356, 1, none⟩ = some (.slice Ao42 t351.length co42) := bc_ BK356 1
               have hcz211_2 : w192.cell? ⟨gb356, 2, none⟩ = some (.int .i64 t354) := bc_ BK356 2
               have hfz211_0 := blk_frozen BK356.out 0; have hfz211_1 := blk_frozen BK356.out 1; have hfz211_2 := blk_frozen BK356.out 2
               go_wp2_with (first | ((with_reducible refine gate_callee (f := 15) rfl ?_); refine goesL_ (some 104) rfl rfl Tryd.func15 (by kernel_rfl) rfl #[.agg #[.int .i64 t407, .slice Ao194 t408.length co194, .int .i64 t411], .agg #[.int .i64 t350, .slice Ao42 t351.length co42, .int .i64 t354]] rfl ma_ ?_; (with_reducible refine (laws_eqDyadic.calls kj108 t407 _ _ t408 t411 t350 _ _ t351 t354 true _ ?side1 ?side2 ?side3 ?side4 A197.out).mono ?_); (case side1 => refine (Kd.R_reads' (e := 2) (base := w.heap.size) (ok := fun k_ => (some k_ ≠ (v399 : Value).ownBlock ∧ (some k_ ≠ (v404 : Value).ownBlock ∧ (some k_ ≠ (.slice Ao42 t351.length co42 : Value).ownBlock ∧ (some k_ ≠ (.slice Ao53 t390.length co53 : Value).ownBlock ∧ (some k_ ≠ (.slice Ao63 t392.length co63 : Value).ownBlock ∧ some k_ ≠ (.slice Ao73 t370.length co73 : Value).ownBlock)))))) (n := t408.length) (c := co194) ?_).2.2; exact (rk_ HO410 BK413)); (case side2 => exact (Kd.R_reads' HO410.out).2.1); (case side3 => refine (Kd.R_reads' (e := 2) (base := w.heap.size) (ok := fun k_ => (some k_ ≠ (v399 : Value).ownBlock ∧ (some k_ ≠ (v404 : Value).ownBlock ∧ (some k_ ≠ (.slice Ao194 t408.length co194 : Value).ownBlock ∧ (some k_ ≠ (.slice Ao53 t390.length co53 : Value).ownBlock ∧ (some k_ ≠ (.slice Ao63 t392.length co63 : Value).ownBlock ∧ some k_ ≠ (.slice Ao73 t370.length co73 : Value).ownBlock)))))) (n := t351.length) (c := co42) ?_).2.2; exact (rk_ HO_357001 BK413)); (case side4 => exact (Kd.R_reads' HO_357001.out).2.1); rintro e w212 ⟨rfl, hb⟩; refine ⟨_, rfl, ?_⟩; replace HO_357001 := am_ (Kd.R_below (rk_ HO_357001 BK413) hb); replace HO_363001 := am_ (Kd.R_below (rk_ HO_363001 BK413) hb); replace HO_369001 := am_ (Kd.R_below (rk_ HO_369001 BK413) hb); replace HO_376001 := am_ (Kd.R_below (rk_ HO_376001 BK413) hb); replace HO400 := am_ (Kd.R_below (rk_ HO400 BK413) hb); replace HO405 := am_ (Kd.R_below (rk_ HO405 BK413) hb); replace HO410 := am_ (Kd.R_below (rk_ HO410 BK413) hb); replace BK336 := am_ (blk_below (bk_ BK336) hb); replace BK337 := am_ (blk_below (bk_ BK337) hb); replace BK356 := am_ (blk_below (bk_ BK356) hb); replace BK362 := am_ (blk_below (bk_ BK362) hb); replace BK368 := am_ (blk_below (bk_ BK368) hb); replace BK375 := am_ (blk_below (bk_ BK375) hb); replace BK413 := am_ (blk_below (bp3_ BK413) hb); replace HB := am_ (below_step (bl_ HB) hb); (try clear hb); (try clear hb2); (try clear hk); (try clear hi)))
               go_meet
               case rel => exact ⟨_, ((t412 != t355)), (by first | rfl | (simp; done) | (simp [*]; done)), H', ⟨by have := HJ24.out; have := HJ108.out; first | omega | exact Nat.le_refl _⟩, ⟨by (try simp only [hl363001_108]); (try simp only [hl369001_108]); (with_reducible repeat (first | apply Kd.R_alloc | apply Kd.R_drewN | apply Kd.R_drew)); exact Kd.R_mono HO_357001.out (fun _ hk => ⟨hk.2.2.2.1, ⟨hk.2.2.2.2.1, ⟨hk.2.2.2.2.2, hk.2.2.1⟩⟩⟩)⟩, ⟨by (try simp only [hl363001_108]); (try simp only [hl369001_108]); (with_reducible repeat (first | apply Kd.R_alloc | apply Kd.R_drewN | apply Kd.R_drew)); exact Kd.R_mono HO_363001.out (fun _ hk => ⟨hk.2.2.2.1, ⟨hk.2.2.2.2.1, ⟨hk.2.2.2.2.2, hk.2.2.1⟩⟩⟩)⟩, ⟨by (try simp only [hl363001_108]); (try simp only [hl369001_108]); (with_reducible repeat (first | apply Kd.R_alloc | apply Kd.R_drewN | apply Kd.R_drew)); exact Kd.R_mono HO_369001.out (fun _ hk => ⟨hk.2.2.2.1, ⟨hk.2.2.2.2.1, ⟨hk.2.2.2.2.2, hk.2.2.1⟩⟩⟩)⟩, ⟨by (try simp only [hl363001_108]); (try simp only [hl369001_108]); (with_reducible repeat (first | apply Kd.R_alloc | apply Kd.R_drewN | apply Kd.R_drew)); exact Kd.R_mono HO_376001.out (fun _ hk => ⟨hk.2.2.2.1, ⟨hk.2.2.2.2.1, ⟨hk.2.2.2.2.2, hk.2.2.1⟩⟩⟩)⟩, ⟨by (try simp only [hl363001_108]); (try simp only [hl369001_108]); (with_reducible repeat (first | apply Kd.R_alloc | apply Kd.R_drewN | apply Kd.R_drew)); exact Kd.R_mono HO410.out (fun _ hk => ⟨hk.2.2.1, ⟨hk.2.2.2.1, ⟨hk.2.2.2.2.1, hk.2.2.2.2.2⟩⟩⟩)⟩, ⟨by (try simp only [hl363001_108]); (try simp only [hl369001_108]); (with_reducible repeat (first | refine blk_drewN ?_ _ | refine blk_drew ?_ | refine blk_alloc ?_ _)); exact BK336.out⟩, ⟨by (try simp only [hl363001_108]); (try simp only [hl369001_108]); (with_reducible repeat (first | refine blk_drewN ?_ _ | refine blk_drew ?_ | refine blk_alloc ?_ _)); exact BK337.out⟩, ⟨by (try simp only [hl363001_108]); (try simp only [hl369001_108]); (with_reducible repeat (first | refine blk_drewN ?_ _ | refine blk_drew ?_ | refine blk_alloc ?_ _)); exact BK356.out⟩, ⟨by (try simp only [hl363001_108]); (try simp only [hl369001_108]); (with_reducible repeat (first | refine blk_drewN ?_ _ | refine blk_drew ?_ | refine blk_alloc ?_ _)); exact BK362.out⟩, ⟨by (try simp only [hl363001_108]); (try simp only [hl369001_108]); (with_reducible repeat (first | refine blk_drewN ?_ _ | refine blk_drew ?_ | refine blk_alloc ?_ _)); exact BK368.out⟩, ⟨by (try simp only [hl363001_108]); (try simp only [hl369001_108]); (with_reducible repeat (first | refine blk_drewN ?_ _ | refine blk_drew ?_ | refine blk_alloc ?_ _)); exact BK375.out⟩, ⟨by (try simp only [hl363001_108]); (try simp only [hl369001_108]); (with_reducible repeat (first | refine blk_drewN ?_ _ | refine blk_drew ?_ | refine blk_alloc ?_ _)); exact BK413.out⟩, ⟨bl_ HB⟩⟩
              ·replace c198 := Bool.eq_false_iff.mpr c198
               subst c198
               have H1 : (laws_FnExactAddDyadics.j2 kj108 t394 true t369 t395 t373) = some r := by rw [if_neg (show ¬ (false = true) by decide)] at H; exact H
               clear H; have H := H1; clear H1
               have H' := Aside0.mk H
               clear H; have hnb213 := NB413_336.out; have hnc213 := NB336_413.out; have hnb214 := NB413_337.out; have hnc214 := NB337_413.out; have hnb215 := NB413_356.out; have hnc215 := NB356_413.out; have hnb216 := NB413_362.out; have hnc216 := NB362_413.out; have hnb217 := NB413_368.out; have hnc217 := NB368_413.out; have hnb218 := NB413_375.out; have hnc218 := NB375_413.out
               have hcz219_0 : w192.cell? ⟨gb413, 0, none⟩ = some (.int .i64 0) := bc_ BK413 0
               have hcz219_1 : w192.cell? ⟨gb413, 1, none⟩ = some (.slice none 0 0) := bc_ BK413 1
               have hcz219_2 : w192.cell? ⟨gb413, 2, none⟩ = some (.int .i64 0) := bc_ BK413 2
               have hfz219_0 := blk_frozen BK413.out 0; have hfz219_1 := blk_frozen BK413.out 1; have hfz219_2 := blk_frozen BK413.out 2; have hnb220 := NB356_336.out; have hnc220 := NB336_356.out; have hnb221 := NB356_337.out; have hnc221 := NB337_356.out; have hnb222 := NB356_362.out; have hnc222 := NB362_356.out; have hnb223 := NB356_368.out; have hnc223 := NB368_356.out; have hnb224 := NB356_375.out; have hnc224 := NB375_356.out
               have hcz225_0 : w192.cell? ⟨gb356, 0, none⟩ = some (.int .i64 t350) := bc_ BK356 0
               have hcz225_1 : w192.cell? ⟨gb356, 1, none⟩ = some (.slice Ao42 t351.length co42) := bc_ BK356 1
               have hcz225_2 : w192.cell? ⟨gb356, 2, none⟩ = some (.int .i64 t354) := bc_ BK356 2
               have hfz225_0 := blk_frozen BK356.out 0; have hfz225_1 := blk_frozen BK356.out 1; have hfz225_2 := blk_frozen BK356.out 2
               go_wp2_with (first | ((with_reducible refine gate_callee (f := 15) rfl ?_); refine goesL_ (some 104) rfl rfl Tryd.func15 (by kernel_rfl) rfl #[.agg #[.int .i64 t407, .slice Ao194 t408.length co194, .int .i64 t411], .agg #[.int .i64 t350, .slice Ao42 t351.length co42, .int .i64 t354]] rfl ma_ ?_; (with_reducible refine (laws_eqDyadic.calls kj108 t407 _ _ t408 t411 t350 _ _ t351 t354 false _ ?side1 ?side2 ?side3 ?side4 A197.out).mono ?_); (case side1 => refine (Kd.R_reads' (e := 2) (base := w.heap.size) (ok := fun k_ => (some k_ ≠ (v399 : Value).ownBlock ∧ (some k_ ≠ (v404 : Value).ownBlock ∧ (some k_ ≠ (.slice Ao42 t351.length co42 : Value).ownBlock ∧ (some k_ ≠ (.slice Ao53 t390.length co53 : Value).ownBlock ∧ (some k_ ≠ (.slice Ao63 t392.length co63 : Value).ownBlock ∧ some k_ ≠ (.slice Ao73 t370.length co73 : Value).ownBlock)))))) (n := t408.length) (c := co194) ?_).2.2; exact (rk_ HO410 BK413)); (case side2 => exact (Kd.R_reads' HO410.out).2.1); (case side3 => refine (Kd.R_reads' (e := 2) (base := w.heap.size) (ok := fun k_ => (some k_ ≠ (v399 : Value).ownBlock ∧ (some k_ ≠ (v404 : Value).ownBlock ∧ (some k_ ≠ (.slice Ao194 t408.length co194 : Value).ownBlock ∧ (some k_ ≠ (.slice Ao53 t390.length co53 : Value).ownBlock ∧ (some k_ ≠ (.slice Ao63 t392.length co63 : Value).ownBlock ∧ some k_ ≠ (.slice Ao73 t370.length co73 : Value).ownBlock)))))) (n := t351.length) (c := co42) ?_).2.2; exact (rk_ HO_357001 BK413)); (case side4 => exact (Kd.R_reads' HO_357001.out).2.1); rintro e w226 ⟨rfl, hb⟩; refine ⟨_, rfl, ?_⟩; replace HO_357001 := am_ (Kd.R_below (rk_ HO_357001 BK413) hb); replace HO_363001 := am_ (Kd.R_below (rk_ HO_363001 BK413) hb); replace HO_369001 := am_ (Kd.R_below (rk_ HO_369001 BK413) hb); replace HO_376001 := am_ (Kd.R_below (rk_ HO_376001 BK413) hb); replace HO400 := am_ (Kd.R_below (rk_ HO400 BK413) hb); replace HO405 := am_ (Kd.R_below (rk_ HO405 BK413) hb); replace HO410 := am_ (Kd.R_below (rk_ HO410 BK413) hb); replace BK336 := am_ (blk_below (bk_ BK336) hb); replace BK337 := am_ (blk_below (bk_ BK337) hb); replace BK356 := am_ (blk_below (bk_ BK356) hb); replace BK362 := am_ (blk_below (bk_ BK362) hb); replace BK368 := am_ (blk_below (bk_ BK368) hb); replace BK375 := am_ (blk_below (bk_ BK375) hb); replace BK413 := am_ (blk_below (bp3_ BK413) hb); replace HB := am_ (below_step (bl_ HB) hb); (try clear hb); (try clear hb2); (try clear hk); (try clear hi)))
               go_meet
               case rel => exact ⟨_, (true), (by first | rfl | (simp; done) | (simp [*]; done)), H', ⟨by have := HJ24.out; have := HJ108.out; first | omega | exact Nat.le_refl _⟩, ⟨by (try simp only [hl363001_108]); (try simp only [hl369001_108]); (with_reducible repeat (first | apply Kd.R_alloc | apply Kd.R_drewN | apply Kd.R_drew)); exact Kd.R_mono HO_357001.out (fun _ hk => ⟨hk.2.2.2.1, ⟨hk.2.2.2.2.1, ⟨hk.2.2.2.2.2, hk.2.2.1⟩⟩⟩)⟩, ⟨by (try simp only [hl363001_108]); (try simp only [hl369001_108]); (with_reducible repeat (first | apply Kd.R_alloc | apply Kd.R_drewN | apply Kd.R_drew)); exact Kd.R_mono HO_363001.out (fun _ hk => ⟨hk.2.2.2.1, ⟨hk.2.2.2.2.1, ⟨hk.2.2.2.2.2, hk.2.2.1⟩⟩⟩)⟩, ⟨by (try simp only [hl363001_108]); (try simp only [hl369001_108]); (with_reducible repeat (first | apply Kd.R_alloc | apply Kd.R_drewN | apply Kd.R_drew)); exact Kd.R_mono HO_369001.out (fun _ hk => ⟨hk.2.2.2.1, ⟨hk.2.2.2.2.1, ⟨hk.2.2.2.2.2, hk.2.2.1⟩⟩⟩)⟩, ⟨by (try simp only [hl363001_108]); (try simp only [hl369001_108]); (with_reducible repeat (first | apply Kd.R_alloc | apply Kd.R_drewN | apply Kd.R_drew)); exact Kd.R_mono HO_376001.out (fun _ hk => ⟨hk.2.2.2.1, ⟨hk.2.2.2.2.1, ⟨hk.2.2.2.2.2, hk.2.2.1⟩⟩⟩)⟩, ⟨by (try simp only [hl363001_108]); (try simp only [hl369001_108]); (with_reducible repeat (first | apply Kd.R_alloc | apply Kd.R_drewN | apply Kd.R_drew)); exact Kd.R_mono HO410.out (fun _ hk => ⟨hk.2.2.1, ⟨hk.2.2.2.1, ⟨hk.2.2.2.2.1, hk.2.2.2.2.2⟩⟩⟩)⟩, ⟨by (try simp only [hl363001_108]); (try simp only [hl369001_108]); (with_reducible repeat (first | refine blk_drewN ?_ _ | refine blk_drew ?_ | refine blk_alloc ?_ _)); exact BK336.out⟩, ⟨by (try simp only [hl363001_108]); (try simp only [hl369001_108]); (with_reducible repeat (first | refine blk_drewN ?_ _ | refine blk_drew ?_ | refine blk_alloc ?_ _)); exact BK337.out⟩, ⟨by (try simp only [hl363001_108]); (try simp only [hl369001_108]); (with_reducible repeat (first | refine blk_drewN ?_ _ | refine blk_drew ?_ | refine blk_alloc ?_ _)); exact BK356.out⟩, ⟨by (try simp only [hl363001_108]); (try simp only [hl369001_108]); (with_reducible repeat (first | refine blk_drewN ?_ _ | refine blk_drew ?_ | refine blk_alloc ?_ _)); exact BK362.out⟩, ⟨by (try simp only [hl363001_108]); (try simp only [hl369001_108]); (with_reducible repeat (first | refine blk_drewN ?_ _ | refine blk_drew ?_ | refine blk_alloc ?_ _)); exact BK368.out⟩, ⟨by (try simp only [hl363001_108]); (try simp only [hl369001_108]); (with_reducible repeat (first | refine blk_drewN ?_ _ | refine blk_drew ?_ | refine blk_alloc ?_ _)); exact BK375.out⟩, ⟨by (try simp only [hl363001_108]); (try simp only [hl369001_108]); (with_reducible repeat (first | refine blk_drewN ?_ _ | refine blk_drew ?_ | refine blk_alloc ?_ _)); exact BK413.out⟩, ⟨bl_ HB⟩⟩
             case rest =>
              clear HC175; try clear c1; try clear c2; try clear p2; try clear c13; try clear c14; try clear c15; try clear c19; try clear c20; try clear c21; try clear c22; try clear c198; try clear c199; try clear c200; try clear c201; try clear c202; try clear c203; try clear c204; try clear c206; try clear c207; try clear c208; try clear c209; try clear c210; try clear c213; try clear c214; try clear c215; try clear c216; try clear c217; try clear c218; try clear c220; try clear c221; try clear c222; try clear c223; try clear c224; try clear hcz205_0; try clear hcz205_1; try clear hcz205_2; try clear hcz211_0; try clear hcz211_1; try clear hcz211_2; try clear hcz219_0; try clear hcz219_1; try clear hcz219_2; try clear hcz225_0; try clear hcz225_1; try clear hcz225_2; try clear hfz205_0; try clear hfz205_1; try clear hfz205_2; try clear hfz211_0; try clear hfz211_1; try clear hfz211_2; try clear hfz219_0; try clear hfz219_1; try clear hfz219_2; try clear hfz225_0; try clear hfz225_1; try clear hfz225_2
              obtain ⟨kq, x110_174, rfl, HA, HJ174, HO_357001, HO_363001, HO_369001, HO_376001, HO_414001, BK336, BK337, BK356, BK362, BK368, BK375, BK413, HB⟩ := hcut
              have hl376001_174 := (Kd.R_reads' HO_376001.out).1
              rw [hl376001_174] at HO_376001
              (try simp only [hl376001_174])
              (try simp only [hl376001_174] at BK336)
              (try simp only [hl376001_174] at BK337)
              (try simp only [hl376001_174] at BK356)
              (try simp only [hl376001_174] at BK362)
              (try simp only [hl376001_174] at BK368)
              (try simp only [hl376001_174] at BK375)
              (try simp only [hl376001_174] at BK413)
              (try simp only [hl376001_174] at HO_357001)
              (try simp only [hl376001_174] at HO_363001)
              (try simp only [hl376001_174] at HO_369001)
              (try simp only [hl376001_174] at HO_414001)
              cases kq with
              | zero => exact absurd HA.out (by simp [laws_FnExactAddDyadics.j2])
              | succ kj174 =>
               have H := HA.out; clear HA
               simp only [laws_FnExactAddDyadics.j2] at H
               by_cases c227 : x110_174 = true
               ·subst c227
                have H1 : (some false) = some r := by rw [if_pos rfl] at H; exact H
                clear H; have H := H1; clear H1; obtain rfl := Option.some.inj H
                go_wp2
                go_ret
                exact ⟨by first | rfl | (simp [errW_none, errW_some] <;> rfl) | (simp [*, errW_none, errW_some] <;> rfl), bl_ HB⟩
               ·replace c227 := Bool.eq_false_iff.mpr c227
                subst c227
                have H1 : ((laws_heldDyadic.f kj174 t369 t395 t373 1).bind fun t415 => (if t415 < 0 then (some false) else (if t415 = t394 then (some true) else (some false)))) = some r := by rw [if_neg (show ¬ (false = true) by decide)] at H; exact H
                clear H; have H := H1; clear H1
                replace H := Option.bind_eq_some_iff.mp H
                obtain ⟨t415, A2280, H⟩ := H
                replace H : (if t415 < 0 then (some false) else (if t415 = t394 then (some true) else (some false))) = some r := H
                have A228 := Aside0.mk A2280; clear A2280
                by_cases c229 : t415 < 0
                ·rw [if_pos c229] at H
                 have c229b0 : decide (t415 < 0) = true := decide_eq_true c229
                 clear c229; obtain rfl := Option.some.inj H; have hnb230 := NB375_336.out; have hnc230 := NB336_375.out; have hnb231 := NB375_337.out; have hnc231 := NB337_375.out; have hnb232 := NB375_356.out; have hnc232 := NB356_375.out; have hnb233 := NB375_362.out; have hnc233 := NB362_375.out; have hnb234 := NB375_368.out; have hnc234 := NB368_375.out; have hnb235 := NB375_413.out; have hnc235 := NB413_375.out
                 have hcz236_0 : wc.cell? ⟨gb375, 0, none⟩ = some (.int .i64 t369) := bc_ BK375 0
                 have hcz236_1 : wc.cell? ⟨gb375, 1, none⟩ = some (.slice Ao73 t395.length co73) := bc_ BK375 1
                 have hcz236_2 : wc.cell? ⟨gb375, 2, none⟩ = some (.int .i64 t373) := bc_ BK375 2
                 have hfz236_0 := blk_frozen BK375.out 0; have hfz236_1 := blk_frozen BK375.out 1; have hfz236_2 := blk_frozen BK375.out 2
                 go_wp2_with (first | ((with_reducible refine gate_callee (f := 17) rfl ?_); refine goesL_ (some 113) rfl rfl Tryd.func17 (by kernel_rfl) rfl #[.agg #[.int .i64 t369, .slice Ao73 t395.length co73, .int .i64 t373], .int .i64 1] rfl ma_ ?_; (with_reducible refine (laws_heldDyadic.calls kj174 t369 _ _ t395 t373 1 t415 _ ?side1 ?side2 A228.out).mono ?_); (case side1 => exact cr_ HO_376001); (case side2 => exact (Kd.R_reads' HO_376001.out).2.1); rintro e w237 ⟨rfl, hb⟩; refine ⟨_, rfl, ?_⟩; replace HO_357001 := am_ (Kd.R_below (kr_ HO_357001) hb); replace HO_363001 := am_ (Kd.R_below (kr_ HO_363001) hb); replace HO_369001 := am_ (Kd.R_below (kr_ HO_369001) hb); replace HO_376001 := am_ (Kd.R_below (kr_ HO_376001) hb); replace HO_414001 := am_ (Kd.R_below (kr_ HO_414001) hb); replace BK336 := am_ (blk_below (bk_ BK336) hb); replace BK337 := am_ (blk_below (bk_ BK337) hb); replace BK356 := am_ (blk_below (bk_ BK356) hb); replace BK362 := am_ (blk_below (bk_ BK362) hb); replace BK368 := am_ (blk_below (bk_ BK368) hb); replace BK375 := am_ (blk_below (bk_ BK375) hb); replace BK413 := am_ (blk_below (bk_ BK413) hb); replace HB := am_ (below_step (bl_ HB) hb); (try clear hb); (try clear hb2); (try clear hk); (try clear hi)))
                 go_ret
                 exact ⟨by first | rfl | (simp [errW_none, errW_some] <;> rfl) | (simp [*, errW_none, errW_some] <;> rfl), bl_ HB⟩
                ·rw [if_neg c229] at H
                 have c229b0 : decide (t415 < 0) = false := decide_eq_false c229
                 clear c229
                 by_cases c238 : t415 = t394
                 ·rw [if_pos c238] at H
                  have c238b0 : (t415 == t394) = true := beq_iff_eq.mpr c238
                  have c238b1 : (t415 != t394) = false := bne_eq_false_iff_eq.mpr c238
                  clear c238; obtain rfl := Option.some.inj H; have hnb239 := NB375_336.out; have hnc239 := NB336_375.out; have hnb240 := NB375_337.out; have hnc240 := NB337_375.out; have hnb241 := NB375_356.out; have hnc241 := NB356_375.out; have hnb242 := NB375_362.out; have hnc242 := NB362_375.out; have hnb243 := NB375_368.out; have hnc243 := NB368_375.out; have hnb244 := NB375_413.out; have hnc244 := NB413_375.out
                  have hcz245_0 : wc.cell? ⟨gb375, 0, none⟩ = some (.int .i64 t369) := bc_ BK375 0
                  have hcz245_1 : wc.cell? ⟨gb375, 1, none⟩ = some (.slice Ao73 t395.length co73) := bc_ BK375 1
                  have hcz245_2 : wc.cell? ⟨gb375, 2, none⟩ = some (.int .i64 t373) := bc_ BK375 2
                  have hfz245_0 := blk_frozen BK375.out 0; have hfz245_1 := blk_frozen BK375.out 1; have hfz245_2 := blk_frozen BK375.out 2
                  go_wp2_with (first | ((with_reducible refine gate_callee (f := 17) rfl ?_); refine goesL_ (some 113) rfl rfl Tryd.func17 (by kernel_rfl) rfl #[.agg #[.int .i64 t369, .slice Ao73 t395.length co73, .int .i64 t373], .int .i64 1] rfl ma_ ?_; (with_reducible refine (laws_heldDyadic.calls kj174 t369 _ _ t395 t373 1 t415 _ ?side1 ?side2 A228.out).mono ?_); (case side1 => exact cr_ HO_376001); (case side2 => exact (Kd.R_reads' HO_376001.out).2.1); rintro e w246 ⟨rfl, hb⟩; refine ⟨_, rfl, ?_⟩; replace HO_357001 := am_ (Kd.R_below (kr_ HO_357001) hb); replace HO_363001 := am_ (Kd.R_below (kr_ HO_363001) hb); replace HO_369001 := am_ (Kd.R_below (kr_ HO_369001) hb); replace HO_376001 := am_ (Kd.R_below (kr_ HO_376001) hb); replace HO_414001 := am_ (Kd.R_below (kr_ HO_414001) hb); replace BK336 := am_ (blk_below (bk_ BK336) hb); replace BK337 := am_ (blk_below (bk_ BK337) hb); replace BK356 := am_ (blk_below (bk_ BK356) hb); replace BK362 := am_ (blk_below (bk_ BK362) hb); replace BK368 := am_ (blk_below (bk_ BK368) hb); replace BK375 := am_ (blk_below (bk_ BK375) hb); replace BK413 := am_ (blk_below (bk_ BK413) hb); replace HB := am_ (below_step (bl_ HB) hb); (try clear hb); (try clear hb2); (try clear hk); (try clear hi)))
                  go_ret
                  exact ⟨by first | rfl | (simp [errW_none, errW_some] <;> rfl) | (simp [*, errW_none, errW_some] <;> rfl), bl_ HB⟩
                 ·rw [if_neg c238] at H
                  have c238b0 : (t415 == t394) = false := beq_eq_false_iff_ne.mpr c238
                  have c238b1 : (t415 != t394) = true := bne_iff_ne.mpr c238
                  obtain rfl := Option.some.inj H; have hnb247 := NB375_336.out; have hnc247 := NB336_375.out; have hnb248 := NB375_337.out; have hnc248 := NB337_375.out; have hnb249 := NB375_356.out; have hnc249 := NB356_375.out; have hnb250 := NB375_362.out; have hnc250 := NB362_375.out; have hnb251 := NB375_368.out; have hnc251 := NB368_375.out; have hnb252 := NB375_413.out; have hnc252 := NB413_375.out
                  have hcz253_0 : wc.cell? ⟨gb375, 0, none⟩ = some (.int .i64 t369) := bc_ BK375 0
                  have hcz253_1 : wc.cell? ⟨gb375, 1, none⟩ = some (.slice Ao73 t395.length co73) := bc_ BK375 1
                  have hcz253_2 : wc.cell? ⟨gb375, 2, none⟩ = some (.int .i64 t373) := bc_ BK375 2
                  have hfz253_0 := blk_frozen BK375.out 0; have hfz253_1 := blk_frozen BK375.out 1; have hfz253_2 := blk_frozen BK375.out 2
                  go_wp2_with (first | ((with_reducible refine gate_callee (f := 17) rfl ?_); refine goesL_ (some 113) rfl rfl Tryd.func17 (by kernel_rfl) rfl #[.agg #[.int .i64 t369, .slice Ao73 t395.length co73, .int .i64 t373], .int .i64 1] rfl ma_ ?_; (with_reducible refine (laws_heldDyadic.calls kj174 t369 _ _ t395 t373 1 t415 _ ?side1 ?side2 A228.out).mono ?_); (case side1 => exact cr_ HO_376001); (case side2 => exact (Kd.R_reads' HO_376001.out).2.1); rintro e w254 ⟨rfl, hb⟩; refine ⟨_, rfl, ?_⟩; replace HO_357001 := am_ (Kd.R_below (kr_ HO_357001) hb); replace HO_363001 := am_ (Kd.R_below (kr_ HO_363001) hb); replace HO_369001 := am_ (Kd.R_below (kr_ HO_369001) hb); replace HO_376001 := am_ (Kd.R_below (kr_ HO_376001) hb); replace HO_414001 := am_ (Kd.R_below (kr_ HO_414001) hb); replace BK336 := am_ (blk_below (bk_ BK336) hb); replace BK337 := am_ (blk_below (bk_ BK337) hb); replace BK356 := am_ (blk_below (bk_ BK356) hb); replace BK362 := am_ (blk_below (bk_ BK362) hb); replace BK368 := am_ (blk_below (bk_ BK368) hb); replace BK375 := am_ (blk_below (bk_ BK375) hb); replace BK413 := am_ (blk_below (bk_ BK413) hb); replace HB := am_ (below_step (bl_ HB) hb); (try clear hb); (try clear hb2); (try clear hk); (try clear hi)))
                  go_ret
                  exact ⟨by first | rfl | (simp [errW_none, errW_some] <;> rfl) | (simp [*, errW_none, errW_some] <;> rfl), bl_ HB⟩
            ·rw [if_neg c171] at H
             have c171b0 : (t396 == t394) = false := beq_eq_false_iff_ne.mpr c171
             have c171b1 : (t396 != t394) = true := bne_iff_ne.mpr c171
             obtain rfl := Option.some.inj H; have hnb255 := NB375_336.out; have hnc255 := NB336_375.out; have hnb256 := NB375_337.out; have hnc256 := NB337_375.out; have hnb257 := NB375_356.out; have hnc257 := NB356_375.out; have hnb258 := NB375_362.out; have hnc258 := NB362_375.out; have hnb259 := NB375_368.out; have hnc259 := NB368_375.out
             have hcz260_0 : wc.cell? ⟨gb375, 0, none⟩ = some (.int .i64 t369) := bc_ BK375 0
             have hcz260_1 : wc.cell? ⟨gb375, 1, none⟩ = some (.slice Ao73 t370.length co73) := bc_ BK375 1
             have hcz260_2 : wc.cell? ⟨gb375, 2, none⟩ = some (.int .i64 t373) := bc_ BK375 2
             have hfz260_0 := blk_frozen BK375.out 0; have hfz260_1 := blk_frozen BK375.out 1; have hfz260_2 := blk_frozen BK375.out 2
             go_wp2_with (first | ((with_reducible refine gate_callee (f := 16) rfl ?_); refine goesL_ (some 85) rfl rfl Tryd.func16 (by kernel_rfl) rfl #[.agg #[.int .i64 t369, .slice Ao73 t370.length co73, .int .i64 t373], .int .i64 1] rfl ma_ ?_; (with_reducible refine (laws_markDyadic.calls kj108 t369 (fun k_ => some k_ = (.slice Ao73 t370.length co73 : Value).ownBlock) (.slice Ao73 t370.length co73) t370 t373 1 t394 t395 w _ ?side1 ?side2 A159.out).mono ?_); (case side1 => exact bl_ HB); (case side2 => exact Kd.R_tight rfl HO_376001.out); rintro e w261 ⟨rfl, hy0, hb, hkp⟩; refine ⟨_, rfl, ?_⟩; have n0_ := am_ (Kd.R_mono (ok' := fun k_ => some k_ ≠ (.slice Ao53 t390.length co53 : Value).ownBlock ∧ some k_ ≠ (.slice Ao63 t392.length co63 : Value).ownBlock ∧ some k_ ≠ (.slice Ao73 t370.length co73 : Value).ownBlock) (Kd.R_keptB (HO_357001.out) hkp (fun k_ hk_ hs_ => (hk_.2.2) hs_)) (fun k_ hk_ => ⟨hk_.1.1, hk_.1.2.1, hk_.1.2.2⟩)); have n1_ := am_ (Kd.R_mono (ok' := fun k_ => some k_ ≠ (.slice Ao42 t351.length co42 : Value).ownBlock ∧ some k_ ≠ (.slice Ao63 t392.length co63 : Value).ownBlock ∧ some k_ ≠ (.slice Ao73 t370.length co73 : Value).ownBlock) (Kd.R_keptB (HO_363001.out) hkp (fun k_ hk_ hs_ => (hk_.2.2) hs_)) (fun k_ hk_ => ⟨hk_.1.1, hk_.1.2.1, hk_.1.2.2⟩)); have n2_ := am_ (Kd.R_mono (ok' := fun k_ => some k_ ≠ (.slice Ao42 t351.length co42 : Value).ownBlock ∧ some k_ ≠ (.slice Ao53 t390.length co53 : Value).ownBlock ∧ some k_ ≠ (.slice Ao73 t370.length co73 : Value).ownBlock) (Kd.R_keptB (HO_369001.out) hkp (fun k_ hk_ hs_ => (hk_.2.2) hs_)) (fun k_ hk_ => ⟨hk_.1.1, hk_.1.2.1, hk_.1.2.2⟩)); have n3_ := am_ (Kd.R_reok rfl hy0 (fun k_ e_ => HO_376001.out.1 k_ e_)); have n4_ := am_ (blk_kept (bk_ BK336) hkp (fun hs_ => (fun e_ => (Kd.R_ne HO_376001.out BK336.out (by decide)) e_) hs_)); have n5_ := am_ (blk_kept (bk_ BK337) hkp (fun hs_ => (fun e_ => (Kd.R_ne HO_376001.out BK337.out (by decide)) e_) hs_)); have n6_ := am_ (blk_kept (bk_ BK356) hkp (fun hs_ => (fun e_ => (Kd.R_ne HO_376001.out BK356.out (by decide)) e_) hs_)); have n7_ := am_ (blk_kept (bk_ BK362) hkp (fun hs_ => (fun e_ => (Kd.R_ne HO_376001.out BK362.out (by decide)) e_) hs_)); have n8_ := am_ (blk_kept (bk_ BK368) hkp (fun hs_ => (fun e_ => (Kd.R_ne HO_376001.out BK368.out (by decide)) e_) hs_)); have n9_ := am_ (blk_kept (bk_ BK375) hkp (fun hs_ => (fun e_ => (Kd.R_ne HO_376001.out BK375.out (by decide)) e_) hs_)); have n10_ := am_ (hb); clear HO_357001; clear HO_363001; clear HO_369001; clear HO_376001; clear BK336; clear BK337; clear BK356; clear BK362; clear BK368; clear BK375; clear HB; have HO_357001 := n0_; have HO_363001 := n1_; have HO_369001 := n2_; have HO_376001 := n3_; have BK336 := n4_; have BK337 := n5_; have BK356 := n6_; have BK362 := n7_; have BK368 := n8_; have BK375 := n9_; have HB := n10_; clear n0_ n1_ n2_ n3_ n4_ n5_ n6_ n7_ n8_ n9_ n10_; (try clear hb); (try clear hkp); (try clear hy0); have hcz262_0 : w261.cell? ⟨gb375, 0, none⟩ = some (.int .i64 t369) := bc_ BK375 0; have hcz262_1 : w261.cell? ⟨gb375, 1, none⟩ = some (.slice Ao73 t370.length co73) := bc_ BK375 1; have hcz262_2 : w261.cell? ⟨gb375, 2, none⟩ = some (.int .i64 t373) := bc_ BK375 2; have hfz262_0 := blk_frozen BK375.out 0; have hfz262_1 := blk_frozen BK375.out 1; have hfz262_2 := blk_frozen BK375.out 2) | ((with_reducible refine gate_callee (f := 17) rfl ?_); refine goesL_ (some 88) rfl rfl Tryd.func17 (by kernel_rfl) rfl #[.agg #[.int .i64 t369, .slice Ao73 t395.length co73, .int .i64 t373], .int .i64 1] rfl (by (try simp only [List.map_toArray, List.map_cons, List.map_nil]); first | done | (rw [show t395.length = t370.length from (Kd.R_reads' HO_376001.out).1.symm] <;> rfl) | rfl | (simp only [List.length_drop, List.length_take]; rfl)) ?_; (with_reducible refine (laws_heldDyadic.calls kj108 t369 _ _ t395 t373 1 t396 _ ?side1 ?side2 A160.out).mono ?_); (case side1 => exact cr_ HO_376001); (case side2 => rw [show t395.length = t370.length from (Kd.R_reads' HO_376001.out).1.symm]; exact (Kd.R_reads' HO_376001.out).2.1); rintro e w263 ⟨rfl, hb⟩; refine ⟨_, rfl, ?_⟩; replace HO_357001 := am_ (Kd.R_below (kr_ HO_357001) hb); replace HO_363001 := am_ (Kd.R_below (kr_ HO_363001) hb); replace HO_369001 := am_ (Kd.R_below (kr_ HO_369001) hb); replace HO_376001 := am_ (Kd.R_below (kr_ HO_376001) hb); replace BK336 := am_ (blk_below (bk_ BK336) hb); replace BK337 := am_ (blk_below (bk_ BK337) hb); replace BK356 := am_ (blk_below (bk_ BK356) hb); replace BK362 := am_ (blk_below (bk_ BK362) hb); replace BK368 := am_ (blk_below (bk_ BK368) hb); replace BK375 := am_ (blk_below (bk_ BK375) hb); replace HB := am_ (below_step (bl_ HB) hb); (try clear hb); (try clear hb2); (try clear hk); (try clear hi)))
             go_ret
             exact ⟨by first | rfl | (simp [errW_none, errW_some] <;> rfl) | (simp [*, errW_none, errW_some] <;> rfl), bl_ HB⟩
       ·replace c106 := Bool.eq_false_iff.mpr c106
        subst c106
        have H1 : (some false) = some r := by rw [if_neg (show ¬ (false = true) by decide)] at H; exact H
        clear H; have H := H1; clear H1; obtain rfl := Option.some.inj H
        try go_wp2
        have n0_ := am_ (Kd.R_drew HO_357001.out); have n1_ := am_ (Kd.R_drew HO_363001.out); have n2_ := am_ (Kd.R_drew HO_369001.out); have n3_ := am_ (Kd.R_drew HO_376001.out); have n4_ := am_ (blk_drew BK336.out); have n5_ := am_ (blk_drew BK337.out); have n6_ := am_ (blk_drew BK356.out); have n7_ := am_ (blk_drew BK362.out); have n8_ := am_ (blk_drew BK368.out); have n9_ := am_ (blk_drew BK375.out); have n10_ := am_ (below_drew1 HB.out); clear HO_357001 HO_363001 HO_369001 HO_376001 BK336 BK337 BK356 BK362 BK368 BK375 HB; have HO_357001 := n0_; have HO_363001 := n1_; have HO_369001 := n2_; have HO_376001 := n3_; have BK336 := n4_; have BK337 := n5_; have BK356 := n6_; have BK362 := n7_; have BK368 := n8_; have BK375 := n9_; have HB := n10_; clear n0_ n1_ n2_ n3_ n4_ n5_ n6_ n7_ n8_ n9_ n10_
        refine start_ (n := 5) (S := fun w' => w'.cell? ⟨gb362, 0, none⟩ = some (.int .i64 t357) ∧ w'.cell? ⟨gb362, 1, none⟩ = some (.slice Ao53 t358.length co53) ∧ w'.cell? ⟨gb362, 2, none⟩ = some (.int .i64 t361) ∧ w'.cell? ⟨gb336, 0, none⟩ = some (.int .i64 a0_0) ∧ w'.cell? ⟨gb336, 1, none⟩ = some (.slice A0_1 l0_1.length c0_1) ∧ w'.cell? ⟨gb336, 2, none⟩ = some (.int .i64 a0_2)) (ds := []) #[false, false, false, false, false] (by kernel_rfl) rfl rfl ⟨bc_ BK362 0, bc_ BK362 1, bc_ BK362 2, bc_ BK336 0, bc_ BK336 1, bc_ BK336 2⟩ (fun hHeld => ?_)
        generalize wc.drew = w264 at HO_357001 HO_363001 HO_369001 HO_376001 BK336 BK337 BK356 BK362 BK368 BK375 HB hHeld ⊢
        refine take_ (i := 0) (N := some 54) (v := ?_) (a' := ?_) #[true, false, false, false, false] rfl rfl (by kernel_rfl) (fun _ _ _ h => h) (Or.inl ⟨by rfl, ?_⟩) hHeld ?_ ?_
        rotate_left
        ·rintro w' ⟨s0, s1, s2, s3, s4, s5⟩
         go_simp
         with_reducible rfl
        rotate_left
        ·exact nm_
        refine take_ (i := 1) (N := some 55) (v := ?_) (a' := ?_) #[true, true, false, false, false] rfl rfl (by kernel_rfl) (fun _ _ _ h => h) (Or.inl ⟨by rfl, ?_⟩) hHeld ?_ ?_
        rotate_left
        ·rintro w' ⟨s0, s1, s2, s3, s4, s5⟩
         go_simp
         with_reducible rfl
        rotate_left
        ·exact nm_
        refine one_ (i := 2) (N := some 56) #[true, true, true, false, false] rfl rfl (by kernel_rfl) (by decide) (fun K hK => ?_)
        refine goes_ Tryd.func13 (by kernel_rfl) rfl #[.agg #[.int .i64 a0_0, .slice A0_1 l0_1.length c0_1, .int .i64 a0_2]] (by rfl) rfl rfl ma_ ?_
        with_reducible refine (laws_toDyadic.calls kj24 a0_0 _ _ l0_1 a0_2 t377 t378 t381 _ ?side1 ?side2 A101.out).mono ?_
        (case side1 => exact cb_ HR0_1 HB)
        (case side2 => exact HC0_1.out)
        rintro e w265 ⟨v379, rfl, ho0, hb⟩
        refine ⟨_, rfl, ?_⟩
        have n0_ := am_ (Kd.R_elder' (kr_ HO_357001) (Kd.R_base ho0) hb); have n1_ := am_ (Kd.R_elder' (kr_ HO_363001) (Kd.R_base ho0) hb); have n2_ := am_ (Kd.R_elder' (kr_ HO_369001) (Kd.R_base ho0) hb); have n3_ := am_ (Kd.R_elder' (kr_ HO_376001) (Kd.R_base ho0) hb); have n4_ := am_ (Kd.R_lower (Kd.R_new' (Kd.R_new' (Kd.R_new' (Kd.R_new' ho0 (Kd.R_lt (kr_ HO_357001))) (Kd.R_lt (kr_ HO_363001))) (Kd.R_lt (kr_ HO_369001))) (Kd.R_lt (kr_ HO_376001))) (below_size (bl_ HB))); have n5_ := am_ (blk_below (bk_ BK336) hb); have n6_ := am_ (blk_below (bk_ BK337) hb); have n7_ := am_ (blk_below (bk_ BK356) hb); have n8_ := am_ (blk_below (bk_ BK362) hb); have n9_ := am_ (blk_below (bk_ BK368) hb); have n10_ := am_ (blk_below (bk_ BK375) hb); have n11_ := am_ (below_step (bl_ HB) hb); clear HO_357001 HO_363001 HO_369001 HO_376001 BK336 BK337 BK356 BK362 BK368 BK375 HB; have HO_357001 := n0_; have HO_363001 := n1_; have HO_369001 := n2_; have HO_376001 := n3_; have HO380 := n4_; have BK336 := n5_; have BK337 := n6_; have BK356 := n7_; have BK362 := n8_; have BK368 := n9_; have BK375 := n10_; have HB := n11_; clear n0_ n1_ n2_ n3_ n4_ n5_ n6_ n7_ n8_ n9_ n10_ n11_; (try clear hb); (try clear hb2); (try clear hk); (try clear hi); (try clear ho0)
        obtain ⟨Ao266, co266, eo266⟩ := Kd.R_slice HO380.out
        (first | subst eo266 | (injection eo266 with f1_ f2_ f3_; have f4_ := f1_.symm; have f5_ := f3_.symm; clear f1_ f2_ f3_; subst f4_; subst f5_))
        refine hK.out _ _ ⟨bc_ BK362 0, bc_ BK362 1, bc_ BK362 2, bc_ BK336 0, bc_ BK336 1, bc_ BK336 2⟩ (fun hHeld => ?_)
        clear hK K
        refine norm_ (a' := ?_) ?_ ?_
        rotate_left
        ·show Act.put _ (some 56) _ = _
         exact nm_
        refine one_ (i := 3) (N := some 57) #[true, true, true, true, false] rfl rfl (by kernel_rfl) (by decide) (fun K hK => ?_)
        refine goes_ Tryd.func15 (by kernel_rfl) rfl #[.agg #[.int .i64 t357, .slice Ao53 t358.length co53, .int .i64 t361], .agg #[.int .i64 t377, .slice Ao266 t378.length co266, .int .i64 t381]] (by rfl) rfl rfl ma_ ?_
        with_reducible refine (laws_eqDyadic.calls kj24 t357 _ _ t358 t361 t377 _ _ t378 t381 true _ ?side1 ?side2 ?side3 ?side4 A102.out).mono ?_
        (case side1 => exact cr_ HO_363001)
        (case side2 => exact (Kd.R_reads' HO_363001.out).2.1)
        (case side3 => exact cr_ HO380)
        (case side4 => exact (Kd.R_reads' HO380.out).2.1)
        rintro e w267 ⟨rfl, hb⟩
        refine ⟨_, rfl, ?_⟩
        have n0_ := am_ (Kd.R_below (kr_ HO_357001) hb); have n1_ := am_ (Kd.R_below (kr_ HO_363001) hb); have n2_ := am_ (Kd.R_below (kr_ HO_369001) hb); have n3_ := am_ (Kd.R_below (kr_ HO_376001) hb); have n4_ := am_ (Kd.R_below (kr_ HO380) hb); have n5_ := am_ (blk_below (bk_ BK336) hb); have n6_ := am_ (blk_below (bk_ BK337) hb); have n7_ := am_ (blk_below (bk_ BK356) hb); have n8_ := am_ (blk_below (bk_ BK362) hb); have n9_ := am_ (blk_below (bk_ BK368) hb); have n10_ := am_ (blk_below (bk_ BK375) hb); have n11_ := am_ (below_step (bl_ HB) hb); clear HO_357001 HO_363001 HO_369001 HO_376001 HO380 BK336 BK337 BK356 BK362 BK368 BK375 HB; have HO_357001 := n0_; have HO_363001 := n1_; have HO_369001 := n2_; have HO_376001 := n3_; have HO380 := n4_; have BK336 := n5_; have BK337 := n6_; have BK356 := n7_; have BK362 := n8_; have BK368 := n9_; have BK375 := n10_; have HB := n11_; clear n0_ n1_ n2_ n3_ n4_ n5_ n6_ n7_ n8_ n9_ n10_ n11_; (try clear hb); (try clear hb2); (try clear hk); (try clear hi)
        refine hK.out _ _ ⟨bc_ BK362 0, bc_ BK362 1, bc_ BK362 2, bc_ BK336 0, bc_ BK336 1, bc_ BK336 2⟩ (fun hHeld => ?_)
        clear hK K
        refine norm_ (a' := ?_) ?_ ?_
        rotate_left
        ·show Act.put _ (some 57) _ = _
         exact nm_
        refine pure_ (i := 4) (N := some 58) (v := ?_) (a' := ?_) #[true, true, true, true, true] rfl rfl (by kernel_rfl) (fun _ _ _ h => h) (Or.inl ⟨by rfl, ?_⟩) ?_ ?_
        rotate_left
        ·intro w'
         go_simp
         with_reducible rfl
        rotate_left
        ·exact nm_
        refine done_ (by kernel_rfl) ?_
        try go_wp2
        have n0_ := am_ (Kd.R_drew HO_357001.out); have n1_ := am_ (Kd.R_drew HO_363001.out); have n2_ := am_ (Kd.R_drew HO_369001.out); have n3_ := am_ (Kd.R_drew HO_376001.out); have n4_ := am_ (Kd.R_drew HO380.out); have n5_ := am_ (blk_drew BK336.out); have n6_ := am_ (blk_drew BK337.out); have n7_ := am_ (blk_drew BK356.out); have n8_ := am_ (blk_drew BK362.out); have n9_ := am_ (blk_drew BK368.out); have n10_ := am_ (blk_drew BK375.out); have n11_ := am_ (below_drew1 HB.out); clear HO_357001 HO_363001 HO_369001 HO_376001 HO380 BK336 BK337 BK356 BK362 BK368 BK375 HB; have HO_357001 := n0_; have HO_363001 := n1_; have HO_369001 := n2_; have HO_376001 := n3_; have HO380 := n4_; have BK336 := n5_; have BK337 := n6_; have BK356 := n7_; have BK362 := n8_; have BK368 := n9_; have BK375 := n10_; have HB := n11_; clear n0_ n1_ n2_ n3_ n4_ n5_ n6_ n7_ n8_ n9_ n10_ n11_
        refine start_ (n := 5) (S := fun w' => w'.cell? ⟨gb368, 0, none⟩ = some (.int .i64 t363) ∧ w'.cell? ⟨gb368, 1, none⟩ = some (.slice Ao63 t364.length co63) ∧ w'.cell? ⟨gb368, 2, none⟩ = some (.int .i64 t367) ∧ w'.cell? ⟨gb337, 0, none⟩ = some (.int .i64 a1_0) ∧ w'.cell? ⟨gb337, 1, none⟩ = some (.slice A1_1 l1_1.length c1_1) ∧ w'.cell? ⟨gb337, 2, none⟩ = some (.int .i64 a1_2)) (ds := []) #[false, false, false, false, false] (by kernel_rfl) rfl rfl ⟨bc_ BK368 0, bc_ BK368 1, bc_ BK368 2, bc_ BK337 0, bc_ BK337 1, bc_ BK337 2⟩ (fun hHeld => ?_)
        generalize w267.drew = w268 at HO_357001 HO_363001 HO_369001 HO_376001 HO380 BK336 BK337 BK356 BK362 BK368 BK375 HB hHeld ⊢
        refine take_ (i := 0) (N := some 59) (v := ?_) (a' := ?_) #[true, false, false, false, false] rfl rfl (by kernel_rfl) (fun _ _ _ h => h) (Or.inl ⟨by rfl, ?_⟩) hHeld ?_ ?_
        rotate_left
        ·rintro w' ⟨s0, s1, s2, s3, s4, s5⟩
         go_simp
         with_reducible rfl
        rotate_left
        ·exact nm_
        refine take_ (i := 1) (N := some 60) (v := ?_) (a' := ?_) #[true, true, false, false, false] rfl rfl (by kernel_rfl) (fun _ _ _ h => h) (Or.inl ⟨by rfl, ?_⟩) hHeld ?_ ?_
        rotate_left
        ·rintro w' ⟨s0, s1, s2, s3, s4, s5⟩
         go_simp
         with_reducible rfl
        rotate_left
        ·exact nm_
        refine one_ (i := 2) (N := some 61) #[true, true, true, false, false] rfl rfl (by kernel_rfl) (by decide) (fun K hK => ?_)
        refine goes_ Tryd.func13 (by kernel_rfl) rfl #[.agg #[.int .i64 a1_0, .slice A1_1 l1_1.length c1_1, .int .i64 a1_2]] (by rfl) rfl rfl ma_ ?_
        with_reducible refine (laws_toDyadic.calls kj24 a1_0 _ _ l1_1 a1_2 t383 t384 t387 _ ?side1 ?side2 A104.out).mono ?_
        (case side1 => exact cb_ HR1_1 HB)
        (case side2 => exact HC1_1.out)
        rintro e w269 ⟨v385, rfl, ho0, hb⟩
        refine ⟨_, rfl, ?_⟩
        have n0_ := am_ (Kd.R_elder' (kr_ HO_357001) (Kd.R_base ho0) hb); have n1_ := am_ (Kd.R_elder' (kr_ HO_363001) (Kd.R_base ho0) hb); have n2_ := am_ (Kd.R_elder' (kr_ HO_369001) (Kd.R_base ho0) hb); have n3_ := am_ (Kd.R_elder' (kr_ HO_376001) (Kd.R_base ho0) hb); have n4_ := am_ (Kd.R_elder' (kr_ HO380) (Kd.R_base ho0) hb); have n5_ := am_ (Kd.R_lower (Kd.R_new' (Kd.R_new' (Kd.R_new' (Kd.R_new' (Kd.R_new' ho0 (Kd.R_lt (kr_ HO_357001))) (Kd.R_lt (kr_ HO_363001))) (Kd.R_lt (kr_ HO_369001))) (Kd.R_lt (kr_ HO_376001))) (Kd.R_lt (kr_ HO380))) (below_size (bl_ HB))); have n6_ := am_ (blk_below (bk_ BK336) hb); have n7_ := am_ (blk_below (bk_ BK337) hb); have n8_ := am_ (blk_below (bk_ BK356) hb); have n9_ := am_ (blk_below (bk_ BK362) hb); have n10_ := am_ (blk_below (bk_ BK368) hb); have n11_ := am_ (blk_below (bk_ BK375) hb); have n12_ := am_ (below_step (bl_ HB) hb); clear HO_357001 HO_363001 HO_369001 HO_376001 HO380 BK336 BK337 BK356 BK362 BK368 BK375 HB; have HO_357001 := n0_; have HO_363001 := n1_; have HO_369001 := n2_; have HO_376001 := n3_; have HO380 := n4_; have HO386 := n5_; have BK336 := n6_; have BK337 := n7_; have BK356 := n8_; have BK362 := n9_; have BK368 := n10_; have BK375 := n11_; have HB := n12_; clear n0_ n1_ n2_ n3_ n4_ n5_ n6_ n7_ n8_ n9_ n10_ n11_ n12_; (try clear hb); (try clear hb2); (try clear hk); (try clear hi); (try clear ho0)
        obtain ⟨Ao270, co270, eo270⟩ := Kd.R_slice HO386.out
        (first | subst eo270 | (injection eo270 with f1_ f2_ f3_; have f4_ := f1_.symm; have f5_ := f3_.symm; clear f1_ f2_ f3_; subst f4_; subst f5_))
        refine hK.out _ _ ⟨bc_ BK368 0, bc_ BK368 1, bc_ BK368 2, bc_ BK337 0, bc_ BK337 1, bc_ BK337 2⟩ (fun hHeld => ?_)
        clear hK K
        refine norm_ (a' := ?_) ?_ ?_
        rotate_left
        ·show Act.put _ (some 61) _ = _
         exact nm_
        refine one_ (i := 3) (N := some 62) #[true, true, true, true, false] rfl rfl (by kernel_rfl) (by decide) (fun K hK => ?_)
        refine goes_ Tryd.func15 (by kernel_rfl) rfl #[.agg #[.int .i64 t363, .slice Ao63 t364.length co63, .int .i64 t367], .agg #[.int .i64 t383, .slice Ao270 t384.length co270, .int .i64 t387]] (by rfl) rfl rfl ma_ ?_
        with_reducible refine (laws_eqDyadic.calls kj24 t363 _ _ t364 t367 t383 _ _ t384 t387 false _ ?side1 ?side2 ?side3 ?side4 A105.out).mono ?_
        (case side1 => exact cr_ HO_369001)
        (case side2 => exact (Kd.R_reads' HO_369001.out).2.1)
        (case side3 => exact cr_ HO386)
        (case side4 => exact (Kd.R_reads' HO386.out).2.1)
        rintro e w271 ⟨rfl, hb⟩
        refine ⟨_, rfl, ?_⟩
        have n0_ := am_ (Kd.R_below (kr_ HO_357001) hb); have n1_ := am_ (Kd.R_below (kr_ HO_363001) hb); have n2_ := am_ (Kd.R_below (kr_ HO_369001) hb); have n3_ := am_ (Kd.R_below (kr_ HO_376001) hb); have n4_ := am_ (Kd.R_below (kr_ HO380) hb); have n5_ := am_ (Kd.R_below (kr_ HO386) hb); have n6_ := am_ (blk_below (bk_ BK336) hb); have n7_ := am_ (blk_below (bk_ BK337) hb); have n8_ := am_ (blk_below (bk_ BK356) hb); have n9_ := am_ (blk_below (bk_ BK362) hb); have n10_ := am_ (blk_below (bk_ BK368) hb); have n11_ := am_ (blk_below (bk_ BK375) hb); have n12_ := am_ (below_step (bl_ HB) hb); clear HO_357001 HO_363001 HO_369001 HO_376001 HO380 HO386 BK336 BK337 BK356 BK362 BK368 BK375 HB; have HO_357001 := n0_; have HO_363001 := n1_; have HO_369001 := n2_; have HO_376001 := n3_; have HO380 := n4_; have HO386 := n5_; have BK336 := n6_; have BK337 := n7_; have BK356 := n8_; have BK362 := n9_; have BK368 := n10_; have BK375 := n11_; have HB := n12_; clear n0_ n1_ n2_ n3_ n4_ n5_ n6_ n7_ n8_ n9_ n10_ n11_ n12_; (try clear hb); (try clear hb2); (try clear hk); (try clear hi)
        refine hK.out _ _ ⟨bc_ BK368 0, bc_ BK368 1, bc_ BK368 2, bc_ BK337 0, bc_ BK337 1, bc_ BK337 2⟩ (fun hHeld => ?_)
        clear hK K
        refine norm_ (a' := ?_) ?_ ?_
        rotate_left
        ·show Act.put _ (some 62) _ = _
         exact nm_
        refine pure_ (i := 4) (N := some 63) (v := ?_) (a' := ?_) #[true, true, true, true, true] rfl rfl (by kernel_rfl) (fun _ _ _ h => h) (Or.inl ⟨by rfl, ?_⟩) ?_ ?_
        rotate_left
        ·intro w'
         go_simp
         with_reducible rfl
        rotate_left
        ·exact nm_
        refine done_ (by kernel_rfl) ?_
        try go_wp2
        go_ret
        exact ⟨by first | rfl | (simp [errW_none, errW_some] <;> rfl) | (simp [*, errW_none, errW_some] <;> rfl), bl_ HB⟩
      ·replace c103 := Bool.eq_false_iff.mpr c103
       subst c103
       have H1 : (some false) = some r := by rw [if_neg (show ¬ (false = true) by decide)] at H; exact H
       clear H; have H := H1; clear H1; obtain rfl := Option.some.inj H
       try go_wp2
       have n0_ := am_ (Kd.R_drew HO_357001.out); have n1_ := am_ (Kd.R_drew HO_363001.out); have n2_ := am_ (Kd.R_drew HO_369001.out); have n3_ := am_ (Kd.R_drew HO_376001.out); have n4_ := am_ (blk_drew BK336.out); have n5_ := am_ (blk_drew BK337.out); have n6_ := am_ (blk_drew BK356.out); have n7_ := am_ (blk_drew BK362.out); have n8_ := am_ (blk_drew BK368.out); have n9_ := am_ (blk_drew BK375.out); have n10_ := am_ (below_drew1 HB.out); clear HO_357001 HO_363001 HO_369001 HO_376001 BK336 BK337 BK356 BK362 BK368 BK375 HB; have HO_357001 := n0_; have HO_363001 := n1_; have HO_369001 := n2_; have HO_376001 := n3_; have BK336 := n4_; have BK337 := n5_; have BK356 := n6_; have BK362 := n7_; have BK368 := n8_; have BK375 := n9_; have HB := n10_; clear n0_ n1_ n2_ n3_ n4_ n5_ n6_ n7_ n8_ n9_ n10_
       refine start_ (n := 5) (S := fun w' => w'.cell? ⟨gb362, 0, none⟩ = some (.int .i64 t357) ∧ w'.cell? ⟨gb362, 1, none⟩ = some (.slice Ao53 t358.length co53) ∧ w'.cell? ⟨gb362, 2, none⟩ = some (.int .i64 t361) ∧ w'.cell? ⟨gb336, 0, none⟩ = some (.int .i64 a0_0) ∧ w'.cell? ⟨gb336, 1, none⟩ = some (.slice A0_1 l0_1.length c0_1) ∧ w'.cell? ⟨gb336, 2, none⟩ = some (.int .i64 a0_2)) (ds := []) #[false, false, false, false, false] (by kernel_rfl) rfl rfl ⟨bc_ BK362 0, bc_ BK362 1, bc_ BK362 2, bc_ BK336 0, bc_ BK336 1, bc_ BK336 2⟩ (fun hHeld => ?_)
       generalize wc.drew = w272 at HO_357001 HO_363001 HO_369001 HO_376001 BK336 BK337 BK356 BK362 BK368 BK375 HB hHeld ⊢
       refine take_ (i := 0) (N := some 54) (v := ?_) (a' := ?_) #[true, false, false, false, false] rfl rfl (by kernel_rfl) (fun _ _ _ h => h) (Or.inl ⟨by rfl, ?_⟩) hHeld ?_ ?_
       rotate_left
       ·rintro w' ⟨s0, s1, s2, s3, s4, s5⟩
        go_simp
        with_reducible rfl
       rotate_left
       ·exact nm_
       refine take_ (i := 1) (N := some 55) (v := ?_) (a' := ?_) #[true, true, false, false, false] rfl rfl (by kernel_rfl) (fun _ _ _ h => h) (Or.inl ⟨by rfl, ?_⟩) hHeld ?_ ?_
       rotate_left
       ·rintro w' ⟨s0, s1, s2, s3, s4, s5⟩
        go_simp
        with_reducible rfl
       rotate_left
       ·exact nm_
       refine one_ (i := 2) (N := some 56) #[true, true, true, false, false] rfl rfl (by kernel_rfl) (by decide) (fun K hK => ?_)
       refine goes_ Tryd.func13 (by kernel_rfl) rfl #[.agg #[.int .i64 a0_0, .slice A0_1 l0_1.length c0_1, .int .i64 a0_2]] (by rfl) rfl rfl ma_ ?_
       with_reducible refine (laws_toDyadic.calls kj24 a0_0 _ _ l0_1 a0_2 t377 t378 t381 _ ?side1 ?side2 A101.out).mono ?_
       (case side1 => exact cb_ HR0_1 HB)
       (case side2 => exact HC0_1.out)
       rintro e w273 ⟨v379, rfl, ho0, hb⟩
       refine ⟨_, rfl, ?_⟩
       have n0_ := am_ (Kd.R_elder' (kr_ HO_357001) (Kd.R_base ho0) hb); have n1_ := am_ (Kd.R_elder' (kr_ HO_363001) (Kd.R_base ho0) hb); have n2_ := am_ (Kd.R_elder' (kr_ HO_369001) (Kd.R_base ho0) hb); have n3_ := am_ (Kd.R_elder' (kr_ HO_376001) (Kd.R_base ho0) hb); have n4_ := am_ (Kd.R_lower (Kd.R_new' (Kd.R_new' (Kd.R_new' (Kd.R_new' ho0 (Kd.R_lt (kr_ HO_357001))) (Kd.R_lt (kr_ HO_363001))) (Kd.R_lt (kr_ HO_369001))) (Kd.R_lt (kr_ HO_376001))) (below_size (bl_ HB))); have n5_ := am_ (blk_below (bk_ BK336) hb); have n6_ := am_ (blk_below (bk_ BK337) hb); have n7_ := am_ (blk_below (bk_ BK356) hb); have n8_ := am_ (blk_below (bk_ BK362) hb); have n9_ := am_ (blk_below (bk_ BK368) hb); have n10_ := am_ (blk_below (bk_ BK375) hb); have n11_ := am_ (below_step (bl_ HB) hb); clear HO_357001 HO_363001 HO_369001 HO_376001 BK336 BK337 BK356 BK362 BK368 BK375 HB; have HO_357001 := n0_; have HO_363001 := n1_; have HO_369001 := n2_; have HO_376001 := n3_; have HO380 := n4_; have BK336 := n5_; have BK337 := n6_; have BK356 := n7_; have BK362 := n8_; have BK368 := n9_; have BK375 := n10_; have HB := n11_; clear n0_ n1_ n2_ n3_ n4_ n5_ n6_ n7_ n8_ n9_ n10_ n11_; (try clear hb); (try clear hb2); (try clear hk); (try clear hi); (try clear ho0)
       obtain ⟨Ao274, co274, eo274⟩ := Kd.R_slice HO380.out
       (first | subst eo274 | (injection eo274 with f1_ f2_ f3_; have f4_ := f1_.symm; have f5_ := f3_.symm; clear f1_ f2_ f3_; subst f4_; subst f5_))
       refine hK.out _ _ ⟨bc_ BK362 0, bc_ BK362 1, bc_ BK362 2, bc_ BK336 0, bc_ BK336 1, bc_ BK336 2⟩ (fun hHeld => ?_)
       clear hK K
       refine norm_ (a' := ?_) ?_ ?_
       rotate_left
       ·show Act.put _ (some 56) _ = _
        exact nm_
       refine one_ (i := 3) (N := some 57) #[true, true, true, true, false] rfl rfl (by kernel_rfl) (by decide) (fun K hK => ?_)
       refine goes_ Tryd.func15 (by kernel_rfl) rfl #[.agg #[.int .i64 t357, .slice Ao53 t358.length co53, .int .i64 t361], .agg #[.int .i64 t377, .slice Ao274 t378.length co274, .int .i64 t381]] (by rfl) rfl rfl ma_ ?_
       with_reducible refine (laws_eqDyadic.calls kj24 t357 _ _ t358 t361 t377 _ _ t378 t381 false _ ?side1 ?side2 ?side3 ?side4 A102.out).mono ?_
       (case side1 => exact cr_ HO_363001)
       (case side2 => exact (Kd.R_reads' HO_363001.out).2.1)
       (case side3 => exact cr_ HO380)
       (case side4 => exact (Kd.R_reads' HO380.out).2.1)
       rintro e w275 ⟨rfl, hb⟩
       refine ⟨_, rfl, ?_⟩
       have n0_ := am_ (Kd.R_below (kr_ HO_357001) hb); have n1_ := am_ (Kd.R_below (kr_ HO_363001) hb); have n2_ := am_ (Kd.R_below (kr_ HO_369001) hb); have n3_ := am_ (Kd.R_below (kr_ HO_376001) hb); have n4_ := am_ (Kd.R_below (kr_ HO380) hb); have n5_ := am_ (blk_below (bk_ BK336) hb); have n6_ := am_ (blk_below (bk_ BK337) hb); have n7_ := am_ (blk_below (bk_ BK356) hb); have n8_ := am_ (blk_below (bk_ BK362) hb); have n9_ := am_ (blk_below (bk_ BK368) hb); have n10_ := am_ (blk_below (bk_ BK375) hb); have n11_ := am_ (below_step (bl_ HB) hb); clear HO_357001 HO_363001 HO_369001 HO_376001 HO380 BK336 BK337 BK356 BK362 BK368 BK375 HB; have HO_357001 := n0_; have HO_363001 := n1_; have HO_369001 := n2_; have HO_376001 := n3_; have HO380 := n4_; have BK336 := n5_; have BK337 := n6_; have BK356 := n7_; have BK362 := n8_; have BK368 := n9_; have BK375 := n10_; have HB := n11_; clear n0_ n1_ n2_ n3_ n4_ n5_ n6_ n7_ n8_ n9_ n10_ n11_; (try clear hb); (try clear hb2); (try clear hk); (try clear hi)
       refine hK.out _ _ ⟨bc_ BK362 0, bc_ BK362 1, bc_ BK362 2, bc_ BK336 0, bc_ BK336 1, bc_ BK336 2⟩ (fun hHeld => ?_)
       clear hK K
       refine norm_ (a' := ?_) ?_ ?_
       rotate_left
       ·show Act.put _ (some 57) _ = _
        exact nm_
       refine pure_ (i := 4) (N := some 58) (v := ?_) (a' := ?_) #[true, true, true, true, true] rfl rfl (by kernel_rfl) (fun _ _ _ h => h) (Or.inl ⟨by rfl, ?_⟩) ?_ ?_
       rotate_left
       ·intro w'
        go_simp
        with_reducible rfl
       rotate_left
       ·exact nm_
       refine done_ (by kernel_rfl) ?_
       try go_wp2
       go_ret
       exact ⟨by first | rfl | (simp [errW_none, errW_some] <;> rfl) | (simp [*, errW_none, errW_some] <;> rfl), bl_ HB⟩

end Go.Proofs.YthddlechoibdkaaDoor.X
